/- Texts of one proof, laid one behind the other (ST4, ST5, MP); no condition but what stands at each theorem. -/
import Derived.Test.YtkelmeemblmggaaGreatDoorZB
import Derived.Test.YtkelmeemblmggaaGreatDoorZC
import Derived.Test.YtkelmeemblmggaaGreatDoorZM
/- FormatAct of both sides; no condition but what stands at each theorem. -/
namespace Go.Proofs.YtkelmeemblmggaaGreatDoor
set_option linter.unusedSimpArgs false
set_option linter.unusedVariables false
open Go.RowKit Go.Sort
def wordOf (k : Int) : ByteArray := if k = 1 then ⟨#[119, 97, 108, 107]⟩ else if k = 2 then ⟨#[109, 111, 118, 101]⟩ else if k = 3 then ⟨#[100, 97, 121, 115]⟩ else if k = 4 then ⟨#[97, 117, 100, 105, 116]⟩ else if k = 5 then ⟨#[119, 104, 101, 114, 101]⟩ else ByteArray.empty
def cntOf (k : Int) : Nat := if k = 1 then 2 else if k = 2 then 4 else if k = 3 then 1 else if k = 5 then 1 else 0
/-- The text of an act; empty where it is none. -/
def actT (a : GAct) : ByteArray := if acOk a then numsF (wordOf a.k) ([a.a, a.b, a.c, a.d].take (cntOf a.k)) else ByteArray.empty
theorem ac_cases {a : GAct} (h : acOk a = true) : (a.k = 1 ∨ a.k = 2 ∨ a.k = 3 ∨ a.k = 4 ∨ a.k = 5) ∧ (0 ≤ a.a ∧ a.a ≤ 1000) ∧ (0 ≤ a.b ∧ a.b ≤ 1000) ∧ (0 ≤ a.c ∧ a.c ≤ 1000) ∧ (0 ≤ a.d ∧ a.d ≤ 1000) := by
  unfold acOk at h
  by_cases h1 : a.k = 1
  · simp [h1, inB] at h; omega
  by_cases h2 : a.k = 2
  · simp [h2, inB] at h; omega
  by_cases h3 : a.k = 3
  · simp [h3, inB] at h; omega
  by_cases h5 : a.k = 5
  · simp [h5, inB] at h; omega
  by_cases h4 : a.k = 4
  · simp [h4] at h; omega
  · simp [h1, h2, h3, h4, h5] at h
theorem vals_ok {x y z u : Int} (hx : 0 ≤ x ∧ x ≤ 1000) (hy : 0 ≤ y ∧ y ≤ 1000) (hz : 0 ≤ z ∧ z ≤ 1000) (hu : 0 ≤ u ∧ u ≤ 1000) : ∀ v ∈ ([x, y, z, u] : List Int), 0 ≤ v ∧ v ≤ 1000 := by
  intro v hv
  simp only [List.mem_cons, List.not_mem_nil, or_false] at hv
  rcases hv with rfl | rfl | rfl | rfl <;> assumption
set_option maxRecDepth 100000 in
set_option maxHeartbeats 2000000 in
theorem spec_FormatAct_1 (x y z u : Int) (hx : 0 ≤ x ∧ x ≤ 1000) (hy : 0 ≤ y ∧ y ≤ 1000) (hz : 0 ≤ z ∧ z ≤ 1000) (hu : 0 ≤ u ∧ u ≤ 1000) (hok : acOk ⟨1, x, y, z, u⟩ = true) (w : World) :
    Calls Tryz.prog 163 #[.agg #[.int .i64 1, .int .i64 x, .int .i64 y, .int .i64 z, .int .i64 u]] w fun e w' => e = .returned (.tuple #[.string (numsF ⟨#[119, 97, 108, 107]⟩ ([x, y, z, u].take 2)), .bool true]) ∧ Ext w w' := by
  obtain ⟨wa, hwa⟩ : ∃ wa, wa = w.alloc (.cells #[.int .i64 1, .int .i64 x, .int .i64 y, .int .i64 z, .int .i64 u] 37) := ⟨_, rfl⟩
  have hEa : Ext w wa := by rw [hwa]; exact (Ext.refl w).alloc _
  have hsa : wa.heap.size = w.heap.size + 1 := by rw [hwa]; simp
  have hk0 : wa.cell? ⟨w.heap.size, 0, none⟩ = some (.int .i64 1) := by rw [hwa]; simp [World.cell?_alloc_at]
  have hk1 : wa.cell? ⟨w.heap.size, 1, none⟩ = some (.int .i64 x) := by rw [hwa]; simp [World.cell?_alloc_at]
  have hk2 : wa.cell? ⟨w.heap.size, 2, none⟩ = some (.int .i64 y) := by rw [hwa]; simp [World.cell?_alloc_at]
  have hk3 : wa.cell? ⟨w.heap.size, 3, none⟩ = some (.int .i64 z) := by rw [hwa]; simp [World.cell?_alloc_at]
  have hk4 : wa.cell? ⟨w.heap.size, 4, none⟩ = some (.int .i64 u) := by rw [hwa]; simp [World.cell?_alloc_at]
  have Hk := Lib.hid (And.intro hk0 (And.intro hk1 (And.intro hk2 (And.intro hk3 hk4))))
  have Hwa := Lib.hid hwa
  have HEa := Lib.hid hEa
  have HV := Lib.hid (vals_ok hx hy hz hu)
  obtain ⟨xs, hxs⟩ : ∃ xs : List Int, xs = [x, y, z, u] := ⟨_, rfl⟩
  rw [← hxs] at HV ⊢
  have Hxs := Lib.hid hxs
  have cA := Lib.hid (spec_ActOk ⟨1, x, y, z, u⟩ wa)
  rw [hok] at cA
  clear hwa hEa hk0 hk1 hk2 hk3 hk4 hxs hok hx hy hz hu
  go_enter Tryz.func163, Tryz.ntmps163
  go_wp2_with fail
  rw [← Hwa.out]
  refine cA.out.mono ?_
  rintro e w1 ⟨rfl, hb1⟩
  obtain ⟨k0, k1, k2, k3, k4⟩ := Hk.out
  have hs1 := hb1.size
  replace k0 := (hb1.cellAt w.heap.size (by omega) 0).trans k0
  replace k1 := (hb1.cellAt w.heap.size (by omega) 1).trans k1
  replace k2 := (hb1.cellAt w.heap.size (by omega) 2).trans k2
  replace k3 := (hb1.cellAt w.heap.size (by omega) 3).trans k3
  replace k4 := (hb1.cellAt w.heap.size (by omega) 4).trans k4
  have HE1 := Lib.hid (HEa.out.trans hb1)
  have m0 : w1.heap.size ≠ w.heap.size := by omega
  have l0 : w.heap.size < w1.heap.size := by omega
  clear hb1
  go_wp2_with fail
  obtain ⟨wo, hwo⟩ : ∃ wo, wo = ((w1.alloc (.cells #[.string ⟨#[]⟩, .string ⟨#[119, 97, 108, 107]⟩, .string ⟨#[109, 111, 118, 101]⟩, .string ⟨#[100, 97, 121, 115]⟩, .string ⟨#[97, 117, 100, 105, 116]⟩, .string ⟨#[119, 104, 101, 114, 101]⟩] 9)).alloc (.cells #[.int .i64 0, .int .i64 2, .int .i64 4, .int .i64 1, .int .i64 0, .int .i64 1] 3)).alloc (.cells #[.int .i64 x, .int .i64 y, .int .i64 z, .int .i64 u] 3) := ⟨_, rfl⟩
  have hEo : Ext w1 wo := by rw [hwo]; exact (((Ext.refl w1).alloc _).alloc _).alloc _
  have hr : Rd wo 1 (some ⟨w1.heap.size + 1 + 1, 0, none⟩) 4 (xs.flatMap ienc) := by
    have := rd_lit ((w1.alloc (.cells #[.string ⟨#[]⟩, .string ⟨#[119, 97, 108, 107]⟩, .string ⟨#[109, 111, 118, 101]⟩, .string ⟨#[100, 97, 121, 115]⟩, .string ⟨#[97, 117, 100, 105, 116]⟩, .string ⟨#[119, 104, 101, 114, 101]⟩] 9)).alloc (.cells #[.int .i64 0, .int .i64 2, .int .i64 4, .int .i64 1, .int .i64 0, .int .i64 1] 3)) 3 [x, y, z, u] (by simp)
    rw [show ((w1.alloc (.cells #[.string ⟨#[]⟩, .string ⟨#[119, 97, 108, 107]⟩, .string ⟨#[109, 111, 118, 101]⟩, .string ⟨#[100, 97, 121, 115]⟩, .string ⟨#[97, 117, 100, 105, 116]⟩, .string ⟨#[119, 104, 101, 114, 101]⟩] 9)).alloc (.cells #[.int .i64 0, .int .i64 2, .int .i64 4, .int .i64 1, .int .i64 0, .int .i64 1] 3)).heap.size = w1.heap.size + 1 + 1 by simp] at this
    rw [hwo, Hxs.out]; exact this
  rw [← hwo]
  have HR := Lib.hid hr
  have HEo := Lib.hid (HE1.out.trans hEo)
  have hl : Hid (xs.length = 4) := by unfold Hid; rw [Hxs.out]; rfl
  clear hr hwo hEo k0 k1 k2 k3 k4
  go_loopw [4, 7] (fun s i wr => ∃ (k : Nat) (t : ByteArray), k ≤ 2 ∧ i = .int .i64 k ∧ s = .string t ∧ t.size ≤ 5 + 30 * k ∧ Hid (numsF ⟨#[119, 97, 108, 107]⟩ (xs.take 2) = numsF t ((xs.take 2).drop k)) ∧ Ext wo wr) (fun _ i _ => 2 - (intOf i).toNat)
  case atStart => exact ⟨0, _, Nat.zero_le _, rfl, rfl, by decide, rfl, Ext.refl _⟩
  case round =>
    obtain ⟨k, t, hk, rfl, rfl, ht, hz, hb⟩ := hrel
    by_cases hlt : k < 2
    · obtain ⟨b, off, x, hA, hbs, hxk, p0⟩ := ienc_at (HR.out.keep hb) (show k < 4 by omega)
      injection hA with hA
      injection hA with h1 h2
      subst h1 h2
      rw [Nat.zero_add] at p0
      have hxk' : (xs.take 2)[k]? = some x := by rw [List.getElem?_take, if_pos hlt]; exact hxk
      have HD := Lib.hid (drop_cons hxk')
      have HB := Lib.hid hb
      have i0 : (0 : Int) ≤ (k : Int) := by omega
      have i1 : (k : Int) < 4 := by omega
      obtain ⟨hx0, hx1⟩ := HV.out x (List.mem_of_getElem? hxk)
      clear hb hxk hxk'
      obtain ⟨z', hzz⟩ := Int.eq_ofNat_of_zero_le hx0
      subst hzz
      have hsz := itext_size z' (by omega) (by omega)
      have HT : Hid (numsF ⟨#[119, 97, 108, 107]⟩ (xs.take 2) = numsF (t ++ sp1 ++ itext z') ((xs.take 2).drop (k + 1))) := by unfold Hid; rw [hz.out, HD.out, numsF]
      have hts : (t ++ sp1 ++ itext z').size ≤ 5 + 30 * (k + 1) := by
        rw [ByteArray.size_append, ByteArray.size_append]
        have : sp1.size = 1 := rfl
        omega
      obtain ⟨T, hT⟩ : ∃ T, T = itext z' := ⟨_, rfl⟩
      have hF := Lib.hid (fun w => spec_FormatInt z' w (by omega))
      rw [← hT] at hsz HT hts hF
      clear hT
      go_wp2_with fail
      refine (hF.out _).mono ?_
      rintro e w2 ⟨rfl, h1⟩
      have HB1 := Lib.hid (HB.out.trans h1)
      clear h1
      go_wp2_with fail
      go_roundw
      case rel => exact ⟨k + 1, t ++ sp1 ++ T, by omega, by go_num, by first | rfl | (rw [ByteArray.append_assoc]; rfl), hts, HT, HB1.out⟩
      case measure => simp [intOf]; omega
    · obtain rfl : k = 2 := by omega
      have HT : Hid (numsF ⟨#[119, 97, 108, 107]⟩ (xs.take 2) = t) := by unfold Hid; rw [hz.out, drop_nil (by rw [List.length_take, hl.out]; omega)]; rfl
      have HB := Lib.hid hb
      clear hb
      go_wp2_with fail
      refine bodyPost_ret (v := .tuple #[.string t, .bool true]) (by simp [results, Tryz.results163, go_sem, *]) rfl ⟨by rw [HT.out], HEo.out.trans HB.out⟩
set_option maxRecDepth 100000 in
set_option maxHeartbeats 2000000 in
theorem spec_FormatAct_2 (x y z u : Int) (hx : 0 ≤ x ∧ x ≤ 1000) (hy : 0 ≤ y ∧ y ≤ 1000) (hz : 0 ≤ z ∧ z ≤ 1000) (hu : 0 ≤ u ∧ u ≤ 1000) (hok : acOk ⟨2, x, y, z, u⟩ = true) (w : World) :
    Calls Tryz.prog 163 #[.agg #[.int .i64 2, .int .i64 x, .int .i64 y, .int .i64 z, .int .i64 u]] w fun e w' => e = .returned (.tuple #[.string (numsF ⟨#[109, 111, 118, 101]⟩ ([x, y, z, u].take 4)), .bool true]) ∧ Ext w w' := by
  obtain ⟨wa, hwa⟩ : ∃ wa, wa = w.alloc (.cells #[.int .i64 2, .int .i64 x, .int .i64 y, .int .i64 z, .int .i64 u] 37) := ⟨_, rfl⟩
  have hEa : Ext w wa := by rw [hwa]; exact (Ext.refl w).alloc _
  have hsa : wa.heap.size = w.heap.size + 1 := by rw [hwa]; simp
  have hk0 : wa.cell? ⟨w.heap.size, 0, none⟩ = some (.int .i64 2) := by rw [hwa]; simp [World.cell?_alloc_at]
  have hk1 : wa.cell? ⟨w.heap.size, 1, none⟩ = some (.int .i64 x) := by rw [hwa]; simp [World.cell?_alloc_at]
  have hk2 : wa.cell? ⟨w.heap.size, 2, none⟩ = some (.int .i64 y) := by rw [hwa]; simp [World.cell?_alloc_at]
  have hk3 : wa.cell? ⟨w.heap.size, 3, none⟩ = some (.int .i64 z) := by rw [hwa]; simp [World.cell?_alloc_at]
  have hk4 : wa.cell? ⟨w.heap.size, 4, none⟩ = some (.int .i64 u) := by rw [hwa]; simp [World.cell?_alloc_at]
  have Hk := Lib.hid (And.intro hk0 (And.intro hk1 (And.intro hk2 (And.intro hk3 hk4))))
  have Hwa := Lib.hid hwa
  have HEa := Lib.hid hEa
  have HV := Lib.hid (vals_ok hx hy hz hu)
  obtain ⟨xs, hxs⟩ : ∃ xs : List Int, xs = [x, y, z, u] := ⟨_, rfl⟩
  rw [← hxs] at HV ⊢
  have Hxs := Lib.hid hxs
  have cA := Lib.hid (spec_ActOk ⟨2, x, y, z, u⟩ wa)
  rw [hok] at cA
  clear hwa hEa hk0 hk1 hk2 hk3 hk4 hxs hok hx hy hz hu
  go_enter Tryz.func163, Tryz.ntmps163
  go_wp2_with fail
  rw [← Hwa.out]
  refine cA.out.mono ?_
  rintro e w1 ⟨rfl, hb1⟩
  obtain ⟨k0, k1, k2, k3, k4⟩ := Hk.out
  have hs1 := hb1.size
  replace k0 := (hb1.cellAt w.heap.size (by omega) 0).trans k0
  replace k1 := (hb1.cellAt w.heap.size (by omega) 1).trans k1
  replace k2 := (hb1.cellAt w.heap.size (by omega) 2).trans k2
  replace k3 := (hb1.cellAt w.heap.size (by omega) 3).trans k3
  replace k4 := (hb1.cellAt w.heap.size (by omega) 4).trans k4
  have HE1 := Lib.hid (HEa.out.trans hb1)
  have m0 : w1.heap.size ≠ w.heap.size := by omega
  have l0 : w.heap.size < w1.heap.size := by omega
  clear hb1
  go_wp2_with fail
  obtain ⟨wo, hwo⟩ : ∃ wo, wo = ((w1.alloc (.cells #[.string ⟨#[]⟩, .string ⟨#[119, 97, 108, 107]⟩, .string ⟨#[109, 111, 118, 101]⟩, .string ⟨#[100, 97, 121, 115]⟩, .string ⟨#[97, 117, 100, 105, 116]⟩, .string ⟨#[119, 104, 101, 114, 101]⟩] 9)).alloc (.cells #[.int .i64 0, .int .i64 2, .int .i64 4, .int .i64 1, .int .i64 0, .int .i64 1] 3)).alloc (.cells #[.int .i64 x, .int .i64 y, .int .i64 z, .int .i64 u] 3) := ⟨_, rfl⟩
  have hEo : Ext w1 wo := by rw [hwo]; exact (((Ext.refl w1).alloc _).alloc _).alloc _
  have hr : Rd wo 1 (some ⟨w1.heap.size + 1 + 1, 0, none⟩) 4 (xs.flatMap ienc) := by
    have := rd_lit ((w1.alloc (.cells #[.string ⟨#[]⟩, .string ⟨#[119, 97, 108, 107]⟩, .string ⟨#[109, 111, 118, 101]⟩, .string ⟨#[100, 97, 121, 115]⟩, .string ⟨#[97, 117, 100, 105, 116]⟩, .string ⟨#[119, 104, 101, 114, 101]⟩] 9)).alloc (.cells #[.int .i64 0, .int .i64 2, .int .i64 4, .int .i64 1, .int .i64 0, .int .i64 1] 3)) 3 [x, y, z, u] (by simp)
    rw [show ((w1.alloc (.cells #[.string ⟨#[]⟩, .string ⟨#[119, 97, 108, 107]⟩, .string ⟨#[109, 111, 118, 101]⟩, .string ⟨#[100, 97, 121, 115]⟩, .string ⟨#[97, 117, 100, 105, 116]⟩, .string ⟨#[119, 104, 101, 114, 101]⟩] 9)).alloc (.cells #[.int .i64 0, .int .i64 2, .int .i64 4, .int .i64 1, .int .i64 0, .int .i64 1] 3)).heap.size = w1.heap.size + 1 + 1 by simp] at this
    rw [hwo, Hxs.out]; exact this
  rw [← hwo]
  have HR := Lib.hid hr
  have HEo := Lib.hid (HE1.out.trans hEo)
  have hl : Hid (xs.length = 4) := by unfold Hid; rw [Hxs.out]; rfl
  clear hr hwo hEo k0 k1 k2 k3 k4
  go_loopw [4, 7] (fun s i wr => ∃ (k : Nat) (t : ByteArray), k ≤ 4 ∧ i = .int .i64 k ∧ s = .string t ∧ t.size ≤ 5 + 30 * k ∧ Hid (numsF ⟨#[109, 111, 118, 101]⟩ (xs.take 4) = numsF t ((xs.take 4).drop k)) ∧ Ext wo wr) (fun _ i _ => 4 - (intOf i).toNat)
  case atStart => exact ⟨0, _, Nat.zero_le _, rfl, rfl, by decide, rfl, Ext.refl _⟩
  case round =>
    obtain ⟨k, t, hk, rfl, rfl, ht, hz, hb⟩ := hrel
    by_cases hlt : k < 4
    · obtain ⟨b, off, x, hA, hbs, hxk, p0⟩ := ienc_at (HR.out.keep hb) (show k < 4 by omega)
      injection hA with hA
      injection hA with h1 h2
      subst h1 h2
      rw [Nat.zero_add] at p0
      have hxk' : (xs.take 4)[k]? = some x := by rw [List.getElem?_take, if_pos hlt]; exact hxk
      have HD := Lib.hid (drop_cons hxk')
      have HB := Lib.hid hb
      have i0 : (0 : Int) ≤ (k : Int) := by omega
      have i1 : (k : Int) < 4 := by omega
      obtain ⟨hx0, hx1⟩ := HV.out x (List.mem_of_getElem? hxk)
      clear hb hxk hxk'
      obtain ⟨z', hzz⟩ := Int.eq_ofNat_of_zero_le hx0
      subst hzz
      have hsz := itext_size z' (by omega) (by omega)
      have HT : Hid (numsF ⟨#[109, 111, 118, 101]⟩ (xs.take 4) = numsF (t ++ sp1 ++ itext z') ((xs.take 4).drop (k + 1))) := by unfold Hid; rw [hz.out, HD.out, numsF]
      have hts : (t ++ sp1 ++ itext z').size ≤ 5 + 30 * (k + 1) := by
        rw [ByteArray.size_append, ByteArray.size_append]
        have : sp1.size = 1 := rfl
        omega
      obtain ⟨T, hT⟩ : ∃ T, T = itext z' := ⟨_, rfl⟩
      have hF := Lib.hid (fun w => spec_FormatInt z' w (by omega))
      rw [← hT] at hsz HT hts hF
      clear hT
      go_wp2_with fail
      refine (hF.out _).mono ?_
      rintro e w2 ⟨rfl, h1⟩
      have HB1 := Lib.hid (HB.out.trans h1)
      clear h1
      go_wp2_with fail
      go_roundw
      case rel => exact ⟨k + 1, t ++ sp1 ++ T, by omega, by go_num, by first | rfl | (rw [ByteArray.append_assoc]; rfl), hts, HT, HB1.out⟩
      case measure => simp [intOf]; omega
    · obtain rfl : k = 4 := by omega
      have HT : Hid (numsF ⟨#[109, 111, 118, 101]⟩ (xs.take 4) = t) := by unfold Hid; rw [hz.out, drop_nil (by rw [List.length_take, hl.out]; omega)]; rfl
      have HB := Lib.hid hb
      clear hb
      go_wp2_with fail
      refine bodyPost_ret (v := .tuple #[.string t, .bool true]) (by simp [results, Tryz.results163, go_sem, *]) rfl ⟨by rw [HT.out], HEo.out.trans HB.out⟩
set_option maxRecDepth 100000 in
set_option maxHeartbeats 2000000 in
theorem spec_FormatAct_3 (x y z u : Int) (hx : 0 ≤ x ∧ x ≤ 1000) (hy : 0 ≤ y ∧ y ≤ 1000) (hz : 0 ≤ z ∧ z ≤ 1000) (hu : 0 ≤ u ∧ u ≤ 1000) (hok : acOk ⟨3, x, y, z, u⟩ = true) (w : World) :
    Calls Tryz.prog 163 #[.agg #[.int .i64 3, .int .i64 x, .int .i64 y, .int .i64 z, .int .i64 u]] w fun e w' => e = .returned (.tuple #[.string (numsF ⟨#[100, 97, 121, 115]⟩ ([x, y, z, u].take 1)), .bool true]) ∧ Ext w w' := by
  obtain ⟨wa, hwa⟩ : ∃ wa, wa = w.alloc (.cells #[.int .i64 3, .int .i64 x, .int .i64 y, .int .i64 z, .int .i64 u] 37) := ⟨_, rfl⟩
  have hEa : Ext w wa := by rw [hwa]; exact (Ext.refl w).alloc _
  have hsa : wa.heap.size = w.heap.size + 1 := by rw [hwa]; simp
  have hk0 : wa.cell? ⟨w.heap.size, 0, none⟩ = some (.int .i64 3) := by rw [hwa]; simp [World.cell?_alloc_at]
  have hk1 : wa.cell? ⟨w.heap.size, 1, none⟩ = some (.int .i64 x) := by rw [hwa]; simp [World.cell?_alloc_at]
  have hk2 : wa.cell? ⟨w.heap.size, 2, none⟩ = some (.int .i64 y) := by rw [hwa]; simp [World.cell?_alloc_at]
  have hk3 : wa.cell? ⟨w.heap.size, 3, none⟩ = some (.int .i64 z) := by rw [hwa]; simp [World.cell?_alloc_at]
  have hk4 : wa.cell? ⟨w.heap.size, 4, none⟩ = some (.int .i64 u) := by rw [hwa]; simp [World.cell?_alloc_at]
  have Hk := Lib.hid (And.intro hk0 (And.intro hk1 (And.intro hk2 (And.intro hk3 hk4))))
  have Hwa := Lib.hid hwa
  have HEa := Lib.hid hEa
  have HV := Lib.hid (vals_ok hx hy hz hu)
  obtain ⟨xs, hxs⟩ : ∃ xs : List Int, xs = [x, y, z, u] := ⟨_, rfl⟩
  rw [← hxs] at HV ⊢
  have Hxs := Lib.hid hxs
  have cA := Lib.hid (spec_ActOk ⟨3, x, y, z, u⟩ wa)
  rw [hok] at cA
  clear hwa hEa hk0 hk1 hk2 hk3 hk4 hxs hok hx hy hz hu
  go_enter Tryz.func163, Tryz.ntmps163
  go_wp2_with fail
  rw [← Hwa.out]
  refine cA.out.mono ?_
  rintro e w1 ⟨rfl, hb1⟩
  obtain ⟨k0, k1, k2, k3, k4⟩ := Hk.out
  have hs1 := hb1.size
  replace k0 := (hb1.cellAt w.heap.size (by omega) 0).trans k0
  replace k1 := (hb1.cellAt w.heap.size (by omega) 1).trans k1
  replace k2 := (hb1.cellAt w.heap.size (by omega) 2).trans k2
  replace k3 := (hb1.cellAt w.heap.size (by omega) 3).trans k3
  replace k4 := (hb1.cellAt w.heap.size (by omega) 4).trans k4
  have HE1 := Lib.hid (HEa.out.trans hb1)
  have m0 : w1.heap.size ≠ w.heap.size := by omega
  have l0 : w.heap.size < w1.heap.size := by omega
  clear hb1
  go_wp2_with fail
  obtain ⟨wo, hwo⟩ : ∃ wo, wo = ((w1.alloc (.cells #[.string ⟨#[]⟩, .string ⟨#[119, 97, 108, 107]⟩, .string ⟨#[109, 111, 118, 101]⟩, .string ⟨#[100, 97, 121, 115]⟩, .string ⟨#[97, 117, 100, 105, 116]⟩, .string ⟨#[119, 104, 101, 114, 101]⟩] 9)).alloc (.cells #[.int .i64 0, .int .i64 2, .int .i64 4, .int .i64 1, .int .i64 0, .int .i64 1] 3)).alloc (.cells #[.int .i64 x, .int .i64 y, .int .i64 z, .int .i64 u] 3) := ⟨_, rfl⟩
  have hEo : Ext w1 wo := by rw [hwo]; exact (((Ext.refl w1).alloc _).alloc _).alloc _
  have hr : Rd wo 1 (some ⟨w1.heap.size + 1 + 1, 0, none⟩) 4 (xs.flatMap ienc) := by
    have := rd_lit ((w1.alloc (.cells #[.string ⟨#[]⟩, .string ⟨#[119, 97, 108, 107]⟩, .string ⟨#[109, 111, 118, 101]⟩, .string ⟨#[100, 97, 121, 115]⟩, .string ⟨#[97, 117, 100, 105, 116]⟩, .string ⟨#[119, 104, 101, 114, 101]⟩] 9)).alloc (.cells #[.int .i64 0, .int .i64 2, .int .i64 4, .int .i64 1, .int .i64 0, .int .i64 1] 3)) 3 [x, y, z, u] (by simp)
    rw [show ((w1.alloc (.cells #[.string ⟨#[]⟩, .string ⟨#[119, 97, 108, 107]⟩, .string ⟨#[109, 111, 118, 101]⟩, .string ⟨#[100, 97, 121, 115]⟩, .string ⟨#[97, 117, 100, 105, 116]⟩, .string ⟨#[119, 104, 101, 114, 101]⟩] 9)).alloc (.cells #[.int .i64 0, .int .i64 2, .int .i64 4, .int .i64 1, .int .i64 0, .int .i64 1] 3)).heap.size = w1.heap.size + 1 + 1 by simp] at this
    rw [hwo, Hxs.out]; exact this
  rw [← hwo]
  have HR := Lib.hid hr
  have HEo := Lib.hid (HE1.out.trans hEo)
  have hl : Hid (xs.length = 4) := by unfold Hid; rw [Hxs.out]; rfl
  clear hr hwo hEo k0 k1 k2 k3 k4
  go_loopw [4, 7] (fun s i wr => ∃ (k : Nat) (t : ByteArray), k ≤ 1 ∧ i = .int .i64 k ∧ s = .string t ∧ t.size ≤ 5 + 30 * k ∧ Hid (numsF ⟨#[100, 97, 121, 115]⟩ (xs.take 1) = numsF t ((xs.take 1).drop k)) ∧ Ext wo wr) (fun _ i _ => 1 - (intOf i).toNat)
  case atStart => exact ⟨0, _, Nat.zero_le _, rfl, rfl, by decide, rfl, Ext.refl _⟩
  case round =>
    obtain ⟨k, t, hk, rfl, rfl, ht, hz, hb⟩ := hrel
    by_cases hlt : k < 1
    · obtain ⟨b, off, x, hA, hbs, hxk, p0⟩ := ienc_at (HR.out.keep hb) (show k < 4 by omega)
      injection hA with hA
      injection hA with h1 h2
      subst h1 h2
      rw [Nat.zero_add] at p0
      have hxk' : (xs.take 1)[k]? = some x := by rw [List.getElem?_take, if_pos hlt]; exact hxk
      have HD := Lib.hid (drop_cons hxk')
      have HB := Lib.hid hb
      have i0 : (0 : Int) ≤ (k : Int) := by omega
      have i1 : (k : Int) < 4 := by omega
      obtain ⟨hx0, hx1⟩ := HV.out x (List.mem_of_getElem? hxk)
      clear hb hxk hxk'
      obtain ⟨z', hzz⟩ := Int.eq_ofNat_of_zero_le hx0
      subst hzz
      have hsz := itext_size z' (by omega) (by omega)
      have HT : Hid (numsF ⟨#[100, 97, 121, 115]⟩ (xs.take 1) = numsF (t ++ sp1 ++ itext z') ((xs.take 1).drop (k + 1))) := by unfold Hid; rw [hz.out, HD.out, numsF]
      have hts : (t ++ sp1 ++ itext z').size ≤ 5 + 30 * (k + 1) := by
        rw [ByteArray.size_append, ByteArray.size_append]
        have : sp1.size = 1 := rfl
        omega
      obtain ⟨T, hT⟩ : ∃ T, T = itext z' := ⟨_, rfl⟩
      have hF := Lib.hid (fun w => spec_FormatInt z' w (by omega))
      rw [← hT] at hsz HT hts hF
      clear hT
      go_wp2_with fail
      refine (hF.out _).mono ?_
      rintro e w2 ⟨rfl, h1⟩
      have HB1 := Lib.hid (HB.out.trans h1)
      clear h1
      go_wp2_with fail
      go_roundw
      case rel => exact ⟨k + 1, t ++ sp1 ++ T, by omega, by go_num, by first | rfl | (rw [ByteArray.append_assoc]; rfl), hts, HT, HB1.out⟩
      case measure => simp [intOf]; omega
    · obtain rfl : k = 1 := by omega
      have HT : Hid (numsF ⟨#[100, 97, 121, 115]⟩ (xs.take 1) = t) := by unfold Hid; rw [hz.out, drop_nil (by rw [List.length_take, hl.out]; omega)]; rfl
      have HB := Lib.hid hb
      clear hb
      go_wp2_with fail
      refine bodyPost_ret (v := .tuple #[.string t, .bool true]) (by simp [results, Tryz.results163, go_sem, *]) rfl ⟨by rw [HT.out], HEo.out.trans HB.out⟩
set_option maxRecDepth 100000 in
set_option maxHeartbeats 2000000 in
theorem spec_FormatAct_4 (x y z u : Int) (hx : 0 ≤ x ∧ x ≤ 1000) (hy : 0 ≤ y ∧ y ≤ 1000) (hz : 0 ≤ z ∧ z ≤ 1000) (hu : 0 ≤ u ∧ u ≤ 1000) (hok : acOk ⟨4, x, y, z, u⟩ = true) (w : World) :
    Calls Tryz.prog 163 #[.agg #[.int .i64 4, .int .i64 x, .int .i64 y, .int .i64 z, .int .i64 u]] w fun e w' => e = .returned (.tuple #[.string (numsF ⟨#[97, 117, 100, 105, 116]⟩ ([x, y, z, u].take 0)), .bool true]) ∧ Ext w w' := by
  obtain ⟨wa, hwa⟩ : ∃ wa, wa = w.alloc (.cells #[.int .i64 4, .int .i64 x, .int .i64 y, .int .i64 z, .int .i64 u] 37) := ⟨_, rfl⟩
  have hEa : Ext w wa := by rw [hwa]; exact (Ext.refl w).alloc _
  have hsa : wa.heap.size = w.heap.size + 1 := by rw [hwa]; simp
  have hk0 : wa.cell? ⟨w.heap.size, 0, none⟩ = some (.int .i64 4) := by rw [hwa]; simp [World.cell?_alloc_at]
  have hk1 : wa.cell? ⟨w.heap.size, 1, none⟩ = some (.int .i64 x) := by rw [hwa]; simp [World.cell?_alloc_at]
  have hk2 : wa.cell? ⟨w.heap.size, 2, none⟩ = some (.int .i64 y) := by rw [hwa]; simp [World.cell?_alloc_at]
  have hk3 : wa.cell? ⟨w.heap.size, 3, none⟩ = some (.int .i64 z) := by rw [hwa]; simp [World.cell?_alloc_at]
  have hk4 : wa.cell? ⟨w.heap.size, 4, none⟩ = some (.int .i64 u) := by rw [hwa]; simp [World.cell?_alloc_at]
  have Hk := Lib.hid (And.intro hk0 (And.intro hk1 (And.intro hk2 (And.intro hk3 hk4))))
  have Hwa := Lib.hid hwa
  have HEa := Lib.hid hEa
  have HV := Lib.hid (vals_ok hx hy hz hu)
  obtain ⟨xs, hxs⟩ : ∃ xs : List Int, xs = [x, y, z, u] := ⟨_, rfl⟩
  rw [← hxs] at HV ⊢
  have Hxs := Lib.hid hxs
  have cA := Lib.hid (spec_ActOk ⟨4, x, y, z, u⟩ wa)
  rw [hok] at cA
  clear hwa hEa hk0 hk1 hk2 hk3 hk4 hxs hok hx hy hz hu
  go_enter Tryz.func163, Tryz.ntmps163
  go_wp2_with fail
  rw [← Hwa.out]
  refine cA.out.mono ?_
  rintro e w1 ⟨rfl, hb1⟩
  obtain ⟨k0, k1, k2, k3, k4⟩ := Hk.out
  have hs1 := hb1.size
  replace k0 := (hb1.cellAt w.heap.size (by omega) 0).trans k0
  replace k1 := (hb1.cellAt w.heap.size (by omega) 1).trans k1
  replace k2 := (hb1.cellAt w.heap.size (by omega) 2).trans k2
  replace k3 := (hb1.cellAt w.heap.size (by omega) 3).trans k3
  replace k4 := (hb1.cellAt w.heap.size (by omega) 4).trans k4
  have HE1 := Lib.hid (HEa.out.trans hb1)
  have m0 : w1.heap.size ≠ w.heap.size := by omega
  have l0 : w.heap.size < w1.heap.size := by omega
  clear hb1
  go_wp2_with fail
  obtain ⟨wo, hwo⟩ : ∃ wo, wo = ((w1.alloc (.cells #[.string ⟨#[]⟩, .string ⟨#[119, 97, 108, 107]⟩, .string ⟨#[109, 111, 118, 101]⟩, .string ⟨#[100, 97, 121, 115]⟩, .string ⟨#[97, 117, 100, 105, 116]⟩, .string ⟨#[119, 104, 101, 114, 101]⟩] 9)).alloc (.cells #[.int .i64 0, .int .i64 2, .int .i64 4, .int .i64 1, .int .i64 0, .int .i64 1] 3)).alloc (.cells #[.int .i64 x, .int .i64 y, .int .i64 z, .int .i64 u] 3) := ⟨_, rfl⟩
  have hEo : Ext w1 wo := by rw [hwo]; exact (((Ext.refl w1).alloc _).alloc _).alloc _
  have hr : Rd wo 1 (some ⟨w1.heap.size + 1 + 1, 0, none⟩) 4 (xs.flatMap ienc) := by
    have := rd_lit ((w1.alloc (.cells #[.string ⟨#[]⟩, .string ⟨#[119, 97, 108, 107]⟩, .string ⟨#[109, 111, 118, 101]⟩, .string ⟨#[100, 97, 121, 115]⟩, .string ⟨#[97, 117, 100, 105, 116]⟩, .string ⟨#[119, 104, 101, 114, 101]⟩] 9)).alloc (.cells #[.int .i64 0, .int .i64 2, .int .i64 4, .int .i64 1, .int .i64 0, .int .i64 1] 3)) 3 [x, y, z, u] (by simp)
    rw [show ((w1.alloc (.cells #[.string ⟨#[]⟩, .string ⟨#[119, 97, 108, 107]⟩, .string ⟨#[109, 111, 118, 101]⟩, .string ⟨#[100, 97, 121, 115]⟩, .string ⟨#[97, 117, 100, 105, 116]⟩, .string ⟨#[119, 104, 101, 114, 101]⟩] 9)).alloc (.cells #[.int .i64 0, .int .i64 2, .int .i64 4, .int .i64 1, .int .i64 0, .int .i64 1] 3)).heap.size = w1.heap.size + 1 + 1 by simp] at this
    rw [hwo, Hxs.out]; exact this
  rw [← hwo]
  have HR := Lib.hid hr
  have HEo := Lib.hid (HE1.out.trans hEo)
  have hl : Hid (xs.length = 4) := by unfold Hid; rw [Hxs.out]; rfl
  clear hr hwo hEo k0 k1 k2 k3 k4
  go_loopw [4, 7] (fun s i wr => ∃ (k : Nat) (t : ByteArray), k ≤ 0 ∧ i = .int .i64 k ∧ s = .string t ∧ t.size ≤ 5 + 30 * k ∧ Hid (numsF ⟨#[97, 117, 100, 105, 116]⟩ (xs.take 0) = numsF t ((xs.take 0).drop k)) ∧ Ext wo wr) (fun _ i _ => 0 - (intOf i).toNat)
  case atStart => exact ⟨0, _, Nat.zero_le _, rfl, rfl, by decide, rfl, Ext.refl _⟩
  case round =>
    obtain ⟨k, t, hk, rfl, rfl, ht, hz, hb⟩ := hrel
    by_cases hlt : k < 0
    · omega
    · obtain rfl : k = 0 := by omega
      have HT : Hid (numsF ⟨#[97, 117, 100, 105, 116]⟩ (xs.take 0) = t) := by unfold Hid; rw [hz.out, drop_nil (by rw [List.length_take, hl.out]; omega)]; rfl
      have HB := Lib.hid hb
      clear hb
      go_wp2_with fail
      refine bodyPost_ret (v := .tuple #[.string t, .bool true]) (by simp [results, Tryz.results163, go_sem, *]) rfl ⟨by rw [HT.out], HEo.out.trans HB.out⟩
set_option maxRecDepth 100000 in
set_option maxHeartbeats 2000000 in
theorem spec_FormatAct_5 (x y z u : Int) (hx : 0 ≤ x ∧ x ≤ 1000) (hy : 0 ≤ y ∧ y ≤ 1000) (hz : 0 ≤ z ∧ z ≤ 1000) (hu : 0 ≤ u ∧ u ≤ 1000) (hok : acOk ⟨5, x, y, z, u⟩ = true) (w : World) :
    Calls Tryz.prog 163 #[.agg #[.int .i64 5, .int .i64 x, .int .i64 y, .int .i64 z, .int .i64 u]] w fun e w' => e = .returned (.tuple #[.string (numsF ⟨#[119, 104, 101, 114, 101]⟩ ([x, y, z, u].take 1)), .bool true]) ∧ Ext w w' := by
  obtain ⟨wa, hwa⟩ : ∃ wa, wa = w.alloc (.cells #[.int .i64 5, .int .i64 x, .int .i64 y, .int .i64 z, .int .i64 u] 37) := ⟨_, rfl⟩
  have hEa : Ext w wa := by rw [hwa]; exact (Ext.refl w).alloc _
  have hsa : wa.heap.size = w.heap.size + 1 := by rw [hwa]; simp
  have hk0 : wa.cell? ⟨w.heap.size, 0, none⟩ = some (.int .i64 5) := by rw [hwa]; simp [World.cell?_alloc_at]
  have hk1 : wa.cell? ⟨w.heap.size, 1, none⟩ = some (.int .i64 x) := by rw [hwa]; simp [World.cell?_alloc_at]
  have hk2 : wa.cell? ⟨w.heap.size, 2, none⟩ = some (.int .i64 y) := by rw [hwa]; simp [World.cell?_alloc_at]
  have hk3 : wa.cell? ⟨w.heap.size, 3, none⟩ = some (.int .i64 z) := by rw [hwa]; simp [World.cell?_alloc_at]
  have hk4 : wa.cell? ⟨w.heap.size, 4, none⟩ = some (.int .i64 u) := by rw [hwa]; simp [World.cell?_alloc_at]
  have Hk := Lib.hid (And.intro hk0 (And.intro hk1 (And.intro hk2 (And.intro hk3 hk4))))
  have Hwa := Lib.hid hwa
  have HEa := Lib.hid hEa
  have HV := Lib.hid (vals_ok hx hy hz hu)
  obtain ⟨xs, hxs⟩ : ∃ xs : List Int, xs = [x, y, z, u] := ⟨_, rfl⟩
  rw [← hxs] at HV ⊢
  have Hxs := Lib.hid hxs
  have cA := Lib.hid (spec_ActOk ⟨5, x, y, z, u⟩ wa)
  rw [hok] at cA
  clear hwa hEa hk0 hk1 hk2 hk3 hk4 hxs hok hx hy hz hu
  go_enter Tryz.func163, Tryz.ntmps163
  go_wp2_with fail
  rw [← Hwa.out]
  refine cA.out.mono ?_
  rintro e w1 ⟨rfl, hb1⟩
  obtain ⟨k0, k1, k2, k3, k4⟩ := Hk.out
  have hs1 := hb1.size
  replace k0 := (hb1.cellAt w.heap.size (by omega) 0).trans k0
  replace k1 := (hb1.cellAt w.heap.size (by omega) 1).trans k1
  replace k2 := (hb1.cellAt w.heap.size (by omega) 2).trans k2
  replace k3 := (hb1.cellAt w.heap.size (by omega) 3).trans k3
  replace k4 := (hb1.cellAt w.heap.size (by omega) 4).trans k4
  have HE1 := Lib.hid (HEa.out.trans hb1)
  have m0 : w1.heap.size ≠ w.heap.size := by omega
  have l0 : w.heap.size < w1.heap.size := by omega
  clear hb1
  go_wp2_with fail
  obtain ⟨wo, hwo⟩ : ∃ wo, wo = ((w1.alloc (.cells #[.string ⟨#[]⟩, .string ⟨#[119, 97, 108, 107]⟩, .string ⟨#[109, 111, 118, 101]⟩, .string ⟨#[100, 97, 121, 115]⟩, .string ⟨#[97, 117, 100, 105, 116]⟩, .string ⟨#[119, 104, 101, 114, 101]⟩] 9)).alloc (.cells #[.int .i64 0, .int .i64 2, .int .i64 4, .int .i64 1, .int .i64 0, .int .i64 1] 3)).alloc (.cells #[.int .i64 x, .int .i64 y, .int .i64 z, .int .i64 u] 3) := ⟨_, rfl⟩
  have hEo : Ext w1 wo := by rw [hwo]; exact (((Ext.refl w1).alloc _).alloc _).alloc _
  have hr : Rd wo 1 (some ⟨w1.heap.size + 1 + 1, 0, none⟩) 4 (xs.flatMap ienc) := by
    have := rd_lit ((w1.alloc (.cells #[.string ⟨#[]⟩, .string ⟨#[119, 97, 108, 107]⟩, .string ⟨#[109, 111, 118, 101]⟩, .string ⟨#[100, 97, 121, 115]⟩, .string ⟨#[97, 117, 100, 105, 116]⟩, .string ⟨#[119, 104, 101, 114, 101]⟩] 9)).alloc (.cells #[.int .i64 0, .int .i64 2, .int .i64 4, .int .i64 1, .int .i64 0, .int .i64 1] 3)) 3 [x, y, z, u] (by simp)
    rw [show ((w1.alloc (.cells #[.string ⟨#[]⟩, .string ⟨#[119, 97, 108, 107]⟩, .string ⟨#[109, 111, 118, 101]⟩, .string ⟨#[100, 97, 121, 115]⟩, .string ⟨#[97, 117, 100, 105, 116]⟩, .string ⟨#[119, 104, 101, 114, 101]⟩] 9)).alloc (.cells #[.int .i64 0, .int .i64 2, .int .i64 4, .int .i64 1, .int .i64 0, .int .i64 1] 3)).heap.size = w1.heap.size + 1 + 1 by simp] at this
    rw [hwo, Hxs.out]; exact this
  rw [← hwo]
  have HR := Lib.hid hr
  have HEo := Lib.hid (HE1.out.trans hEo)
  have hl : Hid (xs.length = 4) := by unfold Hid; rw [Hxs.out]; rfl
  clear hr hwo hEo k0 k1 k2 k3 k4
  go_loopw [4, 7] (fun s i wr => ∃ (k : Nat) (t : ByteArray), k ≤ 1 ∧ i = .int .i64 k ∧ s = .string t ∧ t.size ≤ 5 + 30 * k ∧ Hid (numsF ⟨#[119, 104, 101, 114, 101]⟩ (xs.take 1) = numsF t ((xs.take 1).drop k)) ∧ Ext wo wr) (fun _ i _ => 1 - (intOf i).toNat)
  case atStart => exact ⟨0, _, Nat.zero_le _, rfl, rfl, by decide, rfl, Ext.refl _⟩
  case round =>
    obtain ⟨k, t, hk, rfl, rfl, ht, hz, hb⟩ := hrel
    by_cases hlt : k < 1
    · obtain ⟨b, off, x, hA, hbs, hxk, p0⟩ := ienc_at (HR.out.keep hb) (show k < 4 by omega)
      injection hA with hA
      injection hA with h1 h2
      subst h1 h2
      rw [Nat.zero_add] at p0
      have hxk' : (xs.take 1)[k]? = some x := by rw [List.getElem?_take, if_pos hlt]; exact hxk
      have HD := Lib.hid (drop_cons hxk')
      have HB := Lib.hid hb
      have i0 : (0 : Int) ≤ (k : Int) := by omega
      have i1 : (k : Int) < 4 := by omega
      obtain ⟨hx0, hx1⟩ := HV.out x (List.mem_of_getElem? hxk)
      clear hb hxk hxk'
      obtain ⟨z', hzz⟩ := Int.eq_ofNat_of_zero_le hx0
      subst hzz
      have hsz := itext_size z' (by omega) (by omega)
      have HT : Hid (numsF ⟨#[119, 104, 101, 114, 101]⟩ (xs.take 1) = numsF (t ++ sp1 ++ itext z') ((xs.take 1).drop (k + 1))) := by unfold Hid; rw [hz.out, HD.out, numsF]
      have hts : (t ++ sp1 ++ itext z').size ≤ 5 + 30 * (k + 1) := by
        rw [ByteArray.size_append, ByteArray.size_append]
        have : sp1.size = 1 := rfl
        omega
      obtain ⟨T, hT⟩ : ∃ T, T = itext z' := ⟨_, rfl⟩
      have hF := Lib.hid (fun w => spec_FormatInt z' w (by omega))
      rw [← hT] at hsz HT hts hF
      clear hT
      go_wp2_with fail
      refine (hF.out _).mono ?_
      rintro e w2 ⟨rfl, h1⟩
      have HB1 := Lib.hid (HB.out.trans h1)
      clear h1
      go_wp2_with fail
      go_roundw
      case rel => exact ⟨k + 1, t ++ sp1 ++ T, by omega, by go_num, by first | rfl | (rw [ByteArray.append_assoc]; rfl), hts, HT, HB1.out⟩
      case measure => simp [intOf]; omega
    · obtain rfl : k = 1 := by omega
      have HT : Hid (numsF ⟨#[119, 104, 101, 114, 101]⟩ (xs.take 1) = t) := by unfold Hid; rw [hz.out, drop_nil (by rw [List.length_take, hl.out]; omega)]; rfl
      have HB := Lib.hid hb
      clear hb
      go_wp2_with fail
      refine bodyPost_ret (v := .tuple #[.string t, .bool true]) (by simp [results, Tryz.results163, go_sem, *]) rfl ⟨by rw [HT.out], HEo.out.trans HB.out⟩
set_option maxRecDepth 100000 in
set_option maxHeartbeats 2000000 in
theorem impl_FormatAct_1 (x y z u : Int) (hx : 0 ≤ x ∧ x ≤ 1000) (hy : 0 ≤ y ∧ y ≤ 1000) (hz : 0 ≤ z ∧ z ≤ 1000) (hu : 0 ≤ u ∧ u ≤ 1000) (hok : acOk ⟨1, x, y, z, u⟩ = true) (w : World) (htab : Hid (Lib.TabIs Tryz.prog w "internal/strconv.uint64pow10" .u64 Lib.pow10Tab)) :
    Calls Tryz.prog 113 #[.agg #[.int .i64 1, .int .i64 x, .int .i64 y, .int .i64 z, .int .i64 u]] w fun e w' => e = .returned (.tuple #[.string (numsF ⟨#[119, 97, 108, 107]⟩ ([x, y, z, u].take 2)), .bool true]) ∧ Ext w w' := by
  obtain ⟨wa, hwa⟩ : ∃ wa, wa = w.alloc (.cells #[.int .i64 1, .int .i64 x, .int .i64 y, .int .i64 z, .int .i64 u] 37) := ⟨_, rfl⟩
  have hEa : Ext w wa := by rw [hwa]; exact (Ext.refl w).alloc _
  have hsa : wa.heap.size = w.heap.size + 1 := by rw [hwa]; simp
  have hk0 : wa.cell? ⟨w.heap.size, 0, none⟩ = some (.int .i64 1) := by rw [hwa]; simp [World.cell?_alloc_at]
  have hk1 : wa.cell? ⟨w.heap.size, 1, none⟩ = some (.int .i64 x) := by rw [hwa]; simp [World.cell?_alloc_at]
  have hk2 : wa.cell? ⟨w.heap.size, 2, none⟩ = some (.int .i64 y) := by rw [hwa]; simp [World.cell?_alloc_at]
  have hk3 : wa.cell? ⟨w.heap.size, 3, none⟩ = some (.int .i64 z) := by rw [hwa]; simp [World.cell?_alloc_at]
  have hk4 : wa.cell? ⟨w.heap.size, 4, none⟩ = some (.int .i64 u) := by rw [hwa]; simp [World.cell?_alloc_at]
  have Hk := Lib.hid (And.intro hk0 (And.intro hk1 (And.intro hk2 (And.intro hk3 hk4))))
  have Hwa := Lib.hid hwa
  have HEa := Lib.hid hEa
  have HV := Lib.hid (vals_ok hx hy hz hu)
  have cA := Lib.hid (impl_ActOk ⟨1, x, y, z, u⟩ wa)
  rw [hok] at cA
  clear hwa hEa hk0 hk1 hk2 hk3 hk4 hok hx hy hz hu
  go_enter Tryz.func113, Tryz.ntmps113
  go_wp2_with fail
  rw [← Hwa.out]
  refine cA.out.mono ?_
  rintro e w1 ⟨rfl, hb1⟩
  obtain ⟨k0, k1, k2, k3, k4⟩ := Hk.out
  have hs1 := hb1.size
  replace k0 := (hb1.cellAt w.heap.size (by omega) 0).trans k0
  replace k1 := (hb1.cellAt w.heap.size (by omega) 1).trans k1
  replace k2 := (hb1.cellAt w.heap.size (by omega) 2).trans k2
  replace k3 := (hb1.cellAt w.heap.size (by omega) 3).trans k3
  replace k4 := (hb1.cellAt w.heap.size (by omega) 4).trans k4
  have HE1 := Lib.hid (HEa.out.trans hb1)
  have m0 : w1.heap.size ≠ w.heap.size := by omega
  have l0 : w.heap.size < w1.heap.size := by omega
  have hE1a : Ext w (w1.alloc (.cells ([x, y].map (Value.int .i64)).toArray 3)) := (HEa.out.trans hb1).alloc _
  have cW := Lib.hid (impl_withNumbers ⟨#[119, 97, 108, 107]⟩ (some ⟨w1.heap.size, 0, none⟩) 2 2 [x, y] (w1.alloc (.cells ([x, y].map (Value.int .i64)).toArray 3)) (rd_lit w1 3 [x, y] (by simp)) (by omega) (by decide) (Lib.hid (fun v hv => HV.out v (by simp only [List.mem_cons, List.not_mem_nil, or_false] at hv ⊢; omega))) (Lib.hid (tab_ext htab.out hE1a)))
  have HE1a := Lib.hid hE1a
  clear hE1a
  clear hb1
  go_wp2_with (refine cW.out.mono ?_; rintro e w2 ⟨rfl, hb2⟩; have HB2 := Lib.hid hb2; clear hb2)
  refine bodyPost_ret (v := .tuple #[.string (numsF ⟨#[119, 97, 108, 107]⟩ [x, y]), .bool true]) (by simp [results, Tryz.results113, go_sem, *]) rfl ⟨by rfl, HE1a.out.trans HB2.out⟩
set_option maxRecDepth 100000 in
set_option maxHeartbeats 2000000 in
theorem impl_FormatAct_2 (x y z u : Int) (hx : 0 ≤ x ∧ x ≤ 1000) (hy : 0 ≤ y ∧ y ≤ 1000) (hz : 0 ≤ z ∧ z ≤ 1000) (hu : 0 ≤ u ∧ u ≤ 1000) (hok : acOk ⟨2, x, y, z, u⟩ = true) (w : World) (htab : Hid (Lib.TabIs Tryz.prog w "internal/strconv.uint64pow10" .u64 Lib.pow10Tab)) :
    Calls Tryz.prog 113 #[.agg #[.int .i64 2, .int .i64 x, .int .i64 y, .int .i64 z, .int .i64 u]] w fun e w' => e = .returned (.tuple #[.string (numsF ⟨#[109, 111, 118, 101]⟩ ([x, y, z, u].take 4)), .bool true]) ∧ Ext w w' := by
  obtain ⟨wa, hwa⟩ : ∃ wa, wa = w.alloc (.cells #[.int .i64 2, .int .i64 x, .int .i64 y, .int .i64 z, .int .i64 u] 37) := ⟨_, rfl⟩
  have hEa : Ext w wa := by rw [hwa]; exact (Ext.refl w).alloc _
  have hsa : wa.heap.size = w.heap.size + 1 := by rw [hwa]; simp
  have hk0 : wa.cell? ⟨w.heap.size, 0, none⟩ = some (.int .i64 2) := by rw [hwa]; simp [World.cell?_alloc_at]
  have hk1 : wa.cell? ⟨w.heap.size, 1, none⟩ = some (.int .i64 x) := by rw [hwa]; simp [World.cell?_alloc_at]
  have hk2 : wa.cell? ⟨w.heap.size, 2, none⟩ = some (.int .i64 y) := by rw [hwa]; simp [World.cell?_alloc_at]
  have hk3 : wa.cell? ⟨w.heap.size, 3, none⟩ = some (.int .i64 z) := by rw [hwa]; simp [World.cell?_alloc_at]
  have hk4 : wa.cell? ⟨w.heap.size, 4, none⟩ = some (.int .i64 u) := by rw [hwa]; simp [World.cell?_alloc_at]
  have Hk := Lib.hid (And.intro hk0 (And.intro hk1 (And.intro hk2 (And.intro hk3 hk4))))
  have Hwa := Lib.hid hwa
  have HEa := Lib.hid hEa
  have HV := Lib.hid (vals_ok hx hy hz hu)
  have cA := Lib.hid (impl_ActOk ⟨2, x, y, z, u⟩ wa)
  rw [hok] at cA
  clear hwa hEa hk0 hk1 hk2 hk3 hk4 hok hx hy hz hu
  go_enter Tryz.func113, Tryz.ntmps113
  go_wp2_with fail
  rw [← Hwa.out]
  refine cA.out.mono ?_
  rintro e w1 ⟨rfl, hb1⟩
  obtain ⟨k0, k1, k2, k3, k4⟩ := Hk.out
  have hs1 := hb1.size
  replace k0 := (hb1.cellAt w.heap.size (by omega) 0).trans k0
  replace k1 := (hb1.cellAt w.heap.size (by omega) 1).trans k1
  replace k2 := (hb1.cellAt w.heap.size (by omega) 2).trans k2
  replace k3 := (hb1.cellAt w.heap.size (by omega) 3).trans k3
  replace k4 := (hb1.cellAt w.heap.size (by omega) 4).trans k4
  have HE1 := Lib.hid (HEa.out.trans hb1)
  have m0 : w1.heap.size ≠ w.heap.size := by omega
  have l0 : w.heap.size < w1.heap.size := by omega
  have hE1a : Ext w (w1.alloc (.cells ([x, y, z, u].map (Value.int .i64)).toArray 3)) := (HEa.out.trans hb1).alloc _
  have cW := Lib.hid (impl_withNumbers ⟨#[109, 111, 118, 101]⟩ (some ⟨w1.heap.size, 0, none⟩) 4 4 [x, y, z, u] (w1.alloc (.cells ([x, y, z, u].map (Value.int .i64)).toArray 3)) (rd_lit w1 3 [x, y, z, u] (by simp)) (by omega) (by decide) (Lib.hid (fun v hv => HV.out v (by simp only [List.mem_cons, List.not_mem_nil, or_false] at hv ⊢; omega))) (Lib.hid (tab_ext htab.out hE1a)))
  have HE1a := Lib.hid hE1a
  clear hE1a
  clear hb1
  go_wp2_with (refine cW.out.mono ?_; rintro e w2 ⟨rfl, hb2⟩; have HB2 := Lib.hid hb2; clear hb2)
  refine bodyPost_ret (v := .tuple #[.string (numsF ⟨#[109, 111, 118, 101]⟩ [x, y, z, u]), .bool true]) (by simp [results, Tryz.results113, go_sem, *]) rfl ⟨by rfl, HE1a.out.trans HB2.out⟩
set_option maxRecDepth 100000 in
set_option maxHeartbeats 2000000 in
theorem impl_FormatAct_3 (x y z u : Int) (hx : 0 ≤ x ∧ x ≤ 1000) (hy : 0 ≤ y ∧ y ≤ 1000) (hz : 0 ≤ z ∧ z ≤ 1000) (hu : 0 ≤ u ∧ u ≤ 1000) (hok : acOk ⟨3, x, y, z, u⟩ = true) (w : World) (htab : Hid (Lib.TabIs Tryz.prog w "internal/strconv.uint64pow10" .u64 Lib.pow10Tab)) :
    Calls Tryz.prog 113 #[.agg #[.int .i64 3, .int .i64 x, .int .i64 y, .int .i64 z, .int .i64 u]] w fun e w' => e = .returned (.tuple #[.string (numsF ⟨#[100, 97, 121, 115]⟩ ([x, y, z, u].take 1)), .bool true]) ∧ Ext w w' := by
  obtain ⟨wa, hwa⟩ : ∃ wa, wa = w.alloc (.cells #[.int .i64 3, .int .i64 x, .int .i64 y, .int .i64 z, .int .i64 u] 37) := ⟨_, rfl⟩
  have hEa : Ext w wa := by rw [hwa]; exact (Ext.refl w).alloc _
  have hsa : wa.heap.size = w.heap.size + 1 := by rw [hwa]; simp
  have hk0 : wa.cell? ⟨w.heap.size, 0, none⟩ = some (.int .i64 3) := by rw [hwa]; simp [World.cell?_alloc_at]
  have hk1 : wa.cell? ⟨w.heap.size, 1, none⟩ = some (.int .i64 x) := by rw [hwa]; simp [World.cell?_alloc_at]
  have hk2 : wa.cell? ⟨w.heap.size, 2, none⟩ = some (.int .i64 y) := by rw [hwa]; simp [World.cell?_alloc_at]
  have hk3 : wa.cell? ⟨w.heap.size, 3, none⟩ = some (.int .i64 z) := by rw [hwa]; simp [World.cell?_alloc_at]
  have hk4 : wa.cell? ⟨w.heap.size, 4, none⟩ = some (.int .i64 u) := by rw [hwa]; simp [World.cell?_alloc_at]
  have Hk := Lib.hid (And.intro hk0 (And.intro hk1 (And.intro hk2 (And.intro hk3 hk4))))
  have Hwa := Lib.hid hwa
  have HEa := Lib.hid hEa
  have HV := Lib.hid (vals_ok hx hy hz hu)
  have cA := Lib.hid (impl_ActOk ⟨3, x, y, z, u⟩ wa)
  rw [hok] at cA
  clear hwa hEa hk0 hk1 hk2 hk3 hk4 hok hx hy hz hu
  go_enter Tryz.func113, Tryz.ntmps113
  go_wp2_with fail
  rw [← Hwa.out]
  refine cA.out.mono ?_
  rintro e w1 ⟨rfl, hb1⟩
  obtain ⟨k0, k1, k2, k3, k4⟩ := Hk.out
  have hs1 := hb1.size
  replace k0 := (hb1.cellAt w.heap.size (by omega) 0).trans k0
  replace k1 := (hb1.cellAt w.heap.size (by omega) 1).trans k1
  replace k2 := (hb1.cellAt w.heap.size (by omega) 2).trans k2
  replace k3 := (hb1.cellAt w.heap.size (by omega) 3).trans k3
  replace k4 := (hb1.cellAt w.heap.size (by omega) 4).trans k4
  have HE1 := Lib.hid (HEa.out.trans hb1)
  have m0 : w1.heap.size ≠ w.heap.size := by omega
  have l0 : w.heap.size < w1.heap.size := by omega
  have hE1a : Ext w (w1.alloc (.cells ([x].map (Value.int .i64)).toArray 3)) := (HEa.out.trans hb1).alloc _
  have cW := Lib.hid (impl_withNumbers ⟨#[100, 97, 121, 115]⟩ (some ⟨w1.heap.size, 0, none⟩) 1 1 [x] (w1.alloc (.cells ([x].map (Value.int .i64)).toArray 3)) (rd_lit w1 3 [x] (by simp)) (by omega) (by decide) (Lib.hid (fun v hv => HV.out v (by simp only [List.mem_cons, List.not_mem_nil, or_false] at hv ⊢; omega))) (Lib.hid (tab_ext htab.out hE1a)))
  have HE1a := Lib.hid hE1a
  clear hE1a
  clear hb1
  go_wp2_with (refine cW.out.mono ?_; rintro e w2 ⟨rfl, hb2⟩; have HB2 := Lib.hid hb2; clear hb2)
  refine bodyPost_ret (v := .tuple #[.string (numsF ⟨#[100, 97, 121, 115]⟩ [x]), .bool true]) (by simp [results, Tryz.results113, go_sem, *]) rfl ⟨by rfl, HE1a.out.trans HB2.out⟩
set_option maxRecDepth 100000 in
set_option maxHeartbeats 2000000 in
theorem impl_FormatAct_4 (x y z u : Int) (hx : 0 ≤ x ∧ x ≤ 1000) (hy : 0 ≤ y ∧ y ≤ 1000) (hz : 0 ≤ z ∧ z ≤ 1000) (hu : 0 ≤ u ∧ u ≤ 1000) (hok : acOk ⟨4, x, y, z, u⟩ = true) (w : World) (htab : Hid (Lib.TabIs Tryz.prog w "internal/strconv.uint64pow10" .u64 Lib.pow10Tab)) :
    Calls Tryz.prog 113 #[.agg #[.int .i64 4, .int .i64 x, .int .i64 y, .int .i64 z, .int .i64 u]] w fun e w' => e = .returned (.tuple #[.string (numsF ⟨#[97, 117, 100, 105, 116]⟩ ([x, y, z, u].take 0)), .bool true]) ∧ Ext w w' := by
  obtain ⟨wa, hwa⟩ : ∃ wa, wa = w.alloc (.cells #[.int .i64 4, .int .i64 x, .int .i64 y, .int .i64 z, .int .i64 u] 37) := ⟨_, rfl⟩
  have hEa : Ext w wa := by rw [hwa]; exact (Ext.refl w).alloc _
  have hsa : wa.heap.size = w.heap.size + 1 := by rw [hwa]; simp
  have hk0 : wa.cell? ⟨w.heap.size, 0, none⟩ = some (.int .i64 4) := by rw [hwa]; simp [World.cell?_alloc_at]
  have hk1 : wa.cell? ⟨w.heap.size, 1, none⟩ = some (.int .i64 x) := by rw [hwa]; simp [World.cell?_alloc_at]
  have hk2 : wa.cell? ⟨w.heap.size, 2, none⟩ = some (.int .i64 y) := by rw [hwa]; simp [World.cell?_alloc_at]
  have hk3 : wa.cell? ⟨w.heap.size, 3, none⟩ = some (.int .i64 z) := by rw [hwa]; simp [World.cell?_alloc_at]
  have hk4 : wa.cell? ⟨w.heap.size, 4, none⟩ = some (.int .i64 u) := by rw [hwa]; simp [World.cell?_alloc_at]
  have Hk := Lib.hid (And.intro hk0 (And.intro hk1 (And.intro hk2 (And.intro hk3 hk4))))
  have Hwa := Lib.hid hwa
  have HEa := Lib.hid hEa
  have HV := Lib.hid (vals_ok hx hy hz hu)
  have cA := Lib.hid (impl_ActOk ⟨4, x, y, z, u⟩ wa)
  rw [hok] at cA
  clear hwa hEa hk0 hk1 hk2 hk3 hk4 hok hx hy hz hu
  go_enter Tryz.func113, Tryz.ntmps113
  go_wp2_with fail
  rw [← Hwa.out]
  refine cA.out.mono ?_
  rintro e w1 ⟨rfl, hb1⟩
  obtain ⟨k0, k1, k2, k3, k4⟩ := Hk.out
  have hs1 := hb1.size
  replace k0 := (hb1.cellAt w.heap.size (by omega) 0).trans k0
  replace k1 := (hb1.cellAt w.heap.size (by omega) 1).trans k1
  replace k2 := (hb1.cellAt w.heap.size (by omega) 2).trans k2
  replace k3 := (hb1.cellAt w.heap.size (by omega) 3).trans k3
  replace k4 := (hb1.cellAt w.heap.size (by omega) 4).trans k4
  have HE1 := Lib.hid (HEa.out.trans hb1)
  have m0 : w1.heap.size ≠ w.heap.size := by omega
  have l0 : w.heap.size < w1.heap.size := by omega
  clear hb1
  go_wp2_with fail
  refine bodyPost_ret (v := .tuple #[.string ⟨#[97, 117, 100, 105, 116]⟩, .bool true]) (by simp [results, Tryz.results113, go_sem, *]) rfl ⟨by rfl, HE1.out⟩
set_option maxRecDepth 100000 in
set_option maxHeartbeats 2000000 in
theorem impl_FormatAct_5 (x y z u : Int) (hx : 0 ≤ x ∧ x ≤ 1000) (hy : 0 ≤ y ∧ y ≤ 1000) (hz : 0 ≤ z ∧ z ≤ 1000) (hu : 0 ≤ u ∧ u ≤ 1000) (hok : acOk ⟨5, x, y, z, u⟩ = true) (w : World) (htab : Hid (Lib.TabIs Tryz.prog w "internal/strconv.uint64pow10" .u64 Lib.pow10Tab)) :
    Calls Tryz.prog 113 #[.agg #[.int .i64 5, .int .i64 x, .int .i64 y, .int .i64 z, .int .i64 u]] w fun e w' => e = .returned (.tuple #[.string (numsF ⟨#[119, 104, 101, 114, 101]⟩ ([x, y, z, u].take 1)), .bool true]) ∧ Ext w w' := by
  obtain ⟨wa, hwa⟩ : ∃ wa, wa = w.alloc (.cells #[.int .i64 5, .int .i64 x, .int .i64 y, .int .i64 z, .int .i64 u] 37) := ⟨_, rfl⟩
  have hEa : Ext w wa := by rw [hwa]; exact (Ext.refl w).alloc _
  have hsa : wa.heap.size = w.heap.size + 1 := by rw [hwa]; simp
  have hk0 : wa.cell? ⟨w.heap.size, 0, none⟩ = some (.int .i64 5) := by rw [hwa]; simp [World.cell?_alloc_at]
  have hk1 : wa.cell? ⟨w.heap.size, 1, none⟩ = some (.int .i64 x) := by rw [hwa]; simp [World.cell?_alloc_at]
  have hk2 : wa.cell? ⟨w.heap.size, 2, none⟩ = some (.int .i64 y) := by rw [hwa]; simp [World.cell?_alloc_at]
  have hk3 : wa.cell? ⟨w.heap.size, 3, none⟩ = some (.int .i64 z) := by rw [hwa]; simp [World.cell?_alloc_at]
  have hk4 : wa.cell? ⟨w.heap.size, 4, none⟩ = some (.int .i64 u) := by rw [hwa]; simp [World.cell?_alloc_at]
  have Hk := Lib.hid (And.intro hk0 (And.intro hk1 (And.intro hk2 (And.intro hk3 hk4))))
  have Hwa := Lib.hid hwa
  have HEa := Lib.hid hEa
  have HV := Lib.hid (vals_ok hx hy hz hu)
  have cA := Lib.hid (impl_ActOk ⟨5, x, y, z, u⟩ wa)
  rw [hok] at cA
  clear hwa hEa hk0 hk1 hk2 hk3 hk4 hok hx hy hz hu
  go_enter Tryz.func113, Tryz.ntmps113
  go_wp2_with fail
  rw [← Hwa.out]
  refine cA.out.mono ?_
  rintro e w1 ⟨rfl, hb1⟩
  obtain ⟨k0, k1, k2, k3, k4⟩ := Hk.out
  have hs1 := hb1.size
  replace k0 := (hb1.cellAt w.heap.size (by omega) 0).trans k0
  replace k1 := (hb1.cellAt w.heap.size (by omega) 1).trans k1
  replace k2 := (hb1.cellAt w.heap.size (by omega) 2).trans k2
  replace k3 := (hb1.cellAt w.heap.size (by omega) 3).trans k3
  replace k4 := (hb1.cellAt w.heap.size (by omega) 4).trans k4
  have HE1 := Lib.hid (HEa.out.trans hb1)
  have m0 : w1.heap.size ≠ w.heap.size := by omega
  have l0 : w.heap.size < w1.heap.size := by omega
  have hE1a : Ext w (w1.alloc (.cells ([x].map (Value.int .i64)).toArray 3)) := (HEa.out.trans hb1).alloc _
  have cW := Lib.hid (impl_withNumbers ⟨#[119, 104, 101, 114, 101]⟩ (some ⟨w1.heap.size, 0, none⟩) 1 1 [x] (w1.alloc (.cells ([x].map (Value.int .i64)).toArray 3)) (rd_lit w1 3 [x] (by simp)) (by omega) (by decide) (Lib.hid (fun v hv => HV.out v (by simp only [List.mem_cons, List.not_mem_nil, or_false] at hv ⊢; omega))) (Lib.hid (tab_ext htab.out hE1a)))
  have HE1a := Lib.hid hE1a
  clear hE1a
  clear hb1
  go_wp2_with (refine cW.out.mono ?_; rintro e w2 ⟨rfl, hb2⟩; have HB2 := Lib.hid hb2; clear hb2)
  refine bodyPost_ret (v := .tuple #[.string (numsF ⟨#[119, 104, 101, 114, 101]⟩ [x]), .bool true]) (by simp [results, Tryz.results113, go_sem, *]) rfl ⟨by rfl, HE1a.out.trans HB2.out⟩
end Go.Proofs.YtkelmeemblmggaaGreatDoor
/- FormatAct of both sides, whatever the act, and the walk of its law; no condition but what stands at each theorem. -/
namespace Go.Proofs.YtkelmeemblmggaaGreatDoor
set_option linter.unusedSimpArgs false
set_option linter.unusedVariables false
open Go.RowKit Go.Sort
set_option maxRecDepth 100000 in
set_option maxHeartbeats 1000000 in
theorem spec_FormatAct (a : GAct) (w : World) :
    Calls Tryz.prog 163 #[.agg #[.int .i64 a.k, .int .i64 a.a, .int .i64 a.b, .int .i64 a.c, .int .i64 a.d]] w fun e w' => e = .returned (.tuple #[.string (actT a), .bool (acOk a)]) ∧ Ext w w' := by
  cases hok : acOk a
  case true =>
    obtain ⟨hk, hx, hy, hz, hu⟩ := ac_cases hok
    obtain ⟨k, x, y, z, u⟩ := a
    rw [actT, if_pos hok]
    rcases hk with h | h | h | h | h
    all_goals (simp only at h; subst h)
    · exact spec_FormatAct_1 x y z u hx hy hz hu hok w
    · exact spec_FormatAct_2 x y z u hx hy hz hu hok w
    · exact spec_FormatAct_3 x y z u hx hy hz hu hok w
    · exact spec_FormatAct_4 x y z u hx hy hz hu hok w
    · exact spec_FormatAct_5 x y z u hx hy hz hu hok w
  case false =>
    have cA := Lib.hid (fun w => spec_ActOk a w)
    rw [hok] at cA
    have HN : Hid (actT a = ⟨#[]⟩) := by unfold Hid; rw [actT, hok]; rfl
    clear hok
    go_enter Tryz.func163, Tryz.ntmps163
    go_wp2_with (refine (cA.out _).mono ?_; rintro e w1 ⟨rfl, hb1⟩; have HB1 := Lib.hid hb1; clear hb1)
    refine bodyPost_ret (v := .tuple #[.string ⟨#[]⟩, .bool false]) (by simp [results, Tryz.results163, go_sem, *]) rfl ⟨by rw [HN.out], ?_⟩
    exact ((Ext.refl w).alloc _).trans HB1.out
set_option maxRecDepth 100000 in
set_option maxHeartbeats 1000000 in
theorem impl_FormatAct (a : GAct) (w : World) (htab : Hid (Lib.TabIs Tryz.prog w "internal/strconv.uint64pow10" .u64 Lib.pow10Tab)) :
    Calls Tryz.prog 113 #[.agg #[.int .i64 a.k, .int .i64 a.a, .int .i64 a.b, .int .i64 a.c, .int .i64 a.d]] w fun e w' => e = .returned (.tuple #[.string (actT a), .bool (acOk a)]) ∧ Ext w w' := by
  cases hok : acOk a
  case true =>
    obtain ⟨hk, hx, hy, hz, hu⟩ := ac_cases hok
    obtain ⟨k, x, y, z, u⟩ := a
    rw [actT, if_pos hok]
    rcases hk with h | h | h | h | h
    all_goals (simp only at h; subst h)
    · exact impl_FormatAct_1 x y z u hx hy hz hu hok w htab
    · exact impl_FormatAct_2 x y z u hx hy hz hu hok w htab
    · exact impl_FormatAct_3 x y z u hx hy hz hu hok w htab
    · exact impl_FormatAct_4 x y z u hx hy hz hu hok w htab
    · exact impl_FormatAct_5 x y z u hx hy hz hu hok w htab
  case false =>
    have cA := Lib.hid (fun w => impl_ActOk a w)
    rw [hok] at cA
    have HN : Hid (actT a = ⟨#[]⟩) := by unfold Hid; rw [actT, hok]; rfl
    clear hok
    go_enter Tryz.func113, Tryz.ntmps113
    go_wp2_with (refine (cA.out _).mono ?_; rintro e w1 ⟨rfl, hb1⟩; have HB1 := Lib.hid hb1; clear hb1)
    refine bodyPost_ret (v := .tuple #[.string ⟨#[]⟩, .bool false]) (by simp [results, Tryz.results113, go_sem, *]) rfl ⟨by rw [HN.out], ?_⟩
    exact ((Ext.refl w).alloc _).trans HB1.out
end Go.Proofs.YtkelmeemblmggaaGreatDoor
/- Texts of acts, in plain Lean: a text of blank-free words gives its words back; an act's text gives the act back; no condition. -/
namespace Go.Proofs.YtkelmeemblmggaaGreatDoor
set_option linter.unusedSimpArgs false
set_option linter.unusedVariables false
open Go.RowKit Go.Sort
def bfree (l : List UInt8) : Prop := ∀ b ∈ l, b ≠ 32
theorem wd_word : ∀ (l cur r : List UInt8), bfree l → wds cur (l ++ r) = wds (cur ++ l) r
  | [], cur, r, _ => by simp
  | b :: l, cur, r, h => by
    rw [List.cons_append, wd_ne (h b (List.mem_cons_self ..)), wd_word l _ r (fun c hc => h c (List.mem_cons_of_mem _ hc))]
    simp
theorem wd_tail : ∀ (fs : List (List UInt8)) (cur : List UInt8), cur ≠ [] → (∀ f ∈ fs, f ≠ [] ∧ bfree f) → wds cur (Lib.joinTail [32] fs ++ [32]) = cur :: fs
  | [], cur, h, _ => by
    rw [show Lib.joinTail [32] [] ++ [32] = [(32 : UInt8)] from rfl, wd_n h, wd_nil]
  | g :: fs, cur, h, hf => by
    have hg := hf g (List.mem_cons_self ..)
    rw [show Lib.joinTail [32] (g :: fs) ++ [32] = 32 :: (g ++ (Lib.joinTail [32] fs ++ [32])) by simp [Lib.joinTail], wd_n h, wd_word g [] _ hg.2, List.nil_append, wd_tail fs g hg.1 (fun f h => hf f (List.mem_cons_of_mem _ h))]
theorem wd_join {f : List UInt8} {fs : List (List UInt8)} (hf : ∀ g ∈ f :: fs, g ≠ [] ∧ bfree g) : wds [] (Lib.join (f :: fs) [32] ++ [32]) = f :: fs := by
  have h := hf f (List.mem_cons_self ..)
  rw [Lib.join_cons, List.append_assoc, wd_word f [] _ h.2, List.nil_append, wd_tail fs f h.1 (fun g hg => hf g (List.mem_cons_of_mem _ hg))]
theorem wds_good : ∀ (r cur : List UInt8), bfree cur → ∀ l ∈ wds cur r, l ≠ [] ∧ bfree l
  | [], _, _, l, hl => by rw [wd_nil] at hl; cases hl
  | b :: r, cur, hc, l, hl => by
    by_cases hb : b = 32
    · subst hb
      by_cases hcur : cur = []
      · subst hcur
        rw [wd_e] at hl
        exact wds_good r [] (fun b hb => by cases hb) l hl
      · rw [wd_n hcur] at hl
        rcases List.mem_cons.1 hl with rfl | hl
        · exact ⟨hcur, hc⟩
        · exact wds_good r [] (fun b hb => by cases hb) l hl
    · rw [wd_ne hb] at hl
      refine wds_good r _ (fun c h => ?_) l hl
      rw [List.mem_append, List.mem_singleton] at h
      rcases h with h | rfl
      · exact hc c h
      · exact hb
theorem fields_good (x : ByteArray) : ∀ l ∈ fieldsOf x, l ≠ [] ∧ bfree l := wds_good _ [] (fun b hb => by cases hb)
/-- The words, joined by blanks. -/
def jb (fs : List (List UInt8)) : ByteArray := ⟨(Lib.join fs [32]).toArray⟩
theorem jb_inj {f g : List UInt8} {fs gs : List (List UInt8)} (hf : ∀ l ∈ f :: fs, l ≠ [] ∧ bfree l) (hg : ∀ l ∈ g :: gs, l ≠ [] ∧ bfree l) (h : jb (f :: fs) = jb (g :: gs)) : f :: fs = g :: gs := by
  have h1 : Lib.join (f :: fs) [32] = Lib.join (g :: gs) [32] := by
    have := congrArg (fun b : ByteArray => b.data.toList) h
    simpa [jb] using this
  rw [← wd_join hf, ← wd_join hg, h1]
def actW (a : GAct) : List (List UInt8) := (wordOf a.k).data.toList :: ([a.a, a.b, a.c, a.d].take (cntOf a.k)).map fun x => (itext x).data.toList
theorem actT_jb {a : GAct} (h : acOk a = true) : actT a = jb (actW a) := by
  rw [actT, if_pos h, numsF_eq]
  unfold jb actW
  rw [Lib.join_cons]
theorem itext_good {x : Int} (h : 0 ≤ x) : (itext x).data.toList ≠ [] ∧ bfree (itext x).data.toList := by
  obtain ⟨n, rfl⟩ := Int.eq_ofNat_of_zero_le h
  rw [itext_list]
  refine ⟨fun e => ?_, fun b hb e => ?_⟩
  · have := dd_ne n; rw [e] at this; simp at this
  · have := dd_dig n b hb
    rw [e] at this
    have h32 : (32 : UInt8).toNat = 32 := rfl
    omega
theorem itext_inj {x y : Int} (hx : 0 ≤ x) (hy : 0 ≤ y) (h : (itext x).data.toList = (itext y).data.toList) : x = y := by
  obtain ⟨n, rfl⟩ := Int.eq_ofNat_of_zero_le hx
  obtain ⟨m, rfl⟩ := Int.eq_ofNat_of_zero_le hy
  rw [itext_list, itext_list] at h
  have := congrArg (List.foldl pS 0) h
  rw [dd_val, dd_val] at this
  rw [this]
theorem word_good {k : Int} (h : k = 1 ∨ k = 2 ∨ k = 3 ∨ k = 4 ∨ k = 5) : (wordOf k).data.toList ≠ [] ∧ bfree (wordOf k).data.toList := by
  unfold bfree
  rcases h with rfl | rfl | rfl | rfl | rfl <;> decide
theorem word_inj {k l : Int} (h : k = 1 ∨ k = 2 ∨ k = 3 ∨ k = 4 ∨ k = 5) (h' : l = 1 ∨ l = 2 ∨ l = 3 ∨ l = 4 ∨ l = 5) (e : (wordOf k).data.toList = (wordOf l).data.toList) : k = l := by
  rcases h with rfl | rfl | rfl | rfl | rfl <;> rcases h' with rfl | rfl | rfl | rfl | rfl <;> first | rfl | (exfalso; revert e; decide)
theorem actW_good {a : GAct} (h : acOk a = true) : ∀ l ∈ actW a, l ≠ [] ∧ bfree l := by
  obtain ⟨hk, hx, hy, hz, hu⟩ := ac_cases h
  intro l hl
  unfold actW at hl
  rcases List.mem_cons.1 hl with rfl | hl
  · exact word_good hk
  · obtain ⟨v, hv, rfl⟩ := List.mem_map.1 hl
    exact itext_good (vals_ok hx hy hz hu v (List.mem_of_mem_take hv)).1
/-- An act's text is the text of just these words. -/
theorem act_words {a : GAct} {fs : List (List UInt8)} (h : acOk a = true) (hf : ∀ l ∈ fs, l ≠ [] ∧ bfree l) (hn : fs ≠ []) (e : actT a = jb fs) : fs = actW a := by
  rw [actT_jb h] at e
  cases fs with
  | nil => exact absurd rfl hn
  | cons f fs => exact (jb_inj (actW_good h) hf e).symm
/-- What the parse of a word answers. -/
def NumOf (f : List UInt8) (z : Int) : Prop := ∀ i : Nat, i ≤ 1000 → (⟨f.toArray⟩ : ByteArray) = itext i → z = i
def NumAt (fs : List (List UInt8)) (j : Nat) (z : Int) : Prop := (∃ f, fs[j + 1]? = some f ∧ NumOf f z) ∨ (fs.length ≤ j + 1 ∧ z = 0)
theorem num_is {x z : Int} (h0 : 0 ≤ x) (h1 : x ≤ 1000) (h : NumOf (itext x).data.toList z) : z = x := by
  obtain ⟨n, rfl⟩ := Int.eq_ofNat_of_zero_le h0
  exact h n (by omega) (by rfl)
theorem ac_rest {a : GAct} (h : acOk a = true) : (a.k = 1 → a.c = 0 ∧ a.d = 0) ∧ (a.k = 3 ∨ a.k = 5 → a.b = 0 ∧ a.c = 0 ∧ a.d = 0) ∧ (a.k = 4 → a.a = 0 ∧ a.b = 0 ∧ a.c = 0 ∧ a.d = 0) := by
  unfold acOk at h
  refine ⟨fun e => ?_, fun e => ?_, fun e => ?_⟩
  · simp [e] at h; omega
  · rcases e with e | e <;> (simp [e] at h; omega)
  · simp [e] at h; omega
/-- Where an act has the text of the words, the numbers read from the words are the act's. -/
theorem act_nums {a : GAct} {fs : List (List UInt8)} {n0 n1 n2 n3 : Int} (h : acOk a = true) (e : fs = actW a) (h0 : NumAt fs 0 n0) (h1 : NumAt fs 1 n1) (h2 : NumAt fs 2 n2) (h3 : NumAt fs 3 n3) : a = ⟨a.k, n0, n1, n2, n3⟩ := by
  obtain ⟨hk, hx, hy, hz, hu⟩ := ac_cases h
  obtain ⟨r1, r3, r4⟩ := ac_rest h
  obtain ⟨k, x, y, z, u⟩ := a
  simp only at hk hx hy hz hu r1 r3 r4
  subst e
  have none_ : ∀ {j : Nat} {v : Int}, NumAt (actW ⟨k, x, y, z, u⟩) j v → (actW ⟨k, x, y, z, u⟩).length ≤ j + 1 → v = 0 := by
    intro j v hv hl
    rcases hv with ⟨f, hf, _⟩ | ⟨_, h⟩
    · rw [List.getElem?_eq_none hl] at hf; cases hf
    · exact h
  have some_ : ∀ {j : Nat} {v t : Int}, NumAt (actW ⟨k, x, y, z, u⟩) j v → (actW ⟨k, x, y, z, u⟩)[j + 1]? = some (itext t).data.toList → 0 ≤ t → t ≤ 1000 → v = t := by
    intro j v t hv hl ht0 ht1
    rcases hv with ⟨f, hf, hn⟩ | ⟨h, _⟩
    · rw [hl] at hf
      injection hf with hf
      subst hf
      exact num_is ht0 ht1 hn
    · rw [List.getElem?_eq_none h] at hl; cases hl
  rcases hk with rfl | rfl | rfl | rfl | rfl
  · obtain ⟨e1, e2⟩ := r1 rfl
    rw [some_ h0 rfl hx.1 hx.2, some_ h1 rfl hy.1 hy.2, none_ h2 (by simp [actW, cntOf]), none_ h3 (by simp [actW, cntOf]), e1, e2]
  · rw [some_ h0 rfl hx.1 hx.2, some_ h1 rfl hy.1 hy.2, some_ h2 rfl hz.1 hz.2, some_ h3 rfl hu.1 hu.2]
  · obtain ⟨e1, e2, e3⟩ := r3 (.inl rfl)
    rw [some_ h0 rfl hx.1 hx.2, none_ h1 (by simp [actW, cntOf]), none_ h2 (by simp [actW, cntOf]), none_ h3 (by simp [actW, cntOf]), e1, e2, e3]
  · obtain ⟨e0, e1, e2, e3⟩ := r4 rfl
    rw [none_ h0 (by simp [actW, cntOf]), none_ h1 (by simp [actW, cntOf]), none_ h2 (by simp [actW, cntOf]), none_ h3 (by simp [actW, cntOf]), e0, e1, e2, e3]
  · obtain ⟨e1, e2, e3⟩ := r3 (.inr rfl)
    rw [some_ h0 rfl hx.1 hx.2, none_ h1 (by simp [actW, cntOf]), none_ h2 (by simp [actW, cntOf]), none_ h3 (by simp [actW, cntOf]), e1, e2, e3]
theorem actW_len (a : GAct) : 1 ≤ (actW a).length ∧ (actW a).length ≤ 5 := by
  unfold actW
  simp only [List.length_cons, List.length_map, List.length_take, List.length_nil]
  omega
/-- What ParseAct answers. -/
def PA (x : ByteArray) (a : GAct) (b : Bool) : Prop :=
  (b = true ∧ spOk x = true ∧ acOk a = true ∧ fieldsOf x = actW a) ∨ (b = false ∧ a = ⟨0, 0, 0, 0, 0⟩ ∧ ∀ a', spOk x = true → acOk a' = true → fieldsOf x ≠ actW a')
theorem actW_inj {a a' : GAct} (h : acOk a = true) (h' : acOk a' = true) (e : actW a = actW a') : a = a' := by
  have key : ∀ {b : GAct}, acOk b = true → ∀ {fs}, fs = actW b → ∃ n0 n1 n2 n3, NumAt fs 0 n0 ∧ NumAt fs 1 n1 ∧ NumAt fs 2 n2 ∧ NumAt fs 3 n3 := by
    intro b hb fs e
    have at_ : ∀ j, ∃ n, NumAt fs j n := by
      intro j
      by_cases hj : fs.length ≤ j + 1
      · exact ⟨0, .inr ⟨hj, rfl⟩⟩
      · have hg : fs[j + 1]? = some fs[j + 1] := List.getElem?_eq_getElem (by omega)
        refine ⟨((fs[j + 1]).foldl pS 0 : Nat), .inl ⟨_, hg, fun i hi hh => ?_⟩⟩
        have := congrArg (fun b : ByteArray => b.data.toList) hh
        simp only [itext_list] at this
        rw [show fs[j + 1] = Lib.decDigits i by simpa using this, dd_val]
    obtain ⟨n0, h0⟩ := at_ 0
    obtain ⟨n1, h1⟩ := at_ 1
    obtain ⟨n2, h2⟩ := at_ 2
    obtain ⟨n3, h3⟩ := at_ 3
    exact ⟨n0, n1, n2, n3, h0, h1, h2, h3⟩
  obtain ⟨n0, n1, n2, n3, h0, h1, h2, h3⟩ := key h rfl
  have e1 := act_nums h rfl h0 h1 h2 h3
  have e2 := act_nums h' e h0 h1 h2 h3
  have hw : a.k = a'.k := by
    have := congrArg (fun l : List (List UInt8) => l.head?) e
    simp only [actW, List.head?_cons, Option.some.injEq] at this
    exact word_inj (ac_cases h).1 (ac_cases h').1 this
  rw [e1, e2, hw]
theorem pa_eq {x : ByteArray} {a a' : GAct} {b b' : Bool} (h : PA x a b) (h' : PA x a' b') : a = a' ∧ b = b' := by
  rcases h with ⟨rfl, hs, ho, he⟩ | ⟨rfl, rfl, hn⟩ <;> rcases h' with ⟨rfl, hs', ho', he'⟩ | ⟨rfl, rfl, hn'⟩
  · exact ⟨actW_inj ho ho' (he.symm.trans he'), rfl⟩
  · exact absurd he (hn' a hs ho)
  · exact absurd he' (hn a' hs' ho')
  · exact ⟨rfl, rfl⟩
end Go.Proofs.YtkelmeemblmggaaGreatDoor
