/- Contracts of HallsFor, MissingObjects: lists of indices; no condition but what stands at each theorem. -/
import Derived.Test.YtlgmiifpdjalpaaS2
import Derived.Test.YtlgmiifpdjalpaaS3
import Derived.Test.YtlgmiifpdjalpaaH1
import Derived.Test.YtlgmiifpdjalpaaK5
import Derived.Deep.DeepFit
namespace Go.Proofs.Ytlgmiifpdjalpaa
set_option linter.unusedSimpArgs false
set_option linter.unusedVariables false
open Go.RowKit
theorem ei_int : EI Try.prog 31 3 1 := ei_of Try.underlying31 (by omega) info_Int
def hallStep (l : GLoan) (p : List Int × Int) (c : GClimate) : List Int × Int := (if breach l c == 0 then p.1 ++ [p.2] else p.1, p.2 + 1)
def hallsFor (l : GLoan) (hs : List GClimate) : List Int := (hs.foldl (hallStep l) ([], 0)).1
set_option maxRecDepth 100000 in
set_option maxHeartbeats 1000000 in
theorem impl_HallsFor (l : GLoan) (A : Option Addr) (n c : Nat) (xs : List GClimate) (w : World) (hx : Rd w 3 A n (xs.flatMap GClimate.enc)) (hn20 : n ≤ 1048576) :
    Calls Try.prog 20 #[.agg #[.int .i64 l.l, .int .i64 l.lo, .int .i64 l.hi, .int .i64 l.g], .slice A n c] w fun e w' => ∃ v, e = .returned v ∧ Ext w w' ∧ w'.ownsRow w.heap.size 3 1 v (hallsFor l xs).length ((hallsFor l xs).flatMap ienc) := by
  have hl := Lib.hid (hx.len GClimate.len (by omega))
  go_enter Try.func20, Try.ntmps20
  go_wp2_with fail
  obtain ⟨w0, hw0⟩ : ∃ w0, w0 = w.alloc (.cells #[.int .i64 l.l, .int .i64 l.lo, .int .i64 l.hi, .int .i64 l.g] 25) := ⟨_, rfl⟩
  have hs0 : w0.heap.size = w.heap.size + 1 := by rw [hw0]; simp
  have Hw0 := Lib.hid hw0
  have HB0 : Hid (Ext w w0) := by unfold Hid; rw [hw0]; exact (Ext.refl _).alloc _
  have hbx : ∀ o, w0.cell? ⟨w.heap.size, o, none⟩ = (w.alloc (.cells #[.int .i64 l.l, .int .i64 l.lo, .int .i64 l.hi, .int .i64 l.g] 25)).cell? ⟨w.heap.size, o, none⟩ := fun o => by rw [hw0]
  have Hbx := Lib.hid hbx
  clear hbx
  rw [← hw0]
  have ho0 := own_empty w0 (w.heap.size + 1) 3 1 (by omega)
  rw [hs0] at ho0
  have Ho0 := Lib.hid ho0
  clear hw0 ho0
  go_loopw [5, 11] (fun o i wr => ∃ (k : Nat) (L : List Int), k ≤ n ∧ i = .int .i64 k ∧ wr.ownsRow (w.heap.size + 1) 3 1 o L.length (L.flatMap ienc) ∧ Hid ((L, (k : Int)) = (xs.take k).foldl (hallStep l) ([], 0)) ∧ L.length ≤ k ∧ Ext w0 wr) (fun _ i _ => n - (intOf i).toNat)
  case atStart => exact ⟨0, [], Nat.zero_le _, rfl, Ho0.out, rfl, Nat.zero_le _, (Ext.refl _).alloc _⟩
  case round =>
    obtain ⟨k, L, hk, rfl, hown, hz, hLk, hb⟩ := hrel
    by_cases hlt : k < n
    · obtain ⟨b, off, x, rfl, hbs, hxk, h0, h1, h2⟩ := GClimate.at_ (hx.keep (HB0.out.trans hb)) hlt
      have k0 : ∀ o, wr.cell? ⟨w.heap.size, o, none⟩ = (w.alloc (.cells #[.int .i64 l.l, .int .i64 l.lo, .int .i64 l.hi, .int .i64 l.g] 25)).cell? ⟨w.heap.size, o, none⟩ := fun o => (hb.cellAt _ (by omega) o).trans (Hbx.out o)
      have hsz := hb.size
      have m0 : wr.heap.size ≠ w.heap.size := by omega
      have l0 : w.heap.size < wr.heap.size := by omega
      have HX := Lib.hid hxk
      have HB := Lib.hid hb
      have HO := Lib.hid hown
      clear hxk hb hown
      cases hbr : (breach l x == 0)
      · go_wp2_with (go_at_call 22; refine (impl_Breaches l x _).mono ?_; rintro e w1 ⟨rfl, hb1⟩; have HB1 := Lib.hid hb1; clear hb1)
        go_roundw
        case rel => exact ⟨k + 1, L, by omega, by go_num, own_keep (HO.out.alloc _) HB1.out, by unfold Hid; rw [fold_step _ _ HX.out, ← hz.out]; simp [hallStep, hbr], by omega, (HB.out.alloc _).trans HB1.out⟩
        case measure => simp [intOf]; omega
      · go_wp2_with (first
          | (go_at_call 22; refine (impl_Breaches l x _).mono ?_; rintro e w1 ⟨rfl, hb1⟩; have HB1 := Lib.hid hb1; have hs1 := hb1.size; (try simp at hs1); clear hb1)
          | (at_builtin; refine append1 ei_int rfl _ _ rfl (w.heap.size + 1) w1 _ u5 L.length _ rfl (own_keep (HO.out.alloc _) HB1.out) [.int .i64 k] rfl rfl (by intro u hu; simp at hu; subst hu; rfl) (by omega) (by omega) ?_; intro v' w2 ho2 he2; have HO2 := Lib.hid ho2; have HE2 := Lib.hid he2; clear ho2 he2))
        go_roundw
        case rel =>
          refine ⟨k + 1, L ++ [(k : Int)], by omega, by go_num, ?_, by unfold Hid; rw [fold_step _ _ HX.out, ← hz.out]; simp [hallStep, hbr], by simp; omega, HE2.out _ ((HB.out.alloc _).trans HB1.out) (by omega)⟩
          have := HO2.out
          simpa [ienc] using this
        case measure => simp [intOf]; omega
    · obtain rfl : k = n := by omega
      go_wp2_with fail
      go_ret
      have h1 := hz.out
      rw [List.take_of_length_le (by rw [hl.out]; omega)] at h1
      have h2 : L = hallsFor l xs := by rw [hallsFor, ← h1]
      refine ⟨_, rfl, HB0.out.trans hb, ?_⟩
      rw [← h2]
      exact own_weak hown (by omega)
set_option maxRecDepth 100000 in
set_option maxHeartbeats 1000000 in
theorem spec_HallsFor (l : GLoan) (A : Option Addr) (n c : Nat) (xs : List GClimate) (w : World) (hx : Rd w 3 A n (xs.flatMap GClimate.enc)) (hn20 : n ≤ 1048576) :
    Calls Try.prog 31 #[.agg #[.int .i64 l.l, .int .i64 l.lo, .int .i64 l.hi, .int .i64 l.g], .slice A n c] w fun e w' => ∃ v, e = .returned v ∧ Ext w w' ∧ w'.ownsRow w.heap.size 3 1 v (hallsFor l xs).length ((hallsFor l xs).flatMap ienc) := by
  have hl := Lib.hid (hx.len GClimate.len (by omega))
  go_enter Try.func31, Try.ntmps31
  go_wp2_with fail
  obtain ⟨w0, hw0⟩ : ∃ w0, w0 = w.alloc (.cells #[.int .i64 l.l, .int .i64 l.lo, .int .i64 l.hi, .int .i64 l.g] 25) := ⟨_, rfl⟩
  have hs0 : w0.heap.size = w.heap.size + 1 := by rw [hw0]; simp
  have Hw0 := Lib.hid hw0
  have HB0 : Hid (Ext w w0) := by unfold Hid; rw [hw0]; exact (Ext.refl _).alloc _
  have hbx : ∀ o, w0.cell? ⟨w.heap.size, o, none⟩ = (w.alloc (.cells #[.int .i64 l.l, .int .i64 l.lo, .int .i64 l.hi, .int .i64 l.g] 25)).cell? ⟨w.heap.size, o, none⟩ := fun o => by rw [hw0]
  have Hbx := Lib.hid hbx
  clear hbx
  rw [← hw0]
  have ho0 := own_empty w0 (w.heap.size + 1) 3 1 (by omega)
  rw [hs0] at ho0
  have Ho0 := Lib.hid ho0
  clear hw0 ho0
  go_loopw [5, 6] (fun o i wr => ∃ (k : Nat) (L : List Int), k ≤ n ∧ i = .int .i64 k ∧ wr.ownsRow (w.heap.size + 1) 3 1 o L.length (L.flatMap ienc) ∧ Hid ((L, (k : Int)) = (xs.take k).foldl (hallStep l) ([], 0)) ∧ L.length ≤ k ∧ Ext w0 wr) (fun _ i _ => n - (intOf i).toNat)
  case atStart => exact ⟨0, [], Nat.zero_le _, rfl, Ho0.out, rfl, Nat.zero_le _, (Ext.refl _).alloc _⟩
  case round =>
    obtain ⟨k, L, hk, rfl, hown, hz, hLk, hb⟩ := hrel
    by_cases hlt : k < n
    · obtain ⟨b, off, x, rfl, hbs, hxk, h0, h1, h2⟩ := GClimate.at_ (hx.keep (HB0.out.trans hb)) hlt
      have k0 : ∀ o, wr.cell? ⟨w.heap.size, o, none⟩ = (w.alloc (.cells #[.int .i64 l.l, .int .i64 l.lo, .int .i64 l.hi, .int .i64 l.g] 25)).cell? ⟨w.heap.size, o, none⟩ := fun o => (hb.cellAt _ (by omega) o).trans (Hbx.out o)
      have hsz := hb.size
      have m0 : wr.heap.size ≠ w.heap.size := by omega
      have l0 : w.heap.size < wr.heap.size := by omega
      have HX := Lib.hid hxk
      have HB := Lib.hid hb
      have HO := Lib.hid hown
      clear hxk hb hown
      cases hbr : (breach l x == 0)
      · go_wp2_with fail
        go_still_tail 5, (by kernel_rfl)
        change wpList _ _ _ _ _ wr.drew
        go_wp2_with (go_at_call 88; refine (spec_Breaches l x _).mono ?_; rintro e w1 ⟨rfl, hb1⟩; have HB1 := Lib.hid hb1; clear hb1)
        go_roundw
        case rel => exact ⟨k + 1, L, by omega, by go_num, own_keep (w := wr) HO.out (((Ext.refl wr).drew).trans HB1.out), by unfold Hid; rw [fold_step _ _ HX.out, ← hz.out]; simp [hallStep, hbr], by omega, HB.out.drew.trans HB1.out⟩
        case measure => simp [intOf]; omega
      · go_wp2_with fail
        go_still_tail 5, (by kernel_rfl)
        change wpList _ _ _ _ _ wr.drew
        go_wp2_with (first
          | (go_at_call 88; refine (spec_Breaches l x _).mono ?_; rintro e w1 ⟨rfl, hb1⟩; have HB1 := Lib.hid hb1; have hs1 : wr.heap.size ≤ w1.heap.size := hb1.size; clear hb1)
          | (at_builtin; refine append1 ei_int rfl _ _ rfl (w.heap.size + 1) w1 _ u5 L.length _ rfl (own_keep (w := wr) HO.out (((Ext.refl wr).drew).trans HB1.out)) [.int .i64 k] rfl rfl (by intro u hu; simp at hu; subst hu; rfl) (by omega) (by omega) ?_; intro v' w2 ho2 he2; have HO2 := Lib.hid ho2; have HE2 := Lib.hid he2; clear ho2 he2))
        go_roundw
        case rel =>
          refine ⟨k + 1, L ++ [(k : Int)], by omega, by go_num, ?_, by unfold Hid; rw [fold_step _ _ HX.out, ← hz.out]; simp [hallStep, hbr], by simp; omega, HE2.out _ (HB.out.drew.trans HB1.out) (by omega)⟩
          have := HO2.out
          simpa [ienc] using this
        case measure => simp [intOf]; omega
    · obtain rfl : k = n := by omega
      go_wp2_with fail
      go_ret
      have h1 := hz.out
      rw [List.take_of_length_le (by rw [hl.out]; omega)] at h1
      have h2 : L = hallsFor l xs := by rw [hallsFor, ← h1]
      refine ⟨_, rfl, HB0.out.trans hb, ?_⟩
      rw [← h2]
      exact own_weak hown (by omega)
def missTo (xs : List GCheck) (k : Nat) : List Int := ((List.range k).filter (fun (j : Nat) => (firstMissed xs (j : Int) != -1))).map (fun (j : Nat) => (j : Int))
theorem missTo_succ (xs : List GCheck) (k : Nat) : missTo xs (k + 1) = if (firstMissed xs (k : Int) != -1) = true then missTo xs k ++ [(k : Int)] else missTo xs k := by
  unfold missTo
  rw [List.range_succ, List.filter_append]
  by_cases h : (firstMissed xs (k : Int) != -1) = true
  · rw [if_pos h]; simp [List.filter_cons, h]
  · rw [if_neg h]; simp [List.filter_cons, h]
theorem missTo_len (xs : List GCheck) (k : Nat) : (missTo xs k).length ≤ k := by
  unfold missTo; rw [List.length_map]; exact Nat.le_trans (List.length_filter_le _ _) (by simp)
def missObj (xs : List GCheck) (count : Int) : List Int := if inB count 0 50 then missTo xs count.toNat else []
set_option maxRecDepth 100000 in
set_option maxHeartbeats 1000000 in
theorem impl_MissingObjects (A : Option Addr) (n c : Nat) (xs : List GCheck) (count : Int) (w : World) (hx : Rd w 3 A n (xs.flatMap GCheck.enc)) :
    Calls Try.prog 42 #[.slice A n c, .int .i64 count] w fun e w' => ∃ v, e = .returned v ∧ Ext w w' ∧ w'.ownsRow w.heap.size 3 1 v (missObj xs count).length ((missObj xs count).flatMap ienc) := by
  cases hr : inB count 0 50 with
  | false =>
    go_enter Try.func42, Try.ntmps42
    go_wp2_with (go_at_call 81; refine (impl_between _ _ _ _).mono ?_; rintro e w1 ⟨he, rfl⟩; rw [hr] at he; subst he)
    go_ret
    have h2 : missObj xs count = [] := by rw [missObj, if_neg (by rw [hr]; decide)]
    exact ⟨_, rfl, Ext.refl _, by rw [h2]; exact World.ownsRow_nil _ _ _ _⟩
  | true =>
    have hr1 : 0 ≤ count ∧ count ≤ 50 := by simpa [inB] using hr
    obtain ⟨m, rfl⟩ := Int.eq_ofNat_of_zero_le hr1.1
    obtain ⟨_, hm⟩ := hr1
    have HR := Lib.hid hr
    
    go_enter Try.func42, Try.ntmps42
    go_wp2_with (go_at_call 81; refine (impl_between _ _ _ _).mono ?_; rintro e w1 ⟨he, rfl⟩; rw [hr] at he; subst he)
    clear hr
    have Ho0 := Lib.hid (own_empty w w.heap.size 3 1 (Nat.le_refl _))
    go_loopw [5, 6] (fun o i wr => ∃ (k : Nat), k ≤ m ∧ i = .int .i64 k ∧ wr.ownsRow w.heap.size 3 1 o (missTo xs k).length ((missTo xs k).flatMap ienc) ∧ Ext w wr) (fun _ i _ => m - (intOf i).toNat)
    case atStart => exact ⟨0, Nat.zero_le _, rfl, Ho0.out, (Ext.refl _).alloc _⟩
    case round =>
      obtain ⟨k, hk, rfl, hown, hb⟩ := hrel
      have hLk := missTo_len xs k
      have hxr := Lib.hid (hx.keep hb)
      have hs := hb.size
      have HB := Lib.hid hb
      have HO := Lib.hid hown
      clear hb hown
      by_cases hlt : k < m
      · cases hbr : (firstMissed xs (k : Int) != -1)
        · go_wp2_with (first | (go_at_call 72; refine (impl_IsMissing _ _ _ xs (k : Int) _ hxr.out).mono ?_; rintro e w1 ⟨rfl, hb1⟩; have HB1 := Lib.hid hb1; clear hb1))
          go_roundw
          case rel => exact ⟨k + 1, by omega, by go_num, by rw [missTo_succ, if_neg (by rw [hbr]; decide)]; exact own_keep HO.out HB1.out, HB.out.trans HB1.out⟩
          case measure => simp [intOf]; omega
        · go_wp2_with (first 
            | (go_at_call 72; refine (impl_IsMissing _ _ _ xs (k : Int) _ hxr.out).mono ?_; rintro e w1 ⟨rfl, hb1⟩; have HB1 := Lib.hid hb1; have hs1 := hb1.size; clear hb1)
            | (at_builtin; refine append1 ei_int rfl _ _ rfl w.heap.size w1 _ u5 (missTo xs k).length _ rfl (own_keep HO.out HB1.out) [.int .i64 k] rfl rfl (by intro u hu; simp at hu; subst hu; rfl) (by omega) (by omega) ?_; intro v' w2 ho2 he2; have HO2 := Lib.hid ho2; have HE2 := Lib.hid he2; clear ho2 he2))
          go_roundw
          case rel =>
            refine ⟨k + 1, by omega, by go_num, ?_, HE2.out _ (HB.out.trans HB1.out) (Nat.le_refl _)⟩
            rw [missTo_succ, if_pos hbr, List.length_append, List.flatMap_append]
            exact HO2.out
          case measure => simp [intOf]; omega
      · obtain rfl : k = m := by omega
        go_wp2_with fail
        go_ret
        have h2 : missObj xs (k : Int) = missTo xs k := by rw [missObj, if_pos HR.out]; rfl
        exact ⟨_, rfl, HB.out, by rw [h2]; exact HO.out⟩
set_option maxRecDepth 100000 in
set_option maxHeartbeats 1000000 in
theorem spec_MissingObjects (A : Option Addr) (n c : Nat) (xs : List GCheck) (count : Int) (w : World) (hx : Rd w 3 A n (xs.flatMap GCheck.enc)) :
    Calls Try.prog 40 #[.slice A n c, .int .i64 count] w fun e w' => ∃ v, e = .returned v ∧ Ext w w' ∧ w'.ownsRow w.heap.size 3 1 v (missObj xs count).length ((missObj xs count).flatMap ienc) := by
  cases hr : inB count 0 50 with
  | false =>
    go_enter Try.func40, Try.ntmps40
    have HR := Lib.hid hr
    clear hr
    go_wp2_with fail
    refine wp_loop_rounds 1 ?_
    rw [rounds_succ]
    go_wp2_with (go_at_call 83; refine (spec_l01In _ _ _ _).mono ?_; rintro e w1 ⟨he, rfl⟩; rw [HR.out] at he; subst he)
    all_goals go_ret
    all_goals have h2 : missObj xs count = [] := by rw [missObj, if_neg (by rw [HR.out]; decide)]
    all_goals exact ⟨_, rfl, (Ext.refl _).alloc _, by rw [h2]; exact own_empty w w.heap.size 3 1 (Nat.le_refl _)⟩
  | true =>
    have hr1 : 0 ≤ count ∧ count ≤ 50 := by simpa [inB] using hr
    obtain ⟨m, rfl⟩ := Int.eq_ofNat_of_zero_le hr1.1
    obtain ⟨_, hm⟩ := hr1
    have HR := Lib.hid hr
    
    go_enter Try.func40, Try.ntmps40
    go_wp2_with fail
    clear hr
    have Ho0 := Lib.hid (own_empty w w.heap.size 3 1 (Nat.le_refl _))
    go_loopw [5, 6] (fun o i wr => ∃ (k : Nat), k ≤ m ∧ i = .int .i64 k ∧ wr.ownsRow w.heap.size 3 1 o (missTo xs k).length ((missTo xs k).flatMap ienc) ∧ Ext w wr) (fun _ i _ => m - (intOf i).toNat)
    case atStart => exact ⟨0, Nat.zero_le _, rfl, Ho0.out, (Ext.refl _).alloc _⟩
    case round =>
      obtain ⟨k, hk, rfl, hown, hb⟩ := hrel
      have hLk := missTo_len xs k
      have hxr := Lib.hid (hx.keep hb)
      have hs := hb.size
      have HB := Lib.hid hb
      have HO := Lib.hid hown
      clear hb hown
      by_cases hlt : k < m
      · cases hbr : (firstMissed xs (k : Int) != -1)
        · go_wp2_with (first
            | (go_at_call 83; refine (spec_l01In _ _ _ _).mono ?_; rintro e w1 ⟨he, rfl⟩; rw [HR.out] at he; subst he)
            | (go_at_call 91; refine (spec_IsMissing _ _ _ xs (k : Int) _ hxr.out).mono ?_; rintro e w1 ⟨rfl, hb1⟩; have HB1 := Lib.hid hb1; clear hb1))
          go_roundw
          case rel => exact ⟨k + 1, by omega, by go_num, by rw [missTo_succ, if_neg (by rw [hbr]; decide)]; exact own_keep HO.out HB1.out, HB.out.trans HB1.out⟩
          case measure => simp [intOf]; omega
        · go_wp2_with (first
            | (go_at_call 83; refine (spec_l01In _ _ _ _).mono ?_; rintro e w1 ⟨he, rfl⟩; rw [HR.out] at he; subst he)
            | (go_at_call 91; refine (spec_IsMissing _ _ _ xs (k : Int) _ hxr.out).mono ?_; rintro e w1 ⟨rfl, hb1⟩; have HB1 := Lib.hid hb1; have hs1 := hb1.size; clear hb1)
            | (at_builtin; refine append1 ei_int rfl _ _ rfl w.heap.size w1 _ u5 (missTo xs k).length _ rfl (own_keep HO.out HB1.out) [.int .i64 k] rfl rfl (by intro u hu; simp at hu; subst hu; rfl) (by omega) (by omega) ?_; intro v' w2 ho2 he2; have HO2 := Lib.hid ho2; have HE2 := Lib.hid he2; clear ho2 he2))
          go_roundw
          case rel =>
            refine ⟨k + 1, by omega, by go_num, ?_, HE2.out _ (HB.out.trans HB1.out) (Nat.le_refl _)⟩
            rw [missTo_succ, if_pos hbr, List.length_append, List.flatMap_append]
            exact HO2.out
          case measure => simp [intOf]; omega
      · obtain rfl : k = m := by omega
        go_wp2_with (go_at_call 83; refine (spec_l01In _ _ _ _).mono ?_; rintro e w1 ⟨he, rfl⟩; rw [HR.out] at he; subst he)
        go_ret
        have h2 : missObj xs (k : Int) = missTo xs k := by rw [missObj, if_pos HR.out]; rfl
        exact ⟨_, rfl, HB.out, by rw [h2]; exact HO.out⟩
end Go.Proofs.Ytlgmiifpdjalpaa
