/- Contracts of ShiftsOk; no condition but what stands at each theorem. -/
import Derived.Test.YtlgmiifpdjalpaaS3
import Derived.Test.YtlgmiifpdjalpaaH1
namespace Go.Proofs.Ytlgmiifpdjalpaa
set_option linter.unusedSimpArgs false
set_option linter.unusedVariables false
open Go.RowKit
def clash (rest : Int) (a b : GShift) : Bool := (a.g == b.g) && decide (b.f < a.t + rest) && decide (a.f < b.t + rest)
def stepC (rest : Int) (p : List GShift × Bool) (x : GShift) : List GShift × Bool := (p.1 ++ [x], p.2 && p.1.all fun t => !clash rest t x)
def noClash (rest : Int) (xs : List GShift) : Bool := (xs.foldl (stepC rest) ([], true)).2
theorem stepC_fst (rest : Int) (xs : List GShift) (p : List GShift × Bool) : (xs.foldl (stepC rest) p).1 = p.1 ++ xs := by
  induction xs generalizing p with
  | nil => simp
  | cons x xs ih => rw [List.foldl_cons, ih]; simp [stepC]
theorem noClash_snoc (rest : Int) (xs : List GShift) (x : GShift) : noClash rest (xs ++ [x]) = (noClash rest xs && xs.all fun t => !clash rest t x) := by
  unfold noClash
  rw [List.foldl_append, List.foldl_cons, List.foldl_nil]
  show ((xs.foldl (stepC rest) ([], true)).2 && (xs.foldl (stepC rest) ([], true)).1.all fun t => !clash rest t x) = _
  rw [stepC_fst]; simp
theorem noClash_take (rest : Int) (xs : List GShift) (h : noClash rest xs = true) : ∀ k, noClash rest (xs.take k) = true := by
  intro k
  by_cases hk : xs.length ≤ k
  · rw [List.take_of_length_le hk]; exact h
  · have : ∀ d k, xs.length - k = d → k ≤ xs.length → noClash rest (xs.take k) = true := by
      intro d
      induction d with
      | zero => intro k h1 h2; rw [List.take_of_length_le (by omega)]; exact h
      | succ d ih =>
        intro k h1 h2
        have h3 := ih (k + 1) (by omega) (by omega)
        have hx : xs[k]? = some (xs[k]'(by omega)) := List.getElem?_eq_getElem (by omega)
        rw [take_snoc hx, noClash_snoc] at h3
        simp only [Bool.and_eq_true] at h3
        exact h3.1
    exact this _ k rfl (by omega)
theorem noClash_bad (rest : Int) {xs : List GShift} {k : Nat} {x : GShift} (hx : xs[k]? = some x) {j : Nat} {t : GShift} (ht : xs[j]? = some t) (hj : j < k) (hc : clash rest t x = true) : noClash rest xs = false := by
  cases h : noClash rest xs with
  | false => rfl
  | true =>
    have h1 := noClash_take rest xs h (k + 1)
    rw [take_snoc hx, noClash_snoc] at h1
    simp only [Bool.and_eq_true, List.all_eq_true] at h1
    have := h1.2 t (List.mem_of_getElem? (i := j) (by rw [List.getElem?_take, if_pos hj]; exact ht))
    rw [hc] at this
    cases this
theorem shOk_bd {x : GShift} (h : shOk x = true) : 0 ≤ x.g ∧ x.g ≤ 20 ∧ 0 ≤ x.f ∧ x.f ≤ 10000 ∧ 0 ≤ x.t ∧ x.t ≤ 10000 := by
  simp [shOk, inB] at h; omega
theorem all_at {α : Type} {p : α → Bool} {xs : List α} (h : xs.all p = true) {k : Nat} {x : α} (hx : xs[k]? = some x) : p x = true := List.all_eq_true.1 h x (List.mem_of_getElem? hx)
def allSh (xs : List GShift) : Bool := xs.all shOk && decide (xs.length ≤ 20)
def shiftsOk (xs : List GShift) (rest : Int) : Bool := allSh xs && inB rest 0 1000 && noClash rest xs
set_option maxRecDepth 100000 in
set_option maxHeartbeats 1000000 in
theorem impl_rests (ag af at_ bg bf bt : Int) (rest : Int) (w : World) (a1 : 0 ≤ af ∧ af ≤ 10000) (a2 : 0 ≤ at_ ∧ at_ ≤ 10000) (b1 : 0 ≤ bf ∧ bf ≤ 10000) (b2 : 0 ≤ bt ∧ bt ≤ 10000) (h0 : 0 ≤ rest) (h1 : rest ≤ 1000) :
    Calls Try.prog 111 #[.agg #[.int .i64 ag, .int .i64 af, .int .i64 at_], .agg #[.int .i64 bg, .int .i64 bf, .int .i64 bt], .int .i64 rest] w fun e w' => e = .returned (.bool (!(decide (bf < at_ + rest) && decide (af < bt + rest)))) ∧ Ext w w' := by
  obtain ⟨a1, a3⟩ := a1
  obtain ⟨a2, a4⟩ := a2
  obtain ⟨b1, b3⟩ := b1
  obtain ⟨b2, b4⟩ := b2
  go_enter Try.func111, Try.ntmps111
  go_wp2
  all_goals go_ret
  all_goals refine ⟨ret_bool ?_, ?_⟩
  all_goals first | ((repeat (first | exact Ext.refl _ | assumption | refine Ext.alloc ?_ _ | refine Ext.drew ?_ | refine Ext.drewN ?_ _ | refine Ext.setCell ?_ (by first | (simp; done) | (simp; omega)) _ | refine Ext.trans ?_ (by assumption))); done) | (go_light; rw [Bool.eq_iff_iff]; first | (simp []; done) | (simp []; omega) | (simp_all []; done) | (simp_all []; omega))
set_option maxRecDepth 100000 in
set_option maxHeartbeats 2000000 in
theorem impl_ShiftsOk (A : Option Addr) (n c : Nat) (xs : List GShift) (rest : Int) (w : World) (hx : Rd w 3 A n (xs.flatMap GShift.enc)) (hnc : n ≤ c) :
    Calls Try.prog 64 #[.slice A n c, .int .i64 rest] w fun e w' => e = .returned (.bool (shiftsOk xs rest)) ∧ Ext w w' := by
  have hn := hx.2.1
  have hl := Lib.hid (hx.len GShift.len (by omega))
  cases hv : allSh xs with
  | false =>
    go_enter Try.func64, Try.ntmps64
    go_wp2_with (first | (go_at_call 86; refine (impl_allShifts _ _ _ xs _ ?_).mono ?_; (focus (first | assumption | (refine Rd.keep (by assumption) ?_; (repeat (first | exact Ext.refl _ | assumption | refine Ext.alloc ?_ _ | refine Ext.drew ?_ | refine Ext.drewN ?_ _ | refine Ext.setCell ?_ (by first | (simp; done) | (simp; omega)) _ | refine Ext.trans ?_ (by assumption))); done) | (refine Rd.keep (Rd.of_own (by assumption)) ?_; (repeat (first | exact Ext.refl _ | assumption | refine Ext.alloc ?_ _ | refine Ext.drew ?_ | refine Ext.drewN ?_ _ | refine Ext.setCell ?_ (by first | (simp; done) | (simp; omega)) _ | refine Ext.trans ?_ (by assumption))); done))); rintro e w1 ⟨he, hb⟩; rw [show (xs.all shOk && decide (xs.length ≤ 20)) = false from hv] at he; subst he) | (go_at_call 81; refine (impl_between _ _ _ _).mono ?_; rintro e w1 ⟨rfl, rfl⟩))
    go_ret
    exact ⟨ret_bool (by rw [shiftsOk, hv]; rfl), by (repeat (first | exact Ext.refl _ | assumption | refine Ext.alloc ?_ _ | refine Ext.drew ?_ | refine Ext.drewN ?_ _ | refine Ext.setCell ?_ (by first | (simp; done) | (simp; omega)) _ | refine Ext.trans ?_ (by assumption)))⟩
  | true =>
  cases hr : inB rest 0 1000 with
  | false =>
    go_enter Try.func64, Try.ntmps64
    go_wp2_with (first | (go_at_call 86; refine (impl_allShifts _ _ _ xs _ ?_).mono ?_; (focus (first | assumption | (refine Rd.keep (by assumption) ?_; (repeat (first | exact Ext.refl _ | assumption | refine Ext.alloc ?_ _ | refine Ext.drew ?_ | refine Ext.drewN ?_ _ | refine Ext.setCell ?_ (by first | (simp; done) | (simp; omega)) _ | refine Ext.trans ?_ (by assumption))); done) | (refine Rd.keep (Rd.of_own (by assumption)) ?_; (repeat (first | exact Ext.refl _ | assumption | refine Ext.alloc ?_ _ | refine Ext.drew ?_ | refine Ext.drewN ?_ _ | refine Ext.setCell ?_ (by first | (simp; done) | (simp; omega)) _ | refine Ext.trans ?_ (by assumption))); done))); rintro e w1 ⟨he, hb⟩; rw [show (xs.all shOk && decide (xs.length ≤ 20)) = true from hv] at he; subst he) | (go_at_call 81; refine (impl_between _ _ _ _).mono ?_; rintro e w1 ⟨he, rfl⟩; rw [hr] at he; subst he))
    go_ret
    exact ⟨ret_bool (by rw [shiftsOk, hv, hr]; rfl), by (repeat (first | exact Ext.refl _ | assumption | refine Ext.alloc ?_ _ | refine Ext.drew ?_ | refine Ext.drewN ?_ _ | refine Ext.setCell ?_ (by first | (simp; done) | (simp; omega)) _ | refine Ext.trans ?_ (by assumption)))⟩
  | true =>
  have hv1 : xs.all shOk = true := by simp [allSh] at hv; simpa using hv.1
  have hr1 : 0 ≤ rest ∧ rest ≤ 1000 := by simpa [inB] using hr
  obtain ⟨hr1, hr2⟩ := hr1
  have HV := Lib.hid hv
  have HR := Lib.hid hr
  have HV1 := Lib.hid hv1
  clear hv1
  go_enter Try.func64, Try.ntmps64
  go_wp2_with (first | (go_at_call 86; refine (impl_allShifts _ _ _ xs _ ?_).mono ?_; (focus (first | assumption | (refine Rd.keep (by assumption) ?_; (repeat (first | exact Ext.refl _ | assumption | refine Ext.alloc ?_ _ | refine Ext.drew ?_ | refine Ext.drewN ?_ _ | refine Ext.setCell ?_ (by first | (simp; done) | (simp; omega)) _ | refine Ext.trans ?_ (by assumption))); done) | (refine Rd.keep (Rd.of_own (by assumption)) ?_; (repeat (first | exact Ext.refl _ | assumption | refine Ext.alloc ?_ _ | refine Ext.drew ?_ | refine Ext.drewN ?_ _ | refine Ext.setCell ?_ (by first | (simp; done) | (simp; omega)) _ | refine Ext.trans ?_ (by assumption))); done))); rintro e w1 ⟨he, hb0⟩; rw [show (xs.all shOk && decide (xs.length ≤ 20)) = true from hv] at he; subst he) | (go_at_call 81; refine (impl_between _ _ _ _).mono ?_; rintro e w1 ⟨he, rfl⟩; rw [hr] at he; subst he))
  clear hv hr
  go_loopw [19] (fun i wr => ∃ (k : Nat), k ≤ n ∧ i = .int .i64 k ∧ Hid (noClash rest (xs.take k) = true) ∧ Ext w wr) (fun i _ => n - (intOf i).toNat)
  case atStart => exact ⟨0, Nat.zero_le _, rfl, rfl, hb0⟩
  case round =>
    obtain ⟨k, hk, rfl, hz, hb⟩ := hrel
    clear hb0
    by_cases hlt : k < n
    · obtain ⟨b, off, x, rfl, hbs, hxk, h0, h1, h2⟩ := GShift.at_ (hx.keep hb) hlt
      have HX := Lib.hid hxk
      have HB := Lib.hid hb
      have hxok := Lib.hid (all_at HV1.out hxk)
      clear hxk hb
      go_wp2_with fail
      clear h0 h1 h2
      obtain ⟨wo, rfl⟩ : ∃ wo : World, wo = wr := ⟨_, rfl⟩
      go_loopw [28] (fun i wi => ∃ (j : Nat), j ≤ k ∧ i = .int .i64 j ∧ Hid (((xs.take k).take j).all (fun t => !clash rest t x) = true) ∧ Ext (wo.alloc (.cells #[.int .i64 x.g, .int .i64 x.f, .int .i64 x.t] 85)) wi) (fun i _ => k - (intOf i).toNat)
      case atStart => exact ⟨0, Nat.zero_le _, rfl, rfl, Ext.refl _⟩
      case round =>
        obtain ⟨j, hj, rfl, hzj, hbi⟩ := hrel
        have hxi := hx.keep ((HB.out.alloc _).trans hbi)
        have k0 := hbi.cellAt wo.heap.size (by simp)
        have m0 : wr.heap.size ≠ wo.heap.size := by have := hbi.size; simp at this; omega
        have m1 : wo.heap.size < wr.heap.size := by have := hbi.size; simp at this; omega
        by_cases hjt : j < k
        · obtain ⟨b', off', t, hA, hbs', htk, g0, g1, g2⟩ := GShift.at_ hxi (k := j) (by omega)
          simp only [Option.some.injEq, Addr.mk.injEq, and_true] at hA
          obtain ⟨rfl, rfl⟩ := hA
          have HT := Lib.hid htk
          have HBi := Lib.hid hbi
          have htok := Lib.hid (all_at HV1.out htk)
          have e1 := Lib.hid (shOk_bd hxok.out)
          have e2 := Lib.hid (shOk_bd htok.out)
          clear htk hbi hxi
          cases hg : (x.g == t.g)
          all_goals
            go_wp2_with (first | (go_at_call 111; refine (impl_rests _ x.f x.t _ t.f t.t rest _ ⟨e1.out.2.2.1, e1.out.2.2.2.1⟩ e1.out.2.2.2.2 ⟨e2.out.2.2.1, e2.out.2.2.2.1⟩ e2.out.2.2.2.2 hr1 hr2).mono ?_; rintro e w1 ⟨rfl, hb1⟩; have HB1 := Lib.hid hb1; clear hb1))
          all_goals first
            | (go_ret
               have hcl : clash rest t x = true := (by go_light; first | (simp_all [clash]; done) | (simp_all [clash]; omega))
               exact ⟨ret_bool (by rw [shiftsOk, noClash_bad rest HX.out HT.out hjt hcl]; simp), by have := HB.out; have := HBi.out; have := HB1.out; (repeat (first | exact Ext.refl _ | assumption | refine Ext.alloc ?_ _ | refine Ext.drew ?_ | refine Ext.drewN ?_ _ | refine Ext.setCell ?_ (by first | (simp; done) | (simp; omega)) _ | refine Ext.trans ?_ (by assumption)))⟩)
            | (go_roundw
               case rel =>
                 have hcl : clash rest t x = false := (by go_light; first | (simp_all [clash]; done) | (simp_all [clash]; omega) | (simp_all [clash] <;> intros <;> omega))
                 refine ⟨j + 1, by omega, by go_num, ?_, by have := HBi.out; (try have := HB1.out); (repeat (first | exact Ext.refl _ | assumption | refine Ext.alloc ?_ _ | refine Ext.drew ?_ | refine Ext.drewN ?_ _ | refine Ext.setCell ?_ (by first | (simp; done) | (simp; omega)) _ | refine Ext.trans ?_ (by assumption)))⟩
                 unfold Hid
                 rw [take_snoc (x := t) (by rw [List.getElem?_take, if_pos hjt]; exact HT.out), List.all_append, hzj.out]
                 simp [hcl]
               case measure => simp [intOf]; omega)
        · obtain rfl : j = k := by omega
          go_wp2_with fail
          go_roundw
          case rel =>
            refine ⟨j + 1, by omega, by go_num, ?_, by have := HB.out; (repeat (first | exact Ext.refl _ | assumption | refine Ext.alloc ?_ _ | refine Ext.drew ?_ | refine Ext.drewN ?_ _ | refine Ext.setCell ?_ (by first | (simp; done) | (simp; omega)) _ | refine Ext.trans ?_ (by assumption)))⟩
            unfold Hid
            rw [take_snoc HX.out, noClash_snoc, hz.out]
            have h3 := hzj.out
            rw [List.take_of_length_le (l := xs.take j) (by rw [List.length_take]; omega)] at h3
            simpa using h3
          case measure => simp [intOf]; omega
    · obtain rfl : k = n := by omega
      go_wp2_with fail
      go_ret
      have h3 := hz.out
      rw [List.take_of_length_le (by rw [hl.out]; omega)] at h3
      exact ⟨ret_bool (by rw [shiftsOk, HV.out, HR.out, h3]; rfl), hb⟩
def joinStep (p : Int) (r : Int) : Int := bits .or .i64 p r
def joinAll (xs : List Int) : Int := if xs.all (fun r => decide (0 ≤ r)) then xs.foldl joinStep 0 else 0
end Go.Proofs.Ytlgmiifpdjalpaa
