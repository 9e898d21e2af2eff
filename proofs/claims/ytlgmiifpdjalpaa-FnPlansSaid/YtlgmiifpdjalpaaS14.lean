/- Contract of firstList at a test that has captured three variables; no condition but what stands at each theorem. -/
import Derived.Test.YtlgmiifpdjalpaaS5
import Derived.Test.YtlgmiifpdjalpaaM3
import Derived.Test.YtlgmiifpdjalpaaK9
import Derived.Deep.DeepFit
namespace Go.Proofs.Ytlgmiifpdjalpaa
set_option linter.unusedSimpArgs false
set_option linter.unusedVariables false
open Go.RowKit Go.Sort
/-- What a search hands back: nil, or a list. -/
def FLPost (o : Option (List Int)) (w : World) (e : Ending) (w' : World) : Prop :=
  (o = none ∧ e = .returned (.slice none 0 0) ∧ Ext w w') ∨ (∃ L g c, o = some L ∧ e = .returned (.slice (some ⟨g, 0, none⟩) L.length c) ∧ Ext w w' ∧ w'.ownsRow w.heap.size 3 1 (.slice (some ⟨g, 0, none⟩) L.length c) L.length (L.flatMap ienc))
/-- Function F, called with a list of indices below n and what it has captured, tells p. -/
def Tst3 (F : FuncId) (q1 q2 q3 : Value) (n : Nat) (p : List Int → Bool) (W0 : World) : Prop :=
  ∀ (w' : World) (A : Option Addr) (k c : Nat) (b : List Int), Ext W0 w' → Rd w' 1 A k (b.flatMap ienc) → (∀ x ∈ b, 0 ≤ x ∧ x < n) → k ≤ 6 → Calls Try.prog F #[.slice A k c, q1, q2, q3] w' fun e w'' => e = .returned (.bool (p b)) ∧ Ext w' w''
theorem fromN_nil : fromN [] = 0 := rfl
theorem fromN_last {b : List Int} {k : Nat} {x : Int} (h : b.length = k + 1) (hx : b[k]? = some x) : fromN b = (x + 1).toNat := by
  unfold fromN
  rw [List.getLast?_eq_getElem?, h, show k + 1 - 1 = k by omega, hx]
set_option maxRecDepth 100000 in
set_option maxHeartbeats 2000000 in
theorem impl_firstList3 (q1 q2 q3 : Value) (n : Nat) (hn6 : n ≤ 6) (p : List Int → Bool) (W0 : World) (hT : Tst3 97 q1 q2 q3 n p W0) :
    ∀ (m : Nat) (b : List Int) (A : Option Addr) (k3 c3 : Nat) (w : World), Ext W0 w → Rd w 1 A k3 (b.flatMap ienc) → k3 ≤ c3 → Hid (A = none → c3 = 0) → Hid (∀ x ∈ b, 0 ≤ x ∧ x < n) → k3 + m ≤ 6 →
      Calls Try.prog 98 #[.int .i64 n, .slice A k3 c3, .int .i64 m, .func (.func 97) #[] #[q1, q2, q3]] w (FLPost ((lsts n m b).find? p) w) := by
  intro m
  induction m with
  | zero =>
    intro b A k3 c3 w hW hx hc3 hnc hib hk6
    have hl := hx.len ienc_len (by omega)
    have hf : (lsts n 0 b).find? p = if p b then some b else none := by
      simp only [lsts]; cases hp : p b <;> simp [hp]
    rw [hf]
    have HL := Lib.hid hl
    have HT := Lib.hid (hT w A k3 c3 b hW hx hib.out (by omega))
    clear hl hf
    cases hp : p b
    case false =>
      simp only [Bool.false_eq_true, if_false]
      rw [hp] at HT
      have HP := Lib.hid hp
      clear hp hT
      go_enter Try.func98, Try.ntmps98
      go_wp2_with (refine HT.out.mono ?_; rintro e w1 ⟨rfl, hb1⟩)
      go_ret
      exact .inl ⟨rfl, rfl, hb1⟩
    case true =>
      simp only [if_true]
      rw [hp] at HT
      have HP := Lib.hid hp
      have HX := Lib.hid hx
      clear hp hT hx
      go_enter Try.func98, Try.ntmps98
      go_wp2_with (first | (refine HT.out.mono ?_; rintro e w1 ⟨rfl, hb1⟩; have HB1 := Lib.hid hb1; have HE := Lib.hid (own_empty w1 w1.heap.size 3 1 (Nat.le_refl _)); have HX1 := Lib.hid ((HX.out.keep hb1).alloc (.cells #[] 3)); have HEx := Lib.hid ((Ext.refl w1).alloc (.cells #[] 3)); clear hb1) | (at_builtin; refine appendRdN ei_int rfl _ _ rfl w1.heap.size _ _ 0 [] (by rfl) HE.out A k3 c3 (b.flatMap ienc) (by rfl) HX1.out hnc.out (one_ienc _) (by omega) (by simp) (by intro h; cases h) ?_; intro g c w2 ho he; have Ho := Lib.hid ho; have He := Lib.hid (he w1 HEx.out (Nat.le_refl _)); clear ho he))
      go_ret
      have ho := Ho.out
      rw [Nat.zero_add, List.nil_append] at ho
      refine .inr ⟨b, g, c, rfl, ?_, HB1.out.trans He.out, ?_⟩
      · rw [HL.out]; rfl
      · rw [HL.out]; exact own_weak ho HB1.out.size
  | succ m ih =>
    intro b A k3 c3 w hW hx hc3 hnc hib hk6
    have hl := hx.len ienc_len (by omega)
    rw [show ((m + 1 : Nat) : Int) = (m : Int) + 1 from by push_cast; rfl]
    have hfr : Hid (fromN b ≤ n ∧ (lsts n (m + 1) b).find? p = (List.range' (fromN b) (n - fromN b)).findSome? fun (k : Nat) => (lsts n m (b ++ [(k : Int)])).find? p) := by
      refine ⟨?_, lsts_find n m b p⟩
      cases hk : b.length with
      | zero => rw [List.eq_nil_of_length_eq_zero hk, fromN_nil]; omega
      | succ j =>
        obtain ⟨x, hx'⟩ : ∃ x, b[j]? = some x := ⟨b[j], List.getElem?_eq_getElem (by omega)⟩
        rw [fromN_last hk hx']
        have := hib.out x (List.mem_of_getElem? hx')
        omega
    have HL := Lib.hid hl
    have IH := Lib.hid ih
    have HT := Lib.hid hT
    clear ih hT hl
    have hcut := run_cut3 (P := Try.prog) (t := 31) (e := 3) (s := 1) Try.underlying31 (fun _ => by kernel_rfl) hx hc3
    have b2 : ((m : Int) + 1 == 0) = false := by rw [beq_eq_false_iff_ne]; omega
    by_cases hk0 : k3 = 0
    · subst hk0
      have hb0 : b = [] := List.eq_nil_of_length_eq_zero HL.out
      have hf0 : Hid (fromN b = 0) := by unfold Hid; rw [hb0]; rfl
      clear hb0
      go_enter Try.func98, Try.ntmps98
      go_wp2_with fail
      go_loopw [10] (fun i wr => ∃ k : Nat, k ≤ n ∧ fromN b ≤ k ∧ i = .int .i64 k ∧ Hid ((lsts n (m + 1) b).find? p = (List.range' k (n - k)).findSome? fun (k : Nat) => (lsts n m (b ++ [(k : Int)])).find? p) ∧ Ext w wr) (fun i _ => n - (intOf i).toNat)
      case atStart => exact ⟨fromN b, hfr.out.1, Nat.le_refl _, by rw [hf0.out]; rfl, hfr.out.2, Ext.refl _⟩
      case round =>
        obtain ⟨k, hk, hfk, rfl, hz, hb⟩ := hrel
        by_cases hlt : k < n
        · have HX := Lib.hid (hx.keep hb)
          have HB := Lib.hid hb
          clear hb
          have hr' : Hid (List.range' k (n - k) = k :: List.range' (k + 1) (n - (k + 1))) := by
            unfold Hid
            have : n - k = (n - (k + 1)) + 1 := by omega
            rw [this, List.range'_succ]
          go_wp2_with (at_builtin; refine appendCap ei_int rfl _ _ rfl wr _ _ _ (b.flatMap ienc) (by rfl) HX.out [.int .i64 k] (by rfl) rfl (by intro u hu; simp at hu; subst hu; rfl) (by omega) ?_; intro v4 w4 ho4 he4; obtain ⟨A4, c4, rfl, hnc4⟩ := own_form ho4; have Ho4 := Lib.hid ho4; have He4 := Lib.hid he4; clear ho4 he4)
          have hap : b.flatMap ienc ++ [.int .i64 (k : Int)] = (b ++ [(k : Int)]).flatMap ienc := by rw [List.flatMap_append]; rfl
          have hrd4 := Rd.of_own Ho4.out
          rw [hap] at hrd4
          have HCall := Lib.hid (IH.out (b ++ [(k : Int)]) A4 _ c4 w4 (hW.trans (HB.out.trans He4.out)) hrd4 hnc4 (Lib.hid (own_nilcap Ho4.out)) (by unfold Hid; intro x hx; rcases List.mem_append.1 hx with hx | hx; exact hib.out x hx; simp at hx; subst hx; omega) (by omega))
          clear hap hrd4
          refine HCall.out.mono ?_
          clear HCall
          rintro e w5 (⟨hF, rfl, he5⟩ | ⟨L, g, c, hF, rfl, he5, ho5⟩)
          · have HE5 := Lib.hid (HB.out.trans (He4.out.trans he5))
            have HF := Lib.hid hF
            clear hF he5
            go_wp2_with fail
            go_roundw
            case rel => exact ⟨k + 1, by omega, by omega, by go_num, by unfold Hid; rw [hz.out, hr'.out, List.findSome?_cons, HF.out], HE5.out⟩
            case measure => simp [intOf]; omega
          · have HE5 := Lib.hid (HB.out.trans (He4.out.trans he5))
            have HF := Lib.hid hF
            have hs4 := (HB.out.trans He4.out).size
            have HO5 := Lib.hid (own_weak ho5 hs4)
            clear hF he5 ho5
            go_wp2_with fail
            go_ret
            exact .inr ⟨L, g, c, by rw [hz.out, hr'.out, List.findSome?_cons, HF.out], rfl, HE5.out, HO5.out⟩
        · obtain rfl : k = n := by omega
          go_wp2_with fail
          go_ret
          exact .inl ⟨by rw [hz.out, Nat.sub_self]; rfl, rfl, hb⟩
    · obtain ⟨bb, off, x, rfl, hbs, hxk, h0⟩ := ienc_at hx (k := k3 - 1) (by omega)
      have hxb := hib.out x (List.mem_of_getElem? hxk)
      obtain ⟨q, rfl⟩ := Int.eq_ofNat_of_zero_le hxb.1
      have hq : q < n := by omega
      have hf0 : Hid (fromN b = q + 1) := by unfold Hid; rw [fromN_last (k := k3 - 1) (by rw [HL.out]; omega) hxk]; omega
      clear hxk hxb
      have hk3p : 0 < k3 := by omega
      have d1 : decide (0 < k3) = true := by simp; omega
      have d2 : decide ((0 : Int) < (k3 : Int)) = true := by simp; omega
      go_enter Try.func98, Try.ntmps98
      go_wp2_with fail
      clear h0
      go_loopw [10] (fun i wr => ∃ k : Nat, k ≤ n ∧ fromN b ≤ k ∧ i = .int .i64 k ∧ Hid ((lsts n (m + 1) b).find? p = (List.range' k (n - k)).findSome? fun (k : Nat) => (lsts n m (b ++ [(k : Int)])).find? p) ∧ Ext w wr) (fun i _ => n - (intOf i).toNat)
      case atStart => exact ⟨fromN b, hfr.out.1, Nat.le_refl _, by rw [hf0.out]; go_num, hfr.out.2, Ext.refl _⟩
      case round =>
        obtain ⟨k, hk, hfk, rfl, hz, hb⟩ := hrel
        by_cases hlt : k < n
        · have HX := Lib.hid (hx.keep hb)
          have HB := Lib.hid hb
          clear hb
          have hr' : Hid (List.range' k (n - k) = k :: List.range' (k + 1) (n - (k + 1))) := by
            unfold Hid
            have : n - k = (n - (k + 1)) + 1 := by omega
            rw [this, List.range'_succ]
          go_wp2_with (at_builtin; refine appendCap ei_int rfl _ _ rfl wr _ _ _ (b.flatMap ienc) (by rfl) HX.out [.int .i64 k] (by rfl) rfl (by intro u hu; simp at hu; subst hu; rfl) (by omega) ?_; intro v4 w4 ho4 he4; obtain ⟨A4, c4, rfl, hnc4⟩ := own_form ho4; have Ho4 := Lib.hid ho4; have He4 := Lib.hid he4; clear ho4 he4)
          have hap : b.flatMap ienc ++ [.int .i64 (k : Int)] = (b ++ [(k : Int)]).flatMap ienc := by rw [List.flatMap_append]; rfl
          have hrd4 := Rd.of_own Ho4.out
          rw [hap] at hrd4
          have HCall := Lib.hid (IH.out (b ++ [(k : Int)]) A4 _ c4 w4 (hW.trans (HB.out.trans He4.out)) hrd4 hnc4 (Lib.hid (own_nilcap Ho4.out)) (by unfold Hid; intro x hx; rcases List.mem_append.1 hx with hx | hx; exact hib.out x hx; simp at hx; subst hx; omega) (by omega))
          clear hap hrd4
          refine HCall.out.mono ?_
          clear HCall
          rintro e w5 (⟨hF, rfl, he5⟩ | ⟨L, g, c, hF, rfl, he5, ho5⟩)
          · have HE5 := Lib.hid (HB.out.trans (He4.out.trans he5))
            have HF := Lib.hid hF
            clear hF he5
            go_wp2_with fail
            go_roundw
            case rel => exact ⟨k + 1, by omega, by omega, by go_num, by unfold Hid; rw [hz.out, hr'.out, List.findSome?_cons, HF.out], HE5.out⟩
            case measure => simp [intOf]; omega
          · have HE5 := Lib.hid (HB.out.trans (He4.out.trans he5))
            have HF := Lib.hid hF
            have hs4 := (HB.out.trans He4.out).size
            have HO5 := Lib.hid (own_weak ho5 hs4)
            clear hF he5 ho5
            go_wp2_with fail
            go_ret
            exact .inr ⟨L, g, c, by rw [hz.out, hr'.out, List.findSome?_cons, HF.out], rfl, HE5.out, HO5.out⟩
        · obtain rfl : k = n := by omega
          go_wp2_with fail
          go_ret
          exact .inl ⟨by rw [hz.out, Nat.sub_self]; rfl, rfl, hb⟩
end Go.Proofs.Ytlgmiifpdjalpaa
