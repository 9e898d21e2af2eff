/- Contracts of the stable sort that FillShifts calls, at 20 elements or fewer; no condition but what stands at each theorem. -/
import Derived.Test.YtlgmiifpdjalpaaMF
import Derived.Test.YtlgmiifpdjalpaaS7
import Derived.Test.YtlgmiifpdjalpaaK9
import Derived.RegionTactic
namespace Go.Proofs.Ytlgmiifpdjalpaa
set_option linter.unusedSimpArgs false
set_option linter.unusedVariables false
open Go.RowKit Go.Sort
theorem shF_at {xs : List GShift} {i : Nat} {x : GShift} (h : xs[i]? = some x) : shF xs i = x.f := by rw [shF, List.getD_eq_getElem?_getD, h]; rfl
theorem shT_at {xs : List GShift} {i : Nat} {x : GShift} (h : xs[i]? = some x) : shT xs i = x.t := by rw [shT, List.getD_eq_getElem?_getD, h]; rfl
theorem sh_bd {xs : List GShift} (h : xs.all shOk = true) {i : Nat} {x : GShift} (hx : xs[i]? = some x) : 0 ≤ x.f ∧ x.f ≤ 10000 ∧ 0 ≤ x.t ∧ x.t ≤ 10000 := by
  have := List.all_eq_true.1 h x (List.mem_of_getElem? hx)
  simp [shOk, inB] at this
  omega
def ints (l : List Nat) : List Int := l.map fun (i : Nat) => (i : Int)
theorem ints_len (l : List Nat) : (ints l).length = l.length := by simp [ints]
theorem ints_get {l : List Nat} {k i : Nat} (h : l[k]? = some i) : (ints l).getD k 0 = (i : Int) := by
  rw [ints, List.getD_eq_getElem?_getD, List.getElem?_map, h]; rfl
/-- While the element i moves down: what is settled below, i, what it has passed, the rest. -/
def mid (q : List Nat) (i : Nat) (r tl : List Nat) : List Nat := q ++ i :: (r ++ tl)
theorem mid_at (q : List Nat) (i : Nat) (r tl : List Nat) : (mid q i r tl)[q.length]? = some i := by simp [mid]
theorem mid_below (q : List Nat) (y i : Nat) (r tl : List Nat) : (mid (q ++ [y]) i r tl)[q.length]? = some y := by simp [mid]
theorem mid_swap (q : List Nat) (y i : Nat) (r tl : List Nat) : ((ints (mid (q ++ [y]) i r tl)).set (q.length + 1) (y : Int)).set q.length (i : Int) = ints (mid q i (y :: r) tl) := by
  unfold ints mid
  rw [List.append_assoc, List.map_append, List.map_append]
  rw [List.set_append, if_neg (by simp), List.set_append, if_neg (by simp)]
  simp
theorem mid_end (q : List Nat) (i : Nat) (r tl : List Nat) : mid q i r tl = (q ++ i :: r) ++ tl := by simp [mid]
set_option maxRecDepth 100000 in
set_option maxHeartbeats 1000000 in
theorem impl_FillShifts1 (g : Nat) (A : Option Addr) (n c : Nat) (xs : List GShift) (i j : Nat) (w : World) (hb : w.cell? ⟨g, 0, none⟩ = some (.slice A n c)) (hx : Rd w 3 A n (xs.flatMap GShift.enc)) (hi : i < n) (hj : j < n) (hok : Hid (xs.all shOk = true)) :
    Calls Try.prog 107 #[.int .i64 i, .int .i64 j, .pointer (some ⟨g, 0, none⟩)] w fun e w' => e = .returned (.int .i64 (shF xs i - shF xs j)) ∧ Ext w w' := by
  obtain ⟨b, off, x, rfl, hbs, hxi, h0, h1, h2⟩ := GShift.at_ hx hi
  obtain ⟨b', off', y, he, hbs', hyj, k0, k1, k2⟩ := GShift.at_ hx hj
  simp at he
  obtain ⟨rfl, rfl⟩ := he
  rw [shF_at hxi, shF_at hyj]
  have bx := sh_bd hok.out hxi
  have by_ := sh_bd hok.out hyj
  have hin : (i : Int) < n := by omega
  have hjn : (j : Int) < n := by omega
  have ew : IntKind.i64.wrap (x.f - y.f) = x.f - y.f := IntWalk.i64_in _ (by omega)
  clear hxi hyj hx hok
  go_enter Try.func107, Try.ntmps107
  go_wp2_with fail
  go_quiet (fail)
  go_wp2_with fail
  go_ret
  exact ⟨rfl, (Ext.refl _).drewN _⟩
set_option maxRecDepth 100000 in
set_option maxHeartbeats 1000000 in
theorem slices_ins_none (v : Value) (a : Nat) (f : Value) (w : World) (ha : a ≤ 1000) : Calls Try.prog 129 #[v, .int .i64 a, .int .i64 a, f] w fun e w' => e = .returned (.tuple #[]) ∧ w = w' := by
  go_enter Try.func129, Try.ntmps129
  go_wp2_with fail
  refine wp_loop_rounds 1 ?_
  rw [rounds_succ]
  go_wp2
  go_end0
  exact ⟨rfl, rfl⟩
set_option maxRecDepth 100000 in
set_option maxHeartbeats 4000000 in
theorem slices_ins (g c gl : Nat) (A : Option Addr) (n cx : Nat) (xs : List GShift) (w : World) (hx : Rd w 3 A n (xs.flatMap GShift.enc)) (hbx : w.cell? ⟨gl, 0, none⟩ = some (.slice A n cx)) (hgl : gl < g) (hA : ∀ b off, A = some ⟨b, off, none⟩ → b < g) (hok : Hid (xs.all shOk = true))
    (hn : n ≤ 20) (hb : PBlk w g 3 (ints (List.range n))) :
    Calls Try.prog 129 #[.slice (some ⟨g, 0, none⟩) n c, .int .i64 0, .int .i64 n, .func (.func 107) #[] #[.pointer (some ⟨gl, 0, none⟩)]] w fun e w' => e = .returned (.tuple #[]) ∧ w.grownBy w' (some g) ∧ PBlk w' g 3 (ints (ordL xs)) := by
  have hl := Lib.hid (hx.len GShift.len (by omega))
  have hgw := hb.lt
  have HX := Lib.hid hx
  have hlw : gl < w.heap.size := by omega
  have key : ∀ wr, w.grownBy wr (some g) → Rd wr 3 A n (xs.flatMap GShift.enc) ∧ wr.cell? ⟨gl, 0, none⟩ = some (.slice A n cx) := fun wr hg => by
    refine ⟨⟨HX.out.1, HX.out.2.1, fun h => ?_⟩, (grown_cell hg gl (by omega) hlw 0).trans hbx⟩
    obtain ⟨b, off, e, hb', hc⟩ := HX.out.2.2 h
    have hbg := hA b off e
    exact ⟨b, off, e, Nat.lt_of_lt_of_le hb' hg.size, fun j u hu => (grown_cell hg b (by omega) hb' _).trans (hc j u hu)⟩
  have HK := Lib.hid key
  have HA := Lib.hid hA
  clear key hx hbx hA
  by_cases h0 : n = 0
  case pos =>
    subst h0
    have hnil : xs = [] := List.length_eq_zero_iff.1 hl.out
    have he : ordL xs = List.range 0 := by rw [hnil]; simp [ordL]
    rw [he]
    refine (slices_ins_none _ 0 _ w (by omega)).mono ?_
    rintro e w' ⟨rfl, rfl⟩
    exact ⟨rfl, grown_refl _ _, hb⟩
  case neg =>
  go_enter Try.func129, Try.ntmps129
  go_wp2_with fail
  go_loopw [8] (fun iv wr => ∃ (i : Nat) (p : List Nat), 1 ≤ i ∧ i ≤ n ∧ iv = .int .i64 i ∧ Hid (p.Perm (List.range i)) ∧ Hid (p.Pairwise (fun a b => lexL xs a b = true)) ∧ Hid (PBlk wr g 3 (ints (p ++ List.range' i (n - i)))) ∧ w.grownBy wr (some g)) (fun iv _ => n - (intOf iv).toNat)
  case atStart =>
    refine ⟨1, [0], Nat.le_refl _, by omega, rfl, by unfold Hid; exact List.Perm.refl _, Lib.hid (by simp), ?_, grown_refl _ _⟩
    have : [0] ++ List.range' 1 (n - 1) = List.range n := by
      rw [List.range_eq_range']
      obtain ⟨m, rfl⟩ : ∃ m, n = m + 1 := ⟨n - 1, by omega⟩
      rw [List.range'_succ]; simp
    unfold Hid
    rw [this]
    exact hb
  case round =>
    obtain ⟨i, p, hi1, hin, rfl, hp, hs, hbk, hg⟩ := hrel
    have HG := Lib.hid hg
    clear hg hb
    by_cases hlt : i < n
    case neg =>
      obtain rfl : i = n := by omega
      go_wp2_with fail
      go_end0
      refine ⟨rfl, HG.out, ?_⟩
      have h := hbk.out
      rw [Nat.sub_self, show List.range' i 0 = [] from rfl, List.append_nil, ordL_eq (xs := xs) (by rw [hl.out]; exact hp.out) hs.out] at h
      exact h
    case pos =>
    have hpl : p.length = i := by rw [hp.out.length_eq, List.length_range]
    go_wp2_with fail
    obtain ⟨wq, rfl⟩ : ∃ wq, wq = wr := ⟨_, rfl⟩
    have hmid0 : p ++ List.range' i (n - i) = mid p i [] (List.range' (i + 1) (n - (i + 1))) := by
      obtain ⟨m, hm⟩ : ∃ m, n - i = m + 1 := ⟨n - i - 1, by omega⟩
      rw [hm, List.range'_succ, show n - (i + 1) = m by omega]
      simp [mid]
    rw [hmid0] at hbk
    have HPL := Lib.hid hpl
    clear hmid0 hpl
    go_loopw [9] (fun jv wr => ∃ (q r : List Nat), jv = .int .i64 q.length ∧ q.length ≤ i ∧ Hid (p = q ++ r) ∧ Hid (∀ y ∈ r, shF xs i < shF xs y) ∧ Hid (PBlk wr g 3 (ints (mid q i r (List.range' (i + 1) (n - (i + 1)))))) ∧ w.grownBy wr (some g)) (fun jv _ => (intOf jv).toNat)
    case atStart => exact ⟨p, [], by rw [HPL.out], by rw [HPL.out]; exact Nat.le_refl _, by unfold Hid; simp, Lib.hid (fun y hy => by cases hy), hbk, HG.out⟩
    case round =>
      obtain ⟨q, r, rfl, hqi, hpq, hr, hbq, hg⟩ := hrel
      have HG2 := Lib.hid hg
      clear hg
      have fin : (q = [] ∨ ∃ q' y, q = q' ++ [y] ∧ shF xs y ≤ shF xs i) → Hid (((q ++ i :: r).Perm (List.range (i + 1))) ∧ ((q ++ i :: r).Pairwise (fun a b => lexL xs a b = true))) := fun hq => by
        have hmem : ∀ y ∈ p, y < i := fun y hy => List.mem_range.1 (hp.out.subset hy)
        constructor
        · refine List.perm_middle.trans ?_
          rw [List.range_succ, ← hpq.out]
          exact (List.perm_append_singleton i _).symm.trans (hp.out.append_right [i]) |>.trans (List.Perm.refl _)
        · have hs1 := hs.out
          rw [hpq.out, List.pairwise_append] at hs1
          rw [List.pairwise_append]
          refine ⟨hs1.1, List.pairwise_cons.2 ⟨fun y hy => ?_, hs1.2.1⟩, fun a ha b hb => ?_⟩
          · rw [lexL_iff]; exact .inl (hr.out y hy)
          · rcases List.mem_cons.1 hb with rfl | hb
            · rcases hq with rfl | ⟨q', y, rfl, hy⟩
              · cases ha
              · have hyi : y < b := hmem y (by rw [hpq.out]; simp)
                have h1 : lexL xs y b = true := by rw [lexL_iff]; omega
                rcases List.mem_append.1 ha with ha | ha
                · have h2 := (List.pairwise_append.1 hs1.1).2.2 a ha y (List.mem_singleton.2 rfl)
                  exact lexL_trans xs a y b h2 h1
                · rw [List.mem_singleton] at ha
                  subst ha
                  exact h1
            · exact hs1.2.2 a ha b hb
      have HF := Lib.hid fin
      clear fin
      have hend : Hid (mid q i r (List.range' (i + 1) (n - (i + 1))) = (q ++ i :: r) ++ List.range' (i + 1) (n - (i + 1))) := mid_end ..
      have hii : (i : Int) ≤ n := by omega
      rcases List.eq_nil_or_concat q with hq | ⟨q', y, hq⟩
      · subst hq
        have HF1 := HF.out (.inl rfl)
        rw [hend.out] at hbq
        clear HF hend
        go_wp2_with fail
        (refine wp_region_ext (by kernel_rfl) (by kernel_rfl) ?_; (repeat (go_big_quiet_step (first | fail))); refine wpQuiet_nil ?_)
        intro w1 hb1
        go_wp2_with fail
        go_roundw
        case rel => exact ⟨i + 1, [] ++ i :: r, by omega, by omega, by go_num, HF1.out.1, HF1.out.2, Lib.hid (hbq.out.keep hb1), grown_extD HG2.out hb1⟩
        case measure => simp [intOf]; omega
      · rw [List.concat_eq_append] at hq
        subst hq
        have hql : (q' ++ [y]).length = q'.length + 1 := by simp
        rw [hql] at hqi ⊢
        have hyp : y ∈ p := by rw [hpq.out]; simp
        have hyi : y < i := List.mem_range.1 (hp.out.subset hyp)
        have ci := hbq.out.cell (i := q'.length + 1) (by rw [ints_len]; simp [mid])
        have cy := hbq.out.cell (i := q'.length) (by rw [ints_len]; first | (simp [mid]; done) | (simp [mid]; omega))
        rw [ints_get (by rw [← hql]; exact mid_at ..)] at ci
        rw [ints_get (mid_below ..)] at cy
        have fi := hbq.out.free (q'.length + 1)
        have fy := hbq.out.free q'.length
        have hgr : g < wr.heap.size := hbq.out.lt
        have e0 := cell_regrown ci
        have e1 := cell_regrown cy
        have cC : ∀ W, Ext wr W → Calls Try.prog 107 #[.int .i64 i, .int .i64 y, .pointer (some ⟨gl, 0, none⟩)] W fun e w' => e = .returned (.int .i64 (shF xs i - shF xs y)) ∧ Ext W w' := fun W e => by
          obtain ⟨k1, k2⟩ := HK.out wr HG2.out
          exact impl_FillShifts1 gl A n cx xs i y W ((e.cellAt gl (Nat.lt_trans hgl hgr) 0).trans k2) (k1.keep e) hlt (by omega) hok
        have CC := Lib.hid cC
        have ew : IntKind.i64.wrap (((q'.length + 1 : Nat) : Int) - 1) = (q'.length : Int) := by rw [IntWalk.i64_in _ (by omega)]; push_cast; omega
        have ew2 : IntKind.i64.wrap ((q'.length : Int) + 1 - 1) = (q'.length : Int) := by rw [IntWalk.i64_in _ (by omega)]; omega
        have hqn : (q'.length : Int) < n := by omega
        have hqn1 : (q'.length : Int) + 1 < n := by omega
        have hq0 : (0 : Int) < (q'.length : Int) + 1 := by omega
        have hq1 : (1 : Int) ≤ (q'.length : Int) + 1 := by omega
        clear cC
        obtain ⟨d, hd⟩ : ∃ d, d = shF xs i - shF xs y := ⟨_, rfl⟩
        rw [← hd] at CC
        have Hd := Lib.hid hd
        clear hd
        by_cases hdn : d < 0
        · have hlt2 : shF xs i < shF xs y := by have := Hd.out; omega
          have HR := Lib.hid (show ∀ z ∈ y :: r, shF xs i < shF xs z from fun z hz => by
            rcases List.mem_cons.1 hz with rfl | hz
            · exact hlt2
            · exact hr.out z hz)
          have HPQ : Hid (p = q' ++ y :: r) := by unfold Hid; rw [hpq.out]; simp
          go_wp2_with fail
          (refine wp_region_ext (by kernel_rfl) (by kernel_rfl) ?_; (repeat (go_big_quiet_step (first | (go_at_call 107; with_reducible exact Calls.rg (CC.out _ (ext_rg _ _ _)))))); refine wpQuiet_nil ?_)
          intro w1 hb1
          have hbq1 := hbq.out.keep hb1
          have H1 : Hid (PBlk ((w1.setCell ⟨g, q'.length + 1, none⟩ (.int .i64 y)).setCell ⟨g, q'.length, none⟩ (.int .i64 i)) g 3 (ints (mid q' i (y :: r) (List.range' (i + 1) (n - (i + 1)))))) := by
            unfold Hid; rw [← mid_swap]; exact (hbq1.set _ _).set _ _
          have HG1 : Hid (w.grownBy ((w1.setCell ⟨g, q'.length + 1, none⟩ (.int .i64 y)).setCell ⟨g, q'.length, none⟩ (.int .i64 i)) (some g)) := grown_set (grown_set (grown_extD HG2.out hb1) _ _) _ _
          have c0 := (hb1.cellAt g hgr (q'.length + 1)).trans ci
          have c1 := (hb1.cellAt g hgr q'.length).trans cy
          have f0 := hbq1.free (q'.length + 1)
          have f1 := hbq1.free q'.length
          clear fi fy ci cy e0 e1 hb1 hbq1 hbq
          go_wp2_with fail
          go_region
          go_wp2_with fail
          go_roundw
          case rel => exact ⟨q', y :: r, by go_num, by omega, HPQ, HR, H1, grown_drew1 HG1.out⟩
          case measure => simp [intOf]
        · have hle : shF xs y ≤ shF xs i := by have := Hd.out; omega
          have HF1 := HF.out (.inr ⟨q', y, rfl, hle⟩)
          rw [hend.out] at hbq
          clear HF hend
          go_wp2_with fail
          (refine wp_region_ext (by kernel_rfl) (by kernel_rfl) ?_; (repeat (go_big_quiet_step (first | (go_at_call 107; with_reducible exact Calls.rg (CC.out _ (ext_rg _ _ _)))))); refine wpQuiet_nil ?_)
          intro w1 hb1
          go_wp2_with fail
          go_roundw
          case rel => exact ⟨i + 1, q' ++ [y] ++ i :: r, by omega, by omega, by go_num, HF1.out.1, HF1.out.2, Lib.hid (hbq.out.keep hb1), grown_extD HG2.out hb1⟩
          case measure => simp [intOf]; omega
end Go.Proofs.Ytlgmiifpdjalpaa
