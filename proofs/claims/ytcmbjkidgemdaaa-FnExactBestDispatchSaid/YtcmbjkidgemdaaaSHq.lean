/- Contracts of hallsWith: the halls that a ring of keys opens; no condition but what stands at each theorem. -/
import Derived.Test.YtcmbjkidgemdaaaSHh
import Derived.Test.YtcmbjkidgemdaaaMB
import Derived.Test.YtcmbjkidgemdaaaKG
namespace Go.Proofs.Ytcmbjkidgemdaaa
set_option linter.unusedSimpArgs false
set_option linter.unusedVariables false
open Go.RowKit Go.Sort
def hallsL (ds : List GDoor) (h a ring : Nat) : List Int := ((List.range h).filter (reachB (opened ring ds) h a)).map fun (k : Nat) => (k : Int)
theorem opened_at {ds : List GDoor} {k ring : Nat} {d : GDoor} (h : ds[k]? = some d) : opened (ring >>> k) (ds.drop k) = if bitB ring k then d :: opened (ring >>> (k + 1)) (ds.drop (k + 1)) else opened (ring >>> (k + 1)) (ds.drop (k + 1)) := by
  rw [drop_cons h, opened, Nat.shiftRight_succ]
  rfl
theorem one_GDoor1 (x : GDoor) : ∀ u ∈ x.enc, u.oneCell' = true := by
  intro u hu
  simp only [GDoor.enc, List.mem_cons, List.not_mem_nil, or_false] at hu
  rcases hu with rfl | rfl <;> rfl
theorem one_int1 (k : Int) : ∀ u ∈ [Value.int .i64 k], u.oneCell' = true := by
  intro u hu
  simp only [List.mem_cons, List.not_mem_nil, or_false] at hu
  subst hu; rfl
theorem ei_Door : EI Try.prog 27 108 2 := ei_of Try.underlying27 (by omega) (by kernel_rfl)
set_option maxRecDepth 100000 in
set_option maxHeartbeats 4000000 in
theorem impl_hallsWith (h : Nat) (A : Option Addr) (n c : Nat) (ds : List GDoor) (a ring : Nat) (w : World) (hx : Rd w 2 A n (ds.flatMap GDoor.enc)) (hs : Hid (NoTwice ds)) (h1 : 1 ≤ h) (h7 : h ≤ 7) (hn12 : n ≤ 12) (ha : a < h) (hring : ring ≤ 1048576) :
    Calls Try.prog 67 #[.agg #[.int .i64 h, .slice A n c], .int .i64 a, .int .i64 ring] w fun e w' => ∃ v, e = .returned v ∧ Ext w w' ∧ w'.ownsRow w.heap.size 3 1 v (hallsL ds h a ring).length ((hallsL ds h a ring).flatMap ienc) := by
  have hl := Lib.hid (hx.len GDoor.len (by omega))
  obtain ⟨wb, hwb⟩ : ∃ wb, wb = w.alloc (.cells #[.int .i64 (h : Int), .slice A n c] 29) := ⟨_, rfl⟩
  obtain ⟨hE, hsb, a0, a1⟩ := box2 w _ _ _ wb hwb
  obtain ⟨wc, hwc⟩ : ∃ wc, wc = wb.alloc (.cells #[.int .i64 (h : Int), .slice none 0 0] 29) := ⟨_, rfl⟩
  have hEc : Ext wb wc := by rw [hwc]; exact (Ext.refl wb).alloc _
  have hsc : wc.heap.size = wb.heap.size + 1 := by rw [hwc]; simp
  have hbc : Blk wc (w.heap.size + 1) 29 #[.int .i64 (h : Int), .slice none 0 0] := by rw [hwc, ← hsb]; exact Blk.new _ _ _
  have HE := Lib.hid hE
  have HEc := Lib.hid hEc
  have Hwb := Lib.hid hwb
  have Hwc := Lib.hid hwc
  have Ha0 := Lib.hid a0
  have Ha1 := Lib.hid a1
  have Hbc := Lib.hid hbc
  have hxb := Lib.hid (hx.keep hE)
  have Hsb := Lib.hid hsb
  have Hsc : Hid (wc.heap.size = w.heap.size + 1 + 1) := by unfold Hid; omega
  have hnn := hx.2.1
  clear hE hEc hwb hwc a0 a1 hx hbc hsb hsc
  go_enter Try.func67, Try.ntmps67
  go_wp2_with fail
  rw [← Hwb.out, ← Hwc.out]
  go_loopw [18] (fun i wr => ∃ (k : Nat) (v : Value) (L : List GDoor), k ≤ n ∧ i = .int .i64 k ∧ Blk wr (w.heap.size + 1) 29 #[.int .i64 (h : Int), v] ∧ wr.ownsRow (w.heap.size + 1 + 1) 108 2 v L.length (L.flatMap GDoor.enc) ∧ Hid (opened ring ds = L ++ opened (ring >>> k) (ds.drop k)) ∧ Hid (L.length ≤ k) ∧ Ext wb wr) (fun i _ => n - (intOf i).toNat)
  case atStart => exact ⟨0, _, [], Nat.zero_le _, rfl, Hbc.out, World.ownsRow_nil _ _ _ _, rfl, Nat.zero_le _, HEc.out⟩
  case round =>
    obtain ⟨k, v, L, hk, rfl, hblk, hown, hz, hLk, hb⟩ := hrel
    have hbr := hblk.lt
    by_cases hlt : k < n
    · obtain ⟨b, off, x, rfl, hbs, hxk, p0, p1⟩ := GDoor.at_ (hxb.out.keep hb) hlt
      have HA := Lib.hid (opened_at (ring := ring) hxk)
      have hbt : (bits .and .i64 ((ring : Int) / 2 ^ k) 1 == 1) = bitB ring k := bit_test ring k (by omega)
      have HO := Lib.hid hown
      have HB := Lib.hid hb
      have Hblk := Lib.hid hblk
      clear hxk hown hb hblk
      have hL12 : L.length ≤ 12 := by have := hLk.out; omega
      cases hbit : bitB ring k
      · rw [hbit] at hbt HA
        clear hbit
        go_wp2_with fail
        go_roundw
        case rel => exact ⟨k + 1, v, L, by omega, by go_num, Hblk.out.keep ((Ext.refl _).alloc _), own_keep HO.out ((Ext.refl _).alloc _), by unfold Hid; rw [hz.out, HA.out]; rfl, by have := hLk.out; unfold Hid; omega, HB.out.alloc _⟩
        case measure => simp [intOf]; omega
      · rw [hbit] at hbt HA
        clear hbit
        have c0 : wr.cell? ⟨w.heap.size + 1, 1, none⟩ = some v := Hblk.out.cell 1
        have m1 : wr.heap.size ≠ w.heap.size + 1 := by omega
        go_wp2_with (at_builtin; refine (fun h : Hid _ => h.out) ?_)
        unfold Hid
        refine append1G ei_Door rfl _ _ rfl (w.heap.size + 1 + 1) (wr.alloc (.cells #[.int .i64 x.a, .int .i64 x.b] 108)) _ v L.length _ (by rfl) (HO.out.alloc _) (GDoor.enc x) (by rw [hsz_alloc]; rfl) rfl (one_GDoor1 x) (by omega) (by rw [hsz_alloc]; omega) ?_
        intro v' w2 row ho2 hg2 hr2
        obtain ⟨A', c', rfl, hnc'⟩ := own_form ho2
        have HBk2 := Lib.hid (grown_blk hg2 hr2 (Hblk.out.keep ((Ext.refl wr).alloc _)) (by omega))
        have c1 : w2.cell? ⟨w.heap.size + 1, 1, none⟩ = some v := HBk2.out.cell 1
        have f1 := HBk2.out.free 1
        have HO2 := Lib.hid ho2
        have HE2 := Lib.hid (grown_ext hg2 hr2 (HB.out.alloc _) (by have := Hsb.out; omega))
        clear ho2 hg2 hr2
        go_wp2_with fail
        go_roundw
        case rel => exact ⟨k + 1, _, L ++ [x], by omega, by go_num, HBk2.out.set 1 _, own_far (by have := HO2.out; simpa using this) (by omega) _, by unfold Hid; rw [hz.out, HA.out]; simp, by have := hLk.out; unfold Hid; simp; omega, HE2.out.setCell (by have := Hsb.out; simp only; omega) _⟩
        case measure => simp [intOf]; omega
    · obtain rfl : k = n := by omega
      have HL : Hid (opened ring ds = L) := by unfold Hid; rw [hz.out, drop_nil (by rw [hl.out]; omega)]; simp [opened]
      obtain ⟨AL, cL, rfl, hncL⟩ := own_form hown
      have c0 : wr.cell? ⟨w.heap.size + 1, 0, none⟩ = some (.int .i64 (h : Int)) := hblk.cell 0
      have c1 : wr.cell? ⟨w.heap.size + 1, 1, none⟩ = some (.slice AL L.length cL) := hblk.cell 1
      have hsb := Hsb.out
      have a0 := (hb.cellAt w.heap.size (by omega) 0).trans Ha0.out
      have HC0 := Lib.hid c0
      have HC1 := Lib.hid c1
      have HA0 := Lib.hid a0
      have HO := Lib.hid hown
      have HB := Lib.hid hb
      have hL12 : L.length ≤ 12 := by have := hLk.out; omega
      have Hs : Hid (NoTwice L) := by unfold Hid; rw [← HL.out]; exact opened_twice hs.out
      have HH : Hid (hallsL ds h a ring = ((List.range h).filter (reachB L h a)).map fun (k : Nat) => (k : Int)) := by unfold Hid hallsL; rw [HL.out]
      clear hown hb hblk hsb
      obtain ⟨wo, rfl⟩ : ∃ wo : World, wo = wr := ⟨_, rfl⟩
      go_wp2_with fail
      clear c0 c1 a0
      go_loopw [10, 11] (fun o i wr => ∃ (k : Nat) (M : List Int), k ≤ h ∧ i = .int .i64 k ∧ wr.ownsRow wo.heap.size 3 1 o M.length (M.flatMap ienc) ∧ Hid (M = ((List.range k).filter (reachB L h a)).map fun (k : Nat) => (k : Int)) ∧ Hid (M.length ≤ k) ∧ Ext wo wr) (fun _ i _ => h - (intOf i).toNat)
      case atStart => exact ⟨0, [], Nat.zero_le _, rfl, own_empty wo wo.heap.size 3 1 (Nat.le_refl _), rfl, Nat.zero_le _, (Ext.refl wo).alloc _⟩
      case round =>
        obtain ⟨k, M, hk, rfl, hown, hz2, hMk, hb⟩ := hrel
        have c0 := (hb.cellAt (w.heap.size + 1) hbr 0).trans HC0.out
        have c1 := (hb.cellAt (w.heap.size + 1) hbr 1).trans HC1.out
        have a0 := (hb.cellAt w.heap.size (by omega) 0).trans HA0.out
        have hM7 : M.length ≤ 7 := by have := hMk.out; omega
        have hbs := hb.size
        have HO2 := Lib.hid hown
        have HB2 := Lib.hid hb
        clear hown hb
        by_cases hlt : k < h
        · have cW := Lib.hid (impl_wayIn h AL L.length cL L a k wr (Rd.of_own (own_keep HO.out HB2.out)) Hs h1 h7 hL12 ha hlt)
          go_wp2_with fail
          refine cW.out.mono ?_
          rintro e w5 (⟨hf, rfl, he5⟩ | ⟨hf, g, c', rfl, he5⟩)
          · have HR : Hid (reachB L h a k = false) := by unfold Hid; simp only [reachB, decide_eq_false_iff_not]; omega
            have HE5 := Lib.hid (HB2.out.trans he5)
            have HO5 := Lib.hid (own_keep HO2.out he5)
            clear hf he5
            go_wp2_with fail
            go_roundw
            case rel => exact ⟨k + 1, M, by omega, by go_num, HO5.out, by unfold Hid; rw [hz2.out, List.range_succ, List.filter_append]; simp [HR.out], by have := hMk.out; unfold Hid; omega, HE5.out⟩
            case measure => simp [intOf]; omega
          · have HR : Hid (reachB L h a k = true) := by unfold Hid; simp only [reachB, decide_eq_true_eq]; omega
            have HE5 := Lib.hid (HB2.out.trans he5)
            have HO5 := Lib.hid (own_keep HO2.out he5)
            have hs5 := HE5.out.size
            clear hf he5
            go_wp2_with (at_builtin; refine append1 ei_I rfl _ _ rfl wo.heap.size w5 _ _ M.length _ (by rfl) HO5.out [.int .i64 k] (by rfl) rfl (one_int1 _) (by omega) hs5 ?_; intro v' w6 ho6 he6; have HO6 := Lib.hid ho6; have HE6 := Lib.hid (he6 wo HE5.out (Nat.le_refl _)); clear ho6 he6)
            go_roundw
            case rel => exact ⟨k + 1, M ++ [(k : Int)], by omega, by go_num, by have := HO6.out; simpa [ienc] using this, by unfold Hid; rw [hz2.out, List.range_succ, List.filter_append]; simp [HR.out], by have := hMk.out; unfold Hid; simp; omega, HE6.out⟩
            case measure => simp [intOf]; omega
        · obtain rfl : k = h := by omega
          go_wp2_with fail
          go_ret
          have hM : hallsL ds k a ring = M := by rw [HH.out, hz2.out]
          exact ⟨_, rfl, HE.out.trans (HB.out.trans HB2.out), by rw [hM]; exact own_weak HO2.out (by omega)⟩
end Go.Proofs.Ytcmbjkidgemdaaa
