/- Texts of one proof, laid one behind the other (SDe, SDf, MZ); no condition but what stands at each theorem. -/
import Derived.Test.YtfmifllcbbfpoaaGreatDoorZC
import Derived.Test.YtfmifllcbbfpoaaGreatDoorZG
import Derived.Test.YtfmifllcbbfpoaaGreatDoorZL
import Derived.Test.YtfmifllcbbfpoaaGreatDoorZN
import Derived.Test.YtfmifllcbbfpoaaGreatDoorZS
/- The halls behind a hall's doors, as the reference lists them for a draw; no condition but what stands at each theorem. -/
namespace Go.Proofs.YtfmifllcbbfpoaaGreatDoor
set_option linter.unusedSimpArgs false
set_option linter.unusedVariables false
open Go.RowKit Go.Sort
set_option maxRecDepth 100000 in
set_option maxHeartbeats 2000000 in
theorem spec_l23Has (H : Int) (A : Option Addr) (n c : Nat) (ds : List GDoor) (x : Int) (w : World) (hx : Rd w 2 A n (ds.flatMap GDoor.enc)) (hB : houseB H ds = true) (h0 : 0 ≤ x) (h1 : x < H) :
    Calls Tryz.prog 138 #[.agg #[.int .i64 H, .slice A n c], .int .i64 x] w fun e w' => e = .returned (.bool true) ∧ Ext w w' := by
  have h7 := houseB_spec hB
  have hH1 : 1 ≤ H := h7.1
  have hH7 : H ≤ 7 := h7.2.1
  have HB := Lib.hid hB
  have HI : Hid (inB x 0 (H - 1) = true) := Lib.hid (by simp [inB]; omega)
  clear h7 hB
  obtain ⟨wb, hwb⟩ : ∃ wb, wb = w.alloc (.cells #[.int .i64 H, .slice A n c] 26) := ⟨_, rfl⟩
  obtain ⟨hE, hsb, k0, k1⟩ := box2 w _ _ _ wb hwb
  have HE := Lib.hid hE
  have Hwb := Lib.hid hwb
  have Hk0 := Lib.hid k0
  have Hk1 := Lib.hid k1
  have hbl : w.heap.size < wb.heap.size := by omega
  have hxb := Lib.hid (hx.keep hE)
  clear hE hx hsb k0 k1 hwb
  have HC := Lib.hid (spec_HouseOk H A n c ds wb hxb.out)
  rw [HB.out] at HC
  go_enter Tryz.func138, Tryz.ntmps138
  go_wp2_with (go_at_call 69; refine (fun h : Hid _ => h.out) ?_)
  unfold Hid
  rw [← Hwb.out]
  refine HC.out.mono ?_
  rintro e w1 ⟨rfl, he1⟩
  have r0 := (he1.cellAt w.heap.size hbl 0).trans Hk0.out
  have HE1 := Lib.hid he1
  clear he1 HC
  go_wp2_with (go_at_call 66; refine (fun h : Hid _ => h.out) ?_)
  unfold Hid
  refine (spec_l01In _ _ _ _).mono ?_
  rintro e w2 ⟨rfl, rfl⟩
  rw [HI.out]
  go_wp2_with fail
  go_ret
  exact ⟨rfl, HE.out.trans HE1.out⟩
/-- Halls have been listed in a row of the call's own. -/
def DoorsPost (H : Nat) (w : World) (e : Ending) (w' : World) : Prop := ∃ (v : Value) (xs : List Int), e = .returned v ∧ w'.ownsRow w.heap.size 3 1 v xs.length (xs.flatMap ienc) ∧ xs.length ≤ H ∧ (∀ y ∈ xs, 0 ≤ y ∧ y < H) ∧ Ext w w'
set_option maxRecDepth 100000 in
set_option maxHeartbeats 4000000 in
theorem spec_DoorsFrom (H : Nat) (A : Option Addr) (n c : Nat) (ds : List GDoor) (x : Int) (w : World) (hx : Rd w 2 A n (ds.flatMap GDoor.enc)) (hB : houseB (H : Int) ds = true) (h0 : 0 ≤ x) (h1 : x < H) :
    Calls Tryz.prog 124 #[.agg #[.int .i64 (H : Int), .slice A n c], .int .i64 x] w (DoorsPost H w) := by
  have hH7 : (H : Int) ≤ 7 := (houseB_spec hB).2.1
  have CHas := Lib.hid (fun W (k : Rd W 2 A n (ds.flatMap GDoor.enc)) => spec_l23Has (H : Int) A n c ds x W k hB h0 h1)
  have CDoor := Lib.hid (fun (y : Int) W (k : Rd W 2 A n (ds.flatMap GDoor.enc)) => spec_l23Door (H : Int) A n c ds y x W k)
  clear hB
  obtain ⟨wb, hwb⟩ : ∃ wb, wb = w.alloc (.cells #[.int .i64 H, .slice A n c] 26) := ⟨_, rfl⟩
  obtain ⟨hE, hsb, k0, k1⟩ := box2 w _ _ _ wb hwb
  have HE := Lib.hid hE
  have Hwb := Lib.hid hwb
  have Hk0 := Lib.hid k0
  have Hk1 := Lib.hid k1
  have hbl : w.heap.size < wb.heap.size := by omega
  have hxb := Lib.hid (hx.keep hE)
  clear hE hx hsb k0 k1 hwb
  obtain ⟨wc, hwc⟩ : ∃ wc, wc = wb.alloc (.cells #[] 3) := ⟨_, rfl⟩
  have HEc : Hid (Ext wb wc) := by unfold Hid; rw [hwc]; exact (Ext.refl wb).alloc _
  have HOc : Hid (wc.ownsRow wb.heap.size 3 1 (.slice (some ⟨wb.heap.size, 0, none⟩) 0 0) 0 []) := by unfold Hid; rw [hwc]; exact own_empty wb wb.heap.size 3 1 (Nat.le_refl _)
  have hsb : wb.heap.size = w.heap.size + 1 := by rw [Hwb.out]; simp
  rw [hsb] at HOc
  have Hwc := Lib.hid hwc
  have Hsb := Lib.hid hsb
  clear hwc hsb
  have hsw := HE.out.size
  go_enter Tryz.func124, Tryz.ntmps124
  go_wp2_with fail
  rw [← Hwb.out, ← Hwc.out]
  go_loopw [5, 6] (fun o i wr => ∃ (k : Nat) (L : List Int), k ≤ H ∧ i = .int .i64 k ∧ Hid (wr.ownsRow (w.heap.size + 1) 3 1 o L.length (L.flatMap ienc)) ∧ Hid (L.length ≤ k) ∧ Hid (∀ y ∈ L, 0 ≤ y ∧ y < H) ∧ Hid (Ext wb wr)) (fun _ i _ => H - (intOf i).toNat)
  case atStart => exact ⟨0, [], Nat.zero_le _, rfl, HOc, Lib.hid (Nat.zero_le _), Lib.hid (fun y hy => by cases hy), HEc⟩
  case round =>
    obtain ⟨k, L, hk, rfl, HO, hLk, hLm, HB⟩ := hrel
    have k0 := (HB.out.cellAt w.heap.size hbl 0).trans Hk0.out
    have k1 := (HB.out.cellAt w.heap.size hbl 1).trans Hk1.out
    by_cases hlt : k < H
    · go_wp2_with (go_at_call 138; refine (fun h : Hid _ => h.out) ?_)
      unfold Hid
      refine (CHas.out _ (hxb.out.keep HB.out)).mono ?_
      rintro e w1 ⟨rfl, he1⟩
      have HO1 := Lib.hid (own_keep HO.out he1)
      have HE1 := Lib.hid (HB.out.trans he1)
      clear he1 k0 k1
      have k0 := (HE1.out.cellAt w.heap.size hbl 0).trans Hk0.out
      have k1 := (HE1.out.cellAt w.heap.size hbl 1).trans Hk1.out
      by_cases hkx : (k : Int) = x
      · go_wp2_with fail
        go_roundw
        case rel => exact ⟨k + 1, L, by omega, by go_num, HO1, Lib.hid (by have := hLk.out; omega), hLm, HE1⟩
        case measure => simp [intOf]; omega
      · go_wp2_with (go_at_call 67; refine (fun h : Hid _ => h.out) ?_)
        unfold Hid
        refine (CDoor.out _ _ (hxb.out.keep HE1.out)).mono ?_
        rintro e w2 ⟨rfl, he2⟩
        have HO2 := Lib.hid (own_keep HO1.out he2)
        have HE2 := Lib.hid (HE1.out.trans he2)
        have hs2 : w.heap.size + 1 ≤ w2.heap.size := by have := HE2.out.size; have := Hsb.out; omega
        clear he2 k0 k1
        cases hd : doorB ds k x
        · go_wp2_with fail
          go_roundw
          case rel => exact ⟨k + 1, L, by omega, by go_num, HO2, Lib.hid (by have := hLk.out; omega), hLm, HE2⟩
          case measure => simp [intOf]; omega
        · have hLl : L.length ≤ 1000 := by have := hLk.out; omega
          go_wp2_with (at_builtin; refine (fun h : Hid _ => h.out) ?_)
          unfold Hid
          refine append1 ei_I rfl _ _ rfl (w.heap.size + 1) w2 _ _ L.length _ (by rfl) HO2.out [.int .i64 k] (by rfl) rfl (by intro u hu; simp at hu; subst hu; rfl) (by omega) (by omega) ?_
          intro v' w6 ho6 he6
          have HO6 := Lib.hid ho6
          have HE6 := Lib.hid (he6 wb HE2.out (by have := Hsb.out; omega))
          clear ho6 he6
          go_wp2_with fail
          go_roundw
          case rel => exact ⟨k + 1, L ++ [(k : Int)], by omega, by go_num, Lib.hid (by have := HO6.out; simpa [ienc] using this), Lib.hid (by have := hLk.out; simp; omega), Lib.hid (fun y hy => by
            rcases List.mem_append.1 hy with hy | hy
            · exact hLm.out y hy
            · rw [List.mem_singleton] at hy; subst hy; omega), HE6⟩
          case measure => simp [intOf]; omega
    · obtain rfl : k = H := by omega
      go_wp2_with fail
      go_ret
      exact ⟨_, L, rfl, own_weak HO.out (by omega), hLk.out, hLm.out, HE.out.trans HB.out⟩
end Go.Proofs.YtfmifllcbbfpoaaGreatDoor
/- The drawing of a move; no condition but what stands at each theorem. -/
namespace Go.Proofs.YtfmifllcbbfpoaaGreatDoor
set_option linter.unusedSimpArgs false
set_option linter.unusedVariables false
open Go.RowKit Go.Sort
/-- A Boolean has been drawn. -/
def DrawnBool (p : Nat) (w : World) (e : Ending) (w' : World) : Prop := ∃ b : Bool, e = .returned (.bool b) ∧ Cur w' p ∧ w.grownBy w' (some p)
set_option maxRecDepth 100000 in
set_option maxHeartbeats 1000000 in
theorem spec_l01Once (p : Nat) (n : Int) (w : World) (hc : Cur w p) : Calls Tryz.prog 85 #[.pointer (some ⟨p, 0, none⟩), .int .i64 n] w (DrawnBool p w) := by
  have cA := Lib.hid (spec_l01Below p n w hc)
  clear hc
  go_enter Tryz.func85, Tryz.ntmps85
  go_wp2_with (go_at_call 71; refine (fun h : Hid _ => h.out) ?_)
  unfold Hid
  refine cA.out.mono ?_
  rintro e w1 ⟨r, rfl, h0, h1, hc1, hg1⟩
  have HC := Lib.hid hc1
  have HG := Lib.hid hg1
  clear hc1 hg1 cA
  go_wp2_with fail
  go_ret
  exact ⟨_, rfl, HC.out, HG.out⟩
theorem rd1_lt {w : World} {A : Option Addr} {n : Nat} {xs : List Int} (h : Rd w 1 A n (xs.flatMap ienc)) (hn : 0 < n) : ∀ b off, A = some ⟨b, off, none⟩ → b < w.heap.size := by
  intro b off e
  obtain ⟨b', off', x, e', hb, -⟩ := ienc_at h hn
  rw [e'] at e
  injection e with e
  injection e with e
  subst e
  exact hb
theorem rd2_lt {w : World} {A : Option Addr} {n : Nat} {ds : List GDoor} (h : Rd w 2 A n (ds.flatMap GDoor.enc)) (hn : 0 < n) : ∀ b off, A = some ⟨b, off, none⟩ → b < w.heap.size := by
  intro b off e
  obtain ⟨b', off', x, e', hb, -⟩ := GDoor.at_ h hn
  rw [e'] at e
  injection e with e
  injection e with e
  subst e
  exact hb
theorem ienc_at' {w : World} {b off n k : Nat} {xs : List Int} (h : Rd w 1 (some ⟨b, off, none⟩) n (xs.flatMap ienc)) (hk : k < n) : ∃ x, xs[k]? = some x ∧ w.cell? ⟨b, off + k, none⟩ = some (.int .i64 x) := by
  obtain ⟨b', off', x, e', hb, h1, h2⟩ := ienc_at h hk
  injection e' with e'
  injection e' with e1 e2
  subst e1
  subst e2
  exact ⟨x, h1, h2⟩
/-- The numbers of a move lie in their ranges. -/
def MvIn (H n1 n2 : Nat) (x : GMove) : Prop := (0 ≤ x.o ∧ x.o < n1) ∧ (0 ≤ x.t ∧ x.t < H) ∧ (0 ≤ x.f ∧ x.f < n2) ∧ 0 ≤ x.s ∧ x.s < n2
/-- A move has been drawn. -/
def DrawnMove (p H n1 n2 : Nat) (w : World) (e : Ending) (w' : World) : Prop := ∃ x : GMove, e = .returned (.agg #[.int .i64 x.o, .int .i64 x.t, .int .i64 x.f, .int .i64 x.s]) ∧ MvIn H n1 n2 x ∧ Cur w' p ∧ w.grownBy w' (some p)
/-- While a move is drawn: the house's box, the result's box, the cursor, the rows that came in. -/
structure LSt (w : World) (p H : Nat) (A : Option Addr) (n c : Nat) (ds : List GDoor) (A1 : Option Addr) (n1 : Nat) (ps : List Int) (A2 : Option Addr) (n2 : Nat) (gs : List Int) (wr : World) : Prop where
  lp : p < w.heap.size
  hb : Blk wr w.heap.size 26 #[.int .i64 (H : Int), .slice A n c]
  rb : Blk wr (w.heap.size + 1) 46 #[.int .i64 0, .int .i64 0, .int .i64 0, .int .i64 0]
  cu : Cur wr p
  g : w.grownBy wr (some p)
  r0 : Rd wr 2 A n (ds.flatMap GDoor.enc)
  r1 : Rd wr 1 A1 n1 (ps.flatMap ienc)
  r2 : Rd wr 1 A2 n2 (gs.flatMap ienc)
  f0 : 0 < n → ∀ b off, A = some ⟨b, off, none⟩ → b ≠ p ∧ b < w.heap.size
  f1 : 0 < n1 → ∀ b off, A1 = some ⟨b, off, none⟩ → b ≠ p ∧ b < w.heap.size
  f2 : 0 < n2 → ∀ b off, A2 = some ⟨b, off, none⟩ → b ≠ p ∧ b < w.heap.size
theorem LSt.draw {w wr w2 : World} {p H n c n1 n2 : Nat} {A A1 A2 : Option Addr} {ds : List GDoor} {ps gs : List Int} (h : LSt w p H A n c ds A1 n1 ps A2 n2 gs wr) (hc : Cur w2 p) (hg : wr.grownBy w2 (some p)) : LSt w p H A n c ds A1 n1 ps A2 n2 gs w2 := by
  have lp := h.lp
  exact ⟨lp, blk_grown h.hb (by omega) hg, blk_grown h.rb (by omega) hg, hc, grown_trans h.g hg, rd_grown h.r0 (fun k b off e => (h.f0 k b off e).1) hg, rd_grown h.r1 (fun k b off e => (h.f1 k b off e).1) hg, rd_grown h.r2 (fun k b off e => (h.f2 k b off e).1) hg, h.f0, h.f1, h.f2⟩
theorem LSt.ext {w wr w2 : World} {p H n c n1 n2 : Nat} {A A1 A2 : Option Addr} {ds : List GDoor} {ps gs : List Int} (h : LSt w p H A n c ds A1 n1 ps A2 n2 gs wr) (e : Ext wr w2) : LSt w p H A n c ds A1 n1 ps A2 n2 gs w2 :=
  ⟨h.lp, h.hb.keep e, h.rb.keep e, cur_ext h.cu e, grown_extD h.g e, h.r0.keep e, h.r1.keep e, h.r2.keep e, h.f0, h.f1, h.f2⟩
theorem LSt.put {w wr : World} {p H n c n1 n2 : Nat} {A A1 A2 : Option Addr} {ds : List GDoor} {ps gs : List Int} (h : LSt w p H A n c ds A1 n1 ps A2 n2 gs wr) {gm : Nat} (hm : w.heap.size + 1 < gm) (i : Nat) (u : Value) : LSt w p H A n c ds A1 n1 ps A2 n2 gs (wr.setCell ⟨gm, i, none⟩ u) := by
  have lp := h.lp
  exact ⟨lp, Blk.far h.hb (p := ⟨gm, i, none⟩) (by show w.heap.size ≠ gm; omega) _, Blk.far h.rb (p := ⟨gm, i, none⟩) (by show w.heap.size + 1 ≠ gm; omega) _, cur_far h.cu (by omega) _, grown_fresh h.g (by omega) _,
    Rd.far h.r0 ⟨gm, i, none⟩ u (fun k b off e => by have := (h.f0 k b off e).2; show b ≠ gm; omega), Rd.far h.r1 ⟨gm, i, none⟩ u (fun k b off e => by have := (h.f1 k b off e).2; show b ≠ gm; omega), Rd.far h.r2 ⟨gm, i, none⟩ u (fun k b off e => by have := (h.f2 k b off e).2; show b ≠ gm; omega), h.f0, h.f1, h.f2⟩
set_option maxRecDepth 100000 in
set_option maxHeartbeats 8000000 in
theorem spec_l35Move (p H : Nat) (A : Option Addr) (n c : Nat) (ds : List GDoor) (A1 : Option Addr) (n1 c1 : Nat) (ps : List Int) (A2 : Option Addr) (n2 c2 : Nat) (gs : List Int) (w : World)
    (hc : Cur w p) (hx : Rd w 2 A n (ds.flatMap GDoor.enc)) (hx1 : Rd w 1 A1 n1 (ps.flatMap ienc)) (hx2 : Rd w 1 A2 n2 (gs.flatMap ienc))
    (hp0 : 0 < n → ∀ b off, A = some ⟨b, off, none⟩ → b ≠ p) (hp1 : 0 < n1 → ∀ b off, A1 = some ⟨b, off, none⟩ → b ≠ p) (hp2 : 0 < n2 → ∀ b off, A2 = some ⟨b, off, none⟩ → b ≠ p)
    (hB : houseB (H : Int) ds = true) (hps : ∀ x ∈ ps, 0 ≤ x ∧ x < H) (h1 : 1 ≤ n1) (h2 : 2 ≤ n2) (hn1 : n1 ≤ 1048576) (hn2 : n2 ≤ 1048576) :
    Calls Tryz.prog 104 #[.pointer (some ⟨p, 0, none⟩), .agg #[.int .i64 (H : Int), .slice A n c], .slice A1 n1 c1, .slice A2 n2 c2] w (DrawnMove p H n1 n2 w) := by
  have hpw := hc.lt
  have hHH := houseB_spec hB
  have hH1 : 1 ≤ H := by have := hHH.1; omega
  obtain ⟨wb, hwb⟩ : ∃ wb, wb = (w.alloc (.cells #[.int .i64 (H : Int), .slice A n c] 26)).alloc (.cells #[.int .i64 0, .int .i64 0, .int .i64 0, .int .i64 0] 46) := ⟨_, rfl⟩
  have hs1 : (w.alloc (.cells #[.int .i64 (H : Int), .slice A n c] 26)).heap.size = w.heap.size + 1 := by simp
  have hE : Ext w wb := by rw [hwb]; exact ((Ext.refl w).alloc _).alloc _
  have hS : LSt w p H A n c ds A1 n1 ps A2 n2 gs wb := by
    refine ⟨hpw, ?_, ?_, cur_ext hc hE, grown_extD (grown_refl _ _) hE, hx.keep hE, hx1.keep hE, hx2.keep hE, fun k b off e => ⟨hp0 k b off e, rd2_lt hx k b off e⟩, fun k b off e => ⟨hp1 k b off e, rd1_lt hx1 k b off e⟩, fun k b off e => ⟨hp2 k b off e, rd1_lt hx2 k b off e⟩⟩
    · rw [hwb]; exact (Blk.new _ _ _).keep ((Ext.refl _).alloc _)
    · rw [← hs1, hwb]; exact Blk.new _ _ _
  have hsb : wb.heap.size = w.heap.size + 2 := by rw [hwb]; simp
  have Hwb := Lib.hid hwb
  have HS := Lib.hid hS
  have CD := Lib.hid (fun (z : Int) (W : World) (k : Rd W 2 A n (ds.flatMap GDoor.enc)) (z0 : 0 ≤ z) (z1 : z < H) => spec_DoorsFrom H A n c ds z W k hB z0 z1)
  have hps := Lib.hid hps
  have him := Lib.hid (imax_one hH1)
  have hmx := @run_imax Tryz.prog
  have q1 : ((n1 : Int) == 0) = false := by simp; omega
  have q1b : ¬ (n1 : Int) = 0 := by omega
  have q2 : ¬ (n2 : Int) < 2 := by omega
  clear hwb hs1 hE hS hc hx hx1 hx2 hp0 hp1 hp2 hHH hB
  go_enter Tryz.func104, Tryz.ntmps104
  go_wp2_with (go_at_call 71; refine (fun h : Hid _ => h.out) ?_)
  unfold Hid
  rw [← Hwb.out]
  refine (spec_l01Below p _ _ HS.out.cu).mono ?_
  rintro e w1 ⟨ro, rfl, o0, o1, hc1, hg1⟩
  obtain ⟨ob, rfl⟩ := Int.eq_ofNat_of_zero_le o0
  have hon : ob < n1 := by omega
  have hz1 := hg1.size
  have HS1 := Lib.hid (HS.out.draw hc1 hg1)
  clear hc1 hg1 o1 HS
  have y0 := HS1.out.hb.cellAt (i := 0) (by simp)
  simp at y0
  go_wp2_with (go_at_call 71; refine (fun h : Hid _ => h.out) ?_)
  unfold Hid
  refine (spec_l01Below p _ _ HS1.out.cu).mono ?_
  rintro e w2 ⟨rt, rfl, t0, t1, hc2, hg2⟩
  rw [him.out] at t1
  have ht : rt < H := by omega
  have hz2 := hg2.size
  have HS2 := Lib.hid (HS1.out.draw hc2 hg2)
  clear hc2 hg2 t1 HS1 y0
  go_wp2_with (go_at_call 71; refine (fun h : Hid _ => h.out) ?_)
  unfold Hid
  refine (spec_l01Below p _ _ HS2.out.cu).mono ?_
  rintro e w3 ⟨rf, rfl, f0, f1, hc3, hg3⟩
  have hf : rf < n2 := by omega
  have hz3 := hg3.size
  have HS3 := Lib.hid (HS2.out.draw hc3 hg3)
  clear hc3 hg3 f1 HS2
  go_wp2_with (go_at_call 71; refine (fun h : Hid _ => h.out) ?_)
  unfold Hid
  refine (spec_l01Below p _ _ HS3.out.cu).mono ?_
  rintro e w4 ⟨rs, rfl, s0, s1, hc4, hg4⟩
  have hs : rs < n2 := by omega
  have hz4 := hg4.size
  have HS4 := Lib.hid (HS3.out.draw hc4 hg4)
  clear hc4 hg4 s1 HS3
  obtain ⟨w5, hw5⟩ : ∃ w5, w5 = w4.alloc (.cells #[.int .i64 (ob : Int), .int .i64 rt, .int .i64 rf, .int .i64 rs] 46) := ⟨_, rfl⟩
  have hX5 : Blk w5 w4.heap.size 46 #[.int .i64 (ob : Int), .int .i64 rt, .int .i64 rf, .int .i64 rs] := by rw [hw5]; exact Blk.new _ _ _
  have HS5 : Hid (LSt w p H A n c ds A1 n1 ps A2 n2 gs w5) := Lib.hid (HS4.out.ext (by rw [hw5]; exact (Ext.refl _).alloc _))
  have HW5 := Lib.hid hw5
  have hz5 : w5.heap.size = w4.heap.size + 1 := by rw [hw5]; simp
  obtain ⟨gm, hgm⟩ : ∃ gm, gm = w4.heap.size := ⟨_, rfl⟩
  have HX5 := Lib.hid hX5
  have HGM := Lib.hid hgm
  have hgp : gm ≠ p := by omega
  have hgw : w.heap.size + 1 < gm := by omega
  have HM5 : Hid (MvIn H n1 n2 ⟨ob, rt, rf, rs⟩) := Lib.hid ⟨⟨by show (0 : Int) ≤ ob; omega, by show (ob : Int) < n1; omega⟩, ⟨t0, ht⟩, ⟨f0, hf⟩, s0, hs⟩
  clear hw5 hX5 HS4 t0 ht f0 hf s0 hs hgm
  obtain ⟨bp, op, z, hA1, -, hzk, p0⟩ := ienc_at HS5.out.r1 hon
  subst hA1
  have hzb := hps.out z (List.mem_of_getElem? hzk)
  have y0 := HS5.out.hb.cellAt (i := 0) (by simp)
  have y1 := HS5.out.hb.cellAt (i := 1) (by simp)
  simp at y0 y1
  have i0 : (0 : Int) ≤ (ob : Int) := by omega
  have i1 : (ob : Int) < (n1 : Int) := by omega
  have HZ := Lib.hid hzk
  have cD := Lib.hid (CD.out z w5.drew HS5.out.r0.drew hzb.1 hzb.2)
  clear hzk
  go_wp2_with fail
  rw [← HW5.out, ← HGM.out]
  go_region_held3 (fun w' => w'.cell? ⟨w.heap.size, 0, none⟩ = some (.int .i64 (H : Int)) ∧ w'.cell? ⟨w.heap.size, 1, none⟩ = some (.slice A n c) ∧ w'.cell? ⟨bp, op + ob, none⟩ = some (.int .i64 z)) (go_keep) (first
    | (go_at_call 124; refine cD.out.mono ?_; rintro e w6 ⟨dv, xs, rfl, ho, hdl, hdm, he⟩; have he5 : Ext w5 w6 := Ext.trans (Ext.refl _).drew he; have y0 := (HS5.out.ext he5).hb.cellAt (i := 0) (by simp); have y1 := (HS5.out.ext he5).hb.cellAt (i := 1) (by simp); simp at y0 y1; have p0 : w6.cell? ⟨bp, op + ob, none⟩ = some (.int .i64 z) := by (obtain ⟨z', hz', p0'⟩ := ienc_at' (HS5.out.ext he5).r1 hon; rw [HZ.out] at hz'; injection hz' with hz'; subst hz'; exact p0')))
  have HS6 := Lib.hid (HS5.out.ext he5)
  have hX6 := HX5.out.keep he5
  rw [← HGM.out] at hX6
  have HX6 := Lib.hid hX6
  obtain ⟨Ad, cd, rfl, -⟩ := own_form ho
  have HO6 : Hid (w6.ownsRow (p + 1) 3 1 (.slice Ad xs.length cd) xs.length (xs.flatMap ienc)) := Lib.hid (own_weak ho (show p + 1 ≤ w5.drew.heap.size by show p + 1 ≤ w5.heap.size; omega))
  have HDM := Lib.hid hdm
  obtain ⟨nd, hnd⟩ : ∃ nd, nd = xs.length := ⟨_, rfl⟩
  rw [← hnd] at HO6 hdl ⊢
  have HND := Lib.hid hnd
  clear ho hdm he he5 hX6 y0 y1 p0 HS5 HX5 hnd cD
  by_cases hd0 : nd = 0
  · subst hd0
    go_wp2_with fail
    have hg0 : (0 : Int) ≤ (ob : Int) := by omega
    go_loopw [12] (fun iv wr => ∃ (k : Nat) (x : GMove), k ≤ n2 ∧ iv = .int .i64 k ∧ Hid (LSt w p H A n c ds (some ⟨bp, op, none⟩) n1 ps A2 n2 gs wr) ∧ Hid (Blk wr gm 46 #[.int .i64 x.o, .int .i64 x.t, .int .i64 x.f, .int .i64 x.s]) ∧ Hid (MvIn H n1 n2 x)) (fun iv _ => n2 - (intOf iv).toNat)
    case atStart => exact ⟨0, _, Nat.zero_le _, rfl, HS6, HX6, HM5⟩
    case round =>
      obtain ⟨k, x, hk, rfl, HSr, HXr, HMr⟩ := hrel
      by_cases hlt : k < n2
      · go_wp2_with (go_at_call 85; refine (fun h : Hid _ => h.out) ?_)
        unfold Hid
        refine (spec_l01Once p _ _ HSr.out.cu).mono ?_
        rintro e wo ⟨bo, rfl, hco, hgo⟩
        have HSo := Lib.hid (HSr.out.draw hco hgo)
        have HXo := Lib.hid (blk_grown HXr.out hgp hgo)
        clear hco hgo
        cases bo
        · go_wp2_with fail
          go_loopw [13] (fun jv wr => ∃ (j : Nat) (x : GMove), j ≤ k ∧ jv = .int .i64 j ∧ Hid (LSt w p H A n c ds (some ⟨bp, op, none⟩) n1 ps A2 n2 gs wr) ∧ Hid (Blk wr gm 46 #[.int .i64 x.o, .int .i64 x.t, .int .i64 x.f, .int .i64 x.s]) ∧ Hid (MvIn H n1 n2 x)) (fun jv _ => k - (intOf jv).toNat)
          case atStart => exact ⟨0, x, Nat.zero_le _, rfl, HSo, HXo, HMr⟩
          case round =>
            obtain ⟨j, x, hj, rfl, HSr, HXr, HMr⟩ := hrel
            by_cases hlj : j < k
            · obtain ⟨bg, og, gi, hA2, -, -, p1⟩ := ienc_at HSr.out.r2 hlt
              subst hA2
              obtain ⟨gk, -, p2⟩ := ienc_at' HSr.out.r2 (show j < n2 by omega)
              obtain ⟨zz, -, p3⟩ := ienc_at' HSr.out.r1 hon
              have x1 := HXr.out.cellAt (i := 1) (by simp)
              simp at x1
              have y1 := cell_regrown p1
              have y2 := cell_regrown p2
              have y3 := cell_regrown p3
              have y4 := cell_regrown x1
              have k0 : (0 : Int) ≤ (k : Int) := by omega
              have k1 : (k : Int) < (n2 : Int) := by omega
              have j0 : (0 : Int) ≤ (j : Int) := by omega
              have j1 : (j : Int) < (n2 : Int) := by omega
              have cN1 := Lib.hid (fun W => spec_l35Near gi zz x.t W)
              have cN2 := Lib.hid (fun W => spec_l35Near gk zz x.t W)
              obtain ⟨B1, hB1⟩ : ∃ b, b = ((gi == zz) || (gi == x.t)) := ⟨_, rfl⟩
              obtain ⟨B2, hB2⟩ : ∃ b, b = ((gk == zz) || (gk == x.t)) := ⟨_, rfl⟩
              rw [← hB1] at cN1
              rw [← hB2] at cN2
              clear hB1 hB2
              cases B1
              · go_wp2_with fail
                (refine wp_region_ext (by kernel_rfl) (by kernel_rfl) ?_; (repeat (go_big_quiet_step (first | (go_at_call 68; first | with_reducible exact Calls.rg0 (cN1.out _) | with_reducible exact Calls.rg0 (cN2.out _))))); refine wpQuiet_nil ?_)
                intro w3 he3
                have HS3 := Lib.hid (HSr.out.ext he3)
                have HX3 := Lib.hid (HXr.out.keep he3)
                clear he3 p1 p2 p3 x1 y1 y2 y3 y4
                go_wp2_with fail
                go_roundw
                case rel => exact ⟨j + 1, x, by omega, by go_num, HS3, HX3, HMr⟩
                case measure => simp [intOf]; omega
              cases B2
              · go_wp2_with fail
                (refine wp_region_ext (by kernel_rfl) (by kernel_rfl) ?_; (repeat (go_big_quiet_step (first | (go_at_call 68; first | with_reducible exact Calls.rg0 (cN1.out _) | with_reducible exact Calls.rg0 (cN2.out _))))); refine wpQuiet_nil ?_)
                intro w3 he3
                have HS3 := Lib.hid (HSr.out.ext he3)
                have HX3 := Lib.hid (HXr.out.keep he3)
                clear he3 p1 p2 p3 x1 y1 y2 y3 y4
                go_wp2_with fail
                go_roundw
                case rel => exact ⟨j + 1, x, by omega, by go_num, HS3, HX3, HMr⟩
                case measure => simp [intOf]; omega
              · go_wp2_with fail
                (refine wp_region_ext (by kernel_rfl) (by kernel_rfl) ?_; (repeat (go_big_quiet_step (first | (go_at_call 68; first | with_reducible exact Calls.rg0 (cN1.out _) | with_reducible exact Calls.rg0 (cN2.out _))))); refine wpQuiet_nil ?_)
                intro w3 he3
                have HS3 := Lib.hid (HSr.out.ext he3)
                have HX3 := Lib.hid (HXr.out.keep he3)
                have v0 := HX3.out.cellAt (i := 0) (by simp)
                have v1 := HX3.out.cellAt (i := 1) (by simp)
                have v2 := HX3.out.cellAt (i := 2) (by simp)
                have v3 := HX3.out.cellAt (i := 3) (by simp)
                simp at v0 v1 v2 v3
                have vf := HX3.out.free
                have vl := HX3.out.lt
                clear he3 p1 p2 p3 x1 y1 y2 y3 y4
                go_wp2_with fail
                have hX4 := (HX3.out.set 2 (.int .i64 (k : Int))).set 3 (.int .i64 (j : Int))
                simp only [List.setIfInBounds_toArray, List.set_cons_succ, List.set_cons_zero] at hX4
                have HX4 := Lib.hid hX4
                have HS4 := Lib.hid ((HS3.out.put hgw 2 (.int .i64 (k : Int))).put hgw 3 (.int .i64 (j : Int)))
                clear hX4
                go_roundw
                case rel => exact ⟨j + 1, ⟨x.o, x.t, k, j⟩, by omega, by go_num, HS4, HX4, Lib.hid ⟨HMr.out.1, HMr.out.2.1, ⟨by show (0 : Int) ≤ k; omega, by show (k : Int) < n2; omega⟩, by show (0 : Int) ≤ j; omega, by show (j : Int) < n2; omega⟩⟩
                case measure => simp [intOf]; omega
            · obtain rfl : j = k := by omega
              go_wp2_with fail
              go_roundw
              case rel => exact ⟨j + 1, x, by omega, by go_num, HSr, HXr, HMr⟩
              case measure => simp [intOf]; omega
        · have HSf := HSo
          have HXf := HXo
          have HMf := HMr
          have v0 := HXf.out.cellAt (i := 0) (by simp)
          have v1 := HXf.out.cellAt (i := 1) (by simp)
          have v2 := HXf.out.cellAt (i := 2) (by simp)
          have v3 := HXf.out.cellAt (i := 3) (by simp)
          simp at v0 v1 v2 v3
          have u0 := HSf.out.rb.cellAt (i := 0) (by simp)
          have u1 := HSf.out.rb.cellAt (i := 1) (by simp)
          have u2 := HSf.out.rb.cellAt (i := 2) (by simp)
          have u3 := HSf.out.rb.cellAt (i := 3) (by simp)
          simp at u0 u1 u2 u3
          have uf := HSf.out.rb.free
          have ul := HSf.out.rb.lt
          go_wp2_with fail
          have F := HSf.out
          have FB := (((F.rb.set 0 (.int .i64 x.o)).set 1 (.int .i64 x.t)).set 2 (.int .i64 x.f)).set 3 (.int .i64 x.s)
          have lpw : p < w.heap.size + 1 := by omega
          have FC := cur_far (o := 3) (cur_far (o := 2) (cur_far (o := 1) (cur_far (o := 0) F.cu lpw (.int .i64 x.o)) lpw (.int .i64 x.t)) lpw (.int .i64 x.f)) lpw (.int .i64 x.s)
          have lq : w.heap.size ≤ w.heap.size + 1 := Nat.le_succ _
          have FG := grown_fresh (o := 3) (grown_fresh (o := 2) (grown_fresh (o := 1) (grown_fresh (o := 0) F.g lq (.int .i64 x.o)) lq (.int .i64 x.t)) lq (.int .i64 x.f)) lq (.int .i64 x.s)
          simp only [List.setIfInBounds_toArray, List.set_cons_succ, List.set_cons_zero] at FB
          have z0 := FB.cellAt (i := 0) (by simp)
          have z1 := FB.cellAt (i := 1) (by simp)
          have z2 := FB.cellAt (i := 2) (by simp)
          have z3 := FB.cellAt (i := 3) (by simp)
          simp only [List.getElem_toArray, List.getElem_cons_zero, List.getElem_cons_succ] at z0 z1 z2 z3
          refine bodyPost_ret (v := .agg #[.int .i64 x.o, .int .i64 x.t, .int .i64 x.f, .int .i64 x.s]) (by simp [results, Tryz.results104, go_sem, z0, z1, z2, z3]) rfl ?_
          exact ⟨x, rfl, HMf.out, FC, FG⟩
      · obtain rfl : k = n2 := by omega
        have HSf := HSr
        have HXf := HXr
        have HMf := HMr
        have v0 := HXf.out.cellAt (i := 0) (by simp)
        have v1 := HXf.out.cellAt (i := 1) (by simp)
        have v2 := HXf.out.cellAt (i := 2) (by simp)
        have v3 := HXf.out.cellAt (i := 3) (by simp)
        simp at v0 v1 v2 v3
        have u0 := HSf.out.rb.cellAt (i := 0) (by simp)
        have u1 := HSf.out.rb.cellAt (i := 1) (by simp)
        have u2 := HSf.out.rb.cellAt (i := 2) (by simp)
        have u3 := HSf.out.rb.cellAt (i := 3) (by simp)
        simp at u0 u1 u2 u3
        have uf := HSf.out.rb.free
        have ul := HSf.out.rb.lt
        go_wp2_with fail
        have F := HSf.out
        have FB := (((F.rb.set 0 (.int .i64 x.o)).set 1 (.int .i64 x.t)).set 2 (.int .i64 x.f)).set 3 (.int .i64 x.s)
        have lpw : p < w.heap.size + 1 := by omega
        have FC := cur_far (o := 3) (cur_far (o := 2) (cur_far (o := 1) (cur_far (o := 0) F.cu lpw (.int .i64 x.o)) lpw (.int .i64 x.t)) lpw (.int .i64 x.f)) lpw (.int .i64 x.s)
        have lq : w.heap.size ≤ w.heap.size + 1 := Nat.le_succ _
        have FG := grown_fresh (o := 3) (grown_fresh (o := 2) (grown_fresh (o := 1) (grown_fresh (o := 0) F.g lq (.int .i64 x.o)) lq (.int .i64 x.t)) lq (.int .i64 x.f)) lq (.int .i64 x.s)
        simp only [List.setIfInBounds_toArray, List.set_cons_succ, List.set_cons_zero] at FB
        have z0 := FB.cellAt (i := 0) (by simp)
        have z1 := FB.cellAt (i := 1) (by simp)
        have z2 := FB.cellAt (i := 2) (by simp)
        have z3 := FB.cellAt (i := 3) (by simp)
        simp only [List.getElem_toArray, List.getElem_cons_zero, List.getElem_cons_succ] at z0 z1 z2 z3
        refine bodyPost_ret (v := .agg #[.int .i64 x.o, .int .i64 x.t, .int .i64 x.f, .int .i64 x.s]) (by simp [results, Tryz.results104, go_sem, z0, z1, z2, z3]) rfl ?_
        exact ⟨x, rfl, HMf.out, FC, FG⟩
  · have hd1 : (0 : Int) < (nd : Int) := by omega
    go_wp2_with (go_at_call 85; refine (fun h : Hid _ => h.out) ?_)
    unfold Hid
    refine (spec_l01Once p _ _ HS6.out.cu).mono ?_
    rintro e w7 ⟨b7, rfl, hc7, hg7⟩
    have HS7 := Lib.hid (HS6.out.draw hc7 hg7)
    have HX7 := Lib.hid (blk_grown HX6.out hgp hg7)
    have HO7 := Lib.hid (own_grown HO6.out (Nat.lt_succ_self p) hg7)
    clear hc7 hg7 HS6 HX6 HO6
    cases b7
    rotate_left 1
    · go_wp2_with fail
      have hg0 : (0 : Int) ≤ (ob : Int) := by omega
      go_loopw [12] (fun iv wr => ∃ (k : Nat) (x : GMove), k ≤ n2 ∧ iv = .int .i64 k ∧ Hid (LSt w p H A n c ds (some ⟨bp, op, none⟩) n1 ps A2 n2 gs wr) ∧ Hid (Blk wr gm 46 #[.int .i64 x.o, .int .i64 x.t, .int .i64 x.f, .int .i64 x.s]) ∧ Hid (MvIn H n1 n2 x)) (fun iv _ => n2 - (intOf iv).toNat)
      case atStart => exact ⟨0, _, Nat.zero_le _, rfl, HS7, HX7, HM5⟩
      case round =>
        obtain ⟨k, x, hk, rfl, HSr, HXr, HMr⟩ := hrel
        by_cases hlt : k < n2
        · go_wp2_with (go_at_call 85; refine (fun h : Hid _ => h.out) ?_)
          unfold Hid
          refine (spec_l01Once p _ _ HSr.out.cu).mono ?_
          rintro e wo ⟨bo, rfl, hco, hgo⟩
          have HSo := Lib.hid (HSr.out.draw hco hgo)
          have HXo := Lib.hid (blk_grown HXr.out hgp hgo)
          clear hco hgo
          cases bo
          · go_wp2_with fail
            go_loopw [13] (fun jv wr => ∃ (j : Nat) (x : GMove), j ≤ k ∧ jv = .int .i64 j ∧ Hid (LSt w p H A n c ds (some ⟨bp, op, none⟩) n1 ps A2 n2 gs wr) ∧ Hid (Blk wr gm 46 #[.int .i64 x.o, .int .i64 x.t, .int .i64 x.f, .int .i64 x.s]) ∧ Hid (MvIn H n1 n2 x)) (fun jv _ => k - (intOf jv).toNat)
            case atStart => exact ⟨0, x, Nat.zero_le _, rfl, HSo, HXo, HMr⟩
            case round =>
              obtain ⟨j, x, hj, rfl, HSr, HXr, HMr⟩ := hrel
              by_cases hlj : j < k
              · obtain ⟨bg, og, gi, hA2, -, -, p1⟩ := ienc_at HSr.out.r2 hlt
                subst hA2
                obtain ⟨gk, -, p2⟩ := ienc_at' HSr.out.r2 (show j < n2 by omega)
                obtain ⟨zz, -, p3⟩ := ienc_at' HSr.out.r1 hon
                have x1 := HXr.out.cellAt (i := 1) (by simp)
                simp at x1
                have y1 := cell_regrown p1
                have y2 := cell_regrown p2
                have y3 := cell_regrown p3
                have y4 := cell_regrown x1
                have k0 : (0 : Int) ≤ (k : Int) := by omega
                have k1 : (k : Int) < (n2 : Int) := by omega
                have j0 : (0 : Int) ≤ (j : Int) := by omega
                have j1 : (j : Int) < (n2 : Int) := by omega
                have cN1 := Lib.hid (fun W => spec_l35Near gi zz x.t W)
                have cN2 := Lib.hid (fun W => spec_l35Near gk zz x.t W)
                obtain ⟨B1, hB1⟩ : ∃ b, b = ((gi == zz) || (gi == x.t)) := ⟨_, rfl⟩
                obtain ⟨B2, hB2⟩ : ∃ b, b = ((gk == zz) || (gk == x.t)) := ⟨_, rfl⟩
                rw [← hB1] at cN1
                rw [← hB2] at cN2
                clear hB1 hB2
                cases B1
                · go_wp2_with fail
                  (refine wp_region_ext (by kernel_rfl) (by kernel_rfl) ?_; (repeat (go_big_quiet_step (first | (go_at_call 68; first | with_reducible exact Calls.rg0 (cN1.out _) | with_reducible exact Calls.rg0 (cN2.out _))))); refine wpQuiet_nil ?_)
                  intro w3 he3
                  have HS3 := Lib.hid (HSr.out.ext he3)
                  have HX3 := Lib.hid (HXr.out.keep he3)
                  clear he3 p1 p2 p3 x1 y1 y2 y3 y4
                  go_wp2_with fail
                  go_roundw
                  case rel => exact ⟨j + 1, x, by omega, by go_num, HS3, HX3, HMr⟩
                  case measure => simp [intOf]; omega
                cases B2
                · go_wp2_with fail
                  (refine wp_region_ext (by kernel_rfl) (by kernel_rfl) ?_; (repeat (go_big_quiet_step (first | (go_at_call 68; first | with_reducible exact Calls.rg0 (cN1.out _) | with_reducible exact Calls.rg0 (cN2.out _))))); refine wpQuiet_nil ?_)
                  intro w3 he3
                  have HS3 := Lib.hid (HSr.out.ext he3)
                  have HX3 := Lib.hid (HXr.out.keep he3)
                  clear he3 p1 p2 p3 x1 y1 y2 y3 y4
                  go_wp2_with fail
                  go_roundw
                  case rel => exact ⟨j + 1, x, by omega, by go_num, HS3, HX3, HMr⟩
                  case measure => simp [intOf]; omega
                · go_wp2_with fail
                  (refine wp_region_ext (by kernel_rfl) (by kernel_rfl) ?_; (repeat (go_big_quiet_step (first | (go_at_call 68; first | with_reducible exact Calls.rg0 (cN1.out _) | with_reducible exact Calls.rg0 (cN2.out _))))); refine wpQuiet_nil ?_)
                  intro w3 he3
                  have HS3 := Lib.hid (HSr.out.ext he3)
                  have HX3 := Lib.hid (HXr.out.keep he3)
                  have v0 := HX3.out.cellAt (i := 0) (by simp)
                  have v1 := HX3.out.cellAt (i := 1) (by simp)
                  have v2 := HX3.out.cellAt (i := 2) (by simp)
                  have v3 := HX3.out.cellAt (i := 3) (by simp)
                  simp at v0 v1 v2 v3
                  have vf := HX3.out.free
                  have vl := HX3.out.lt
                  clear he3 p1 p2 p3 x1 y1 y2 y3 y4
                  go_wp2_with fail
                  have hX4 := (HX3.out.set 2 (.int .i64 (k : Int))).set 3 (.int .i64 (j : Int))
                  simp only [List.setIfInBounds_toArray, List.set_cons_succ, List.set_cons_zero] at hX4
                  have HX4 := Lib.hid hX4
                  have HS4 := Lib.hid ((HS3.out.put hgw 2 (.int .i64 (k : Int))).put hgw 3 (.int .i64 (j : Int)))
                  clear hX4
                  go_roundw
                  case rel => exact ⟨j + 1, ⟨x.o, x.t, k, j⟩, by omega, by go_num, HS4, HX4, Lib.hid ⟨HMr.out.1, HMr.out.2.1, ⟨by show (0 : Int) ≤ k; omega, by show (k : Int) < n2; omega⟩, by show (0 : Int) ≤ j; omega, by show (j : Int) < n2; omega⟩⟩
                  case measure => simp [intOf]; omega
              · obtain rfl : j = k := by omega
                go_wp2_with fail
                go_roundw
                case rel => exact ⟨j + 1, x, by omega, by go_num, HSr, HXr, HMr⟩
                case measure => simp [intOf]; omega
          · have HSf := HSo
            have HXf := HXo
            have HMf := HMr
            have v0 := HXf.out.cellAt (i := 0) (by simp)
            have v1 := HXf.out.cellAt (i := 1) (by simp)
            have v2 := HXf.out.cellAt (i := 2) (by simp)
            have v3 := HXf.out.cellAt (i := 3) (by simp)
            simp at v0 v1 v2 v3
            have u0 := HSf.out.rb.cellAt (i := 0) (by simp)
            have u1 := HSf.out.rb.cellAt (i := 1) (by simp)
            have u2 := HSf.out.rb.cellAt (i := 2) (by simp)
            have u3 := HSf.out.rb.cellAt (i := 3) (by simp)
            simp at u0 u1 u2 u3
            have uf := HSf.out.rb.free
            have ul := HSf.out.rb.lt
            go_wp2_with fail
            have F := HSf.out
            have FB := (((F.rb.set 0 (.int .i64 x.o)).set 1 (.int .i64 x.t)).set 2 (.int .i64 x.f)).set 3 (.int .i64 x.s)
            have lpw : p < w.heap.size + 1 := by omega
            have FC := cur_far (o := 3) (cur_far (o := 2) (cur_far (o := 1) (cur_far (o := 0) F.cu lpw (.int .i64 x.o)) lpw (.int .i64 x.t)) lpw (.int .i64 x.f)) lpw (.int .i64 x.s)
            have lq : w.heap.size ≤ w.heap.size + 1 := Nat.le_succ _
            have FG := grown_fresh (o := 3) (grown_fresh (o := 2) (grown_fresh (o := 1) (grown_fresh (o := 0) F.g lq (.int .i64 x.o)) lq (.int .i64 x.t)) lq (.int .i64 x.f)) lq (.int .i64 x.s)
            simp only [List.setIfInBounds_toArray, List.set_cons_succ, List.set_cons_zero] at FB
            have z0 := FB.cellAt (i := 0) (by simp)
            have z1 := FB.cellAt (i := 1) (by simp)
            have z2 := FB.cellAt (i := 2) (by simp)
            have z3 := FB.cellAt (i := 3) (by simp)
            simp only [List.getElem_toArray, List.getElem_cons_zero, List.getElem_cons_succ] at z0 z1 z2 z3
            refine bodyPost_ret (v := .agg #[.int .i64 x.o, .int .i64 x.t, .int .i64 x.f, .int .i64 x.s]) (by simp [results, Tryz.results104, go_sem, z0, z1, z2, z3]) rfl ?_
            exact ⟨x, rfl, HMf.out, FC, FG⟩
        · obtain rfl : k = n2 := by omega
          have HSf := HSr
          have HXf := HXr
          have HMf := HMr
          have v0 := HXf.out.cellAt (i := 0) (by simp)
          have v1 := HXf.out.cellAt (i := 1) (by simp)
          have v2 := HXf.out.cellAt (i := 2) (by simp)
          have v3 := HXf.out.cellAt (i := 3) (by simp)
          simp at v0 v1 v2 v3
          have u0 := HSf.out.rb.cellAt (i := 0) (by simp)
          have u1 := HSf.out.rb.cellAt (i := 1) (by simp)
          have u2 := HSf.out.rb.cellAt (i := 2) (by simp)
          have u3 := HSf.out.rb.cellAt (i := 3) (by simp)
          simp at u0 u1 u2 u3
          have uf := HSf.out.rb.free
          have ul := HSf.out.rb.lt
          go_wp2_with fail
          have F := HSf.out
          have FB := (((F.rb.set 0 (.int .i64 x.o)).set 1 (.int .i64 x.t)).set 2 (.int .i64 x.f)).set 3 (.int .i64 x.s)
          have lpw : p < w.heap.size + 1 := by omega
          have FC := cur_far (o := 3) (cur_far (o := 2) (cur_far (o := 1) (cur_far (o := 0) F.cu lpw (.int .i64 x.o)) lpw (.int .i64 x.t)) lpw (.int .i64 x.f)) lpw (.int .i64 x.s)
          have lq : w.heap.size ≤ w.heap.size + 1 := Nat.le_succ _
          have FG := grown_fresh (o := 3) (grown_fresh (o := 2) (grown_fresh (o := 1) (grown_fresh (o := 0) F.g lq (.int .i64 x.o)) lq (.int .i64 x.t)) lq (.int .i64 x.f)) lq (.int .i64 x.s)
          simp only [List.setIfInBounds_toArray, List.set_cons_succ, List.set_cons_zero] at FB
          have z0 := FB.cellAt (i := 0) (by simp)
          have z1 := FB.cellAt (i := 1) (by simp)
          have z2 := FB.cellAt (i := 2) (by simp)
          have z3 := FB.cellAt (i := 3) (by simp)
          simp only [List.getElem_toArray, List.getElem_cons_zero, List.getElem_cons_succ] at z0 z1 z2 z3
          refine bodyPost_ret (v := .agg #[.int .i64 x.o, .int .i64 x.t, .int .i64 x.f, .int .i64 x.s]) (by simp [results, Tryz.results104, go_sem, z0, z1, z2, z3]) rfl ?_
          exact ⟨x, rfl, HMf.out, FC, FG⟩
    · go_wp2_with (go_at_call 71; refine (fun h : Hid _ => h.out) ?_)
      unfold Hid
      refine (spec_l01Below p _ _ HS7.out.cu).mono ?_
      rintro e w8 ⟨rd, rfl, d0, d1, hc8, hg8⟩
      obtain ⟨rn, rfl⟩ := Int.eq_ofNat_of_zero_le d0
      have hrn : rn < nd := by omega
      have HS8 := Lib.hid (HS7.out.draw hc8 hg8)
      have HX8 := Lib.hid (blk_grown HX7.out hgp hg8)
      have HO8 := Lib.hid (own_grown HO7.out (Nat.lt_succ_self p) hg8)
      clear hc8 hg8 HS7 HX7 HO7 d1
      obtain ⟨bd, od, nt, hAd, -, hnt, p8⟩ := ienc_at (Rd.of_own HO8.out) hrn
      subst hAd
      have hntb := HDM.out nt (List.mem_of_getElem? hnt)
      have e0 : (0 : Int) ≤ (rn : Int) := by omega
      have e1 : (rn : Int) < (nd : Int) := by omega
      have v1 := HX8.out.cellAt (i := 1) (by simp)
      simp at v1
      have vf := HX8.out.free
      have vl := HX8.out.lt
      go_wp2_with fail
      have hX9 := HX8.out.set 1 (.int .i64 nt)
      simp only [List.setIfInBounds_toArray, List.set_cons_succ, List.set_cons_zero] at hX9
      have HX9 := Lib.hid hX9
      have HS9 := Lib.hid (HS8.out.put hgw 1 (.int .i64 nt))
      have HM9 : Hid (MvIn H n1 n2 ⟨ob, nt, rf, rs⟩) := Lib.hid ⟨HM5.out.1, hntb, HM5.out.2.2.1, HM5.out.2.2.2⟩
      clear hX9 v1 vf vl p8
      have hg0 : (0 : Int) ≤ (ob : Int) := by omega
      go_loopw [12] (fun iv wr => ∃ (k : Nat) (x : GMove), k ≤ n2 ∧ iv = .int .i64 k ∧ Hid (LSt w p H A n c ds (some ⟨bp, op, none⟩) n1 ps A2 n2 gs wr) ∧ Hid (Blk wr gm 46 #[.int .i64 x.o, .int .i64 x.t, .int .i64 x.f, .int .i64 x.s]) ∧ Hid (MvIn H n1 n2 x)) (fun iv _ => n2 - (intOf iv).toNat)
      case atStart => exact ⟨0, _, Nat.zero_le _, rfl, HS9, HX9, HM9⟩
      case round =>
        obtain ⟨k, x, hk, rfl, HSr, HXr, HMr⟩ := hrel
        by_cases hlt : k < n2
        · go_wp2_with (go_at_call 85; refine (fun h : Hid _ => h.out) ?_)
          unfold Hid
          refine (spec_l01Once p _ _ HSr.out.cu).mono ?_
          rintro e wo ⟨bo, rfl, hco, hgo⟩
          have HSo := Lib.hid (HSr.out.draw hco hgo)
          have HXo := Lib.hid (blk_grown HXr.out hgp hgo)
          clear hco hgo
          cases bo
          · go_wp2_with fail
            go_loopw [13] (fun jv wr => ∃ (j : Nat) (x : GMove), j ≤ k ∧ jv = .int .i64 j ∧ Hid (LSt w p H A n c ds (some ⟨bp, op, none⟩) n1 ps A2 n2 gs wr) ∧ Hid (Blk wr gm 46 #[.int .i64 x.o, .int .i64 x.t, .int .i64 x.f, .int .i64 x.s]) ∧ Hid (MvIn H n1 n2 x)) (fun jv _ => k - (intOf jv).toNat)
            case atStart => exact ⟨0, x, Nat.zero_le _, rfl, HSo, HXo, HMr⟩
            case round =>
              obtain ⟨j, x, hj, rfl, HSr, HXr, HMr⟩ := hrel
              by_cases hlj : j < k
              · obtain ⟨bg, og, gi, hA2, -, -, p1⟩ := ienc_at HSr.out.r2 hlt
                subst hA2
                obtain ⟨gk, -, p2⟩ := ienc_at' HSr.out.r2 (show j < n2 by omega)
                obtain ⟨zz, -, p3⟩ := ienc_at' HSr.out.r1 hon
                have x1 := HXr.out.cellAt (i := 1) (by simp)
                simp at x1
                have y1 := cell_regrown p1
                have y2 := cell_regrown p2
                have y3 := cell_regrown p3
                have y4 := cell_regrown x1
                have k0 : (0 : Int) ≤ (k : Int) := by omega
                have k1 : (k : Int) < (n2 : Int) := by omega
                have j0 : (0 : Int) ≤ (j : Int) := by omega
                have j1 : (j : Int) < (n2 : Int) := by omega
                have cN1 := Lib.hid (fun W => spec_l35Near gi zz x.t W)
                have cN2 := Lib.hid (fun W => spec_l35Near gk zz x.t W)
                obtain ⟨B1, hB1⟩ : ∃ b, b = ((gi == zz) || (gi == x.t)) := ⟨_, rfl⟩
                obtain ⟨B2, hB2⟩ : ∃ b, b = ((gk == zz) || (gk == x.t)) := ⟨_, rfl⟩
                rw [← hB1] at cN1
                rw [← hB2] at cN2
                clear hB1 hB2
                cases B1
                · go_wp2_with fail
                  (refine wp_region_ext (by kernel_rfl) (by kernel_rfl) ?_; (repeat (go_big_quiet_step (first | (go_at_call 68; first | with_reducible exact Calls.rg0 (cN1.out _) | with_reducible exact Calls.rg0 (cN2.out _))))); refine wpQuiet_nil ?_)
                  intro w3 he3
                  have HS3 := Lib.hid (HSr.out.ext he3)
                  have HX3 := Lib.hid (HXr.out.keep he3)
                  clear he3 p1 p2 p3 x1 y1 y2 y3 y4
                  go_wp2_with fail
                  go_roundw
                  case rel => exact ⟨j + 1, x, by omega, by go_num, HS3, HX3, HMr⟩
                  case measure => simp [intOf]; omega
                cases B2
                · go_wp2_with fail
                  (refine wp_region_ext (by kernel_rfl) (by kernel_rfl) ?_; (repeat (go_big_quiet_step (first | (go_at_call 68; first | with_reducible exact Calls.rg0 (cN1.out _) | with_reducible exact Calls.rg0 (cN2.out _))))); refine wpQuiet_nil ?_)
                  intro w3 he3
                  have HS3 := Lib.hid (HSr.out.ext he3)
                  have HX3 := Lib.hid (HXr.out.keep he3)
                  clear he3 p1 p2 p3 x1 y1 y2 y3 y4
                  go_wp2_with fail
                  go_roundw
                  case rel => exact ⟨j + 1, x, by omega, by go_num, HS3, HX3, HMr⟩
                  case measure => simp [intOf]; omega
                · go_wp2_with fail
                  (refine wp_region_ext (by kernel_rfl) (by kernel_rfl) ?_; (repeat (go_big_quiet_step (first | (go_at_call 68; first | with_reducible exact Calls.rg0 (cN1.out _) | with_reducible exact Calls.rg0 (cN2.out _))))); refine wpQuiet_nil ?_)
                  intro w3 he3
                  have HS3 := Lib.hid (HSr.out.ext he3)
                  have HX3 := Lib.hid (HXr.out.keep he3)
                  have v0 := HX3.out.cellAt (i := 0) (by simp)
                  have v1 := HX3.out.cellAt (i := 1) (by simp)
                  have v2 := HX3.out.cellAt (i := 2) (by simp)
                  have v3 := HX3.out.cellAt (i := 3) (by simp)
                  simp at v0 v1 v2 v3
                  have vf := HX3.out.free
                  have vl := HX3.out.lt
                  clear he3 p1 p2 p3 x1 y1 y2 y3 y4
                  go_wp2_with fail
                  have hX4 := (HX3.out.set 2 (.int .i64 (k : Int))).set 3 (.int .i64 (j : Int))
                  simp only [List.setIfInBounds_toArray, List.set_cons_succ, List.set_cons_zero] at hX4
                  have HX4 := Lib.hid hX4
                  have HS4 := Lib.hid ((HS3.out.put hgw 2 (.int .i64 (k : Int))).put hgw 3 (.int .i64 (j : Int)))
                  clear hX4
                  go_roundw
                  case rel => exact ⟨j + 1, ⟨x.o, x.t, k, j⟩, by omega, by go_num, HS4, HX4, Lib.hid ⟨HMr.out.1, HMr.out.2.1, ⟨by show (0 : Int) ≤ k; omega, by show (k : Int) < n2; omega⟩, by show (0 : Int) ≤ j; omega, by show (j : Int) < n2; omega⟩⟩
                  case measure => simp [intOf]; omega
              · obtain rfl : j = k := by omega
                go_wp2_with fail
                go_roundw
                case rel => exact ⟨j + 1, x, by omega, by go_num, HSr, HXr, HMr⟩
                case measure => simp [intOf]; omega
          · have HSf := HSo
            have HXf := HXo
            have HMf := HMr
            have v0 := HXf.out.cellAt (i := 0) (by simp)
            have v1 := HXf.out.cellAt (i := 1) (by simp)
            have v2 := HXf.out.cellAt (i := 2) (by simp)
            have v3 := HXf.out.cellAt (i := 3) (by simp)
            simp at v0 v1 v2 v3
            have u0 := HSf.out.rb.cellAt (i := 0) (by simp)
            have u1 := HSf.out.rb.cellAt (i := 1) (by simp)
            have u2 := HSf.out.rb.cellAt (i := 2) (by simp)
            have u3 := HSf.out.rb.cellAt (i := 3) (by simp)
            simp at u0 u1 u2 u3
            have uf := HSf.out.rb.free
            have ul := HSf.out.rb.lt
            go_wp2_with fail
            have F := HSf.out
            have FB := (((F.rb.set 0 (.int .i64 x.o)).set 1 (.int .i64 x.t)).set 2 (.int .i64 x.f)).set 3 (.int .i64 x.s)
            have lpw : p < w.heap.size + 1 := by omega
            have FC := cur_far (o := 3) (cur_far (o := 2) (cur_far (o := 1) (cur_far (o := 0) F.cu lpw (.int .i64 x.o)) lpw (.int .i64 x.t)) lpw (.int .i64 x.f)) lpw (.int .i64 x.s)
            have lq : w.heap.size ≤ w.heap.size + 1 := Nat.le_succ _
            have FG := grown_fresh (o := 3) (grown_fresh (o := 2) (grown_fresh (o := 1) (grown_fresh (o := 0) F.g lq (.int .i64 x.o)) lq (.int .i64 x.t)) lq (.int .i64 x.f)) lq (.int .i64 x.s)
            simp only [List.setIfInBounds_toArray, List.set_cons_succ, List.set_cons_zero] at FB
            have z0 := FB.cellAt (i := 0) (by simp)
            have z1 := FB.cellAt (i := 1) (by simp)
            have z2 := FB.cellAt (i := 2) (by simp)
            have z3 := FB.cellAt (i := 3) (by simp)
            simp only [List.getElem_toArray, List.getElem_cons_zero, List.getElem_cons_succ] at z0 z1 z2 z3
            refine bodyPost_ret (v := .agg #[.int .i64 x.o, .int .i64 x.t, .int .i64 x.f, .int .i64 x.s]) (by simp [results, Tryz.results104, go_sem, z0, z1, z2, z3]) rfl ?_
            exact ⟨x, rfl, HMf.out, FC, FG⟩
        · obtain rfl : k = n2 := by omega
          have HSf := HSr
          have HXf := HXr
          have HMf := HMr
          have v0 := HXf.out.cellAt (i := 0) (by simp)
          have v1 := HXf.out.cellAt (i := 1) (by simp)
          have v2 := HXf.out.cellAt (i := 2) (by simp)
          have v3 := HXf.out.cellAt (i := 3) (by simp)
          simp at v0 v1 v2 v3
          have u0 := HSf.out.rb.cellAt (i := 0) (by simp)
          have u1 := HSf.out.rb.cellAt (i := 1) (by simp)
          have u2 := HSf.out.rb.cellAt (i := 2) (by simp)
          have u3 := HSf.out.rb.cellAt (i := 3) (by simp)
          simp at u0 u1 u2 u3
          have uf := HSf.out.rb.free
          have ul := HSf.out.rb.lt
          go_wp2_with fail
          have F := HSf.out
          have FB := (((F.rb.set 0 (.int .i64 x.o)).set 1 (.int .i64 x.t)).set 2 (.int .i64 x.f)).set 3 (.int .i64 x.s)
          have lpw : p < w.heap.size + 1 := by omega
          have FC := cur_far (o := 3) (cur_far (o := 2) (cur_far (o := 1) (cur_far (o := 0) F.cu lpw (.int .i64 x.o)) lpw (.int .i64 x.t)) lpw (.int .i64 x.f)) lpw (.int .i64 x.s)
          have lq : w.heap.size ≤ w.heap.size + 1 := Nat.le_succ _
          have FG := grown_fresh (o := 3) (grown_fresh (o := 2) (grown_fresh (o := 1) (grown_fresh (o := 0) F.g lq (.int .i64 x.o)) lq (.int .i64 x.t)) lq (.int .i64 x.f)) lq (.int .i64 x.s)
          simp only [List.setIfInBounds_toArray, List.set_cons_succ, List.set_cons_zero] at FB
          have z0 := FB.cellAt (i := 0) (by simp)
          have z1 := FB.cellAt (i := 1) (by simp)
          have z2 := FB.cellAt (i := 2) (by simp)
          have z3 := FB.cellAt (i := 3) (by simp)
          simp only [List.getElem_toArray, List.getElem_cons_zero, List.getElem_cons_succ] at z0 z1 z2 z3
          refine bodyPost_ret (v := .agg #[.int .i64 x.o, .int .i64 x.t, .int .i64 x.f, .int .i64 x.s]) (by simp [results, Tryz.results104, go_sem, z0, z1, z2, z3]) rfl ?_
          exact ⟨x, rfl, HMf.out, FC, FG⟩
end Go.Proofs.YtfmifllcbbfpoaaGreatDoor
/- Museums as a draw makes them; plain, no program; no condition but what stands at each theorem. -/
namespace Go.Proofs.YtfmifllcbbfpoaaGreatDoor
set_option linter.unusedSimpArgs false
set_option linter.unusedVariables false
open Go.RowKit Go.Sort
/-- A museum as a draw makes it: its record can be audited, it has an object and two guards, its day is early. -/
structure DMus (m : GMuseum) (D : Int) : Prop where
  au : Audited m
  np : 1 ≤ m.ps.length
  ng : 2 ≤ m.gs.length
  nd : m.d ≤ D
theorem days_same (m : GMuseum) (d : Int) : (daysM m d).H = m.H ∧ (daysM m d).ds = m.ds := by unfold daysM; split <;> exact ⟨rfl, rfl⟩
theorem guard_same (m : GMuseum) (g k : Int) : (guardM m g k).H = m.H ∧ (guardM m g k).ds = m.ds ∧ (guardM m g k).d = m.d := by unfold guardM; split <;> exact ⟨rfl, rfl, rfl⟩
theorem night_same (m : GMuseum) (x : GMove) : (nightM m x).H = m.H ∧ (nightM m x).ds = m.ds ∧ (nightM m x).d = m.d := by unfold nightM; split <;> exact ⟨rfl, rfl, rfl⟩
theorem DMus.mono {m : GMuseum} {D D' : Int} (h : DMus m D) (k : D ≤ D') : DMus m D' := ⟨h.au, h.np, h.ng, by have := h.nd; omega⟩
theorem DMus.days {m : GMuseum} {D : Int} (h : DMus m D) (d : Int) (h0 : 0 ≤ d) : DMus (daysM m d) (D + d) := by
  obtain ⟨-, -, h3, h4, -⟩ := daysM_lens m d
  refine ⟨audited_days h.au d, by rw [h3]; exact h.np, by rw [h4]; exact h.ng, ?_⟩
  have := h.nd
  unfold daysM
  split
  · show m.d + d ≤ D + d; omega
  · omega
theorem DMus.guard {m : GMuseum} {D : Int} (h : DMus m D) (g k : Int) : DMus (guardM m g k) D := by
  obtain ⟨-, -, h3, h4, -⟩ := guardM_lens m g k
  exact ⟨audited_guard h.au g k, by rw [h3]; exact h.np, by rw [h4]; exact h.ng, by rw [(guard_same m g k).2.2]; exact h.nd⟩
theorem DMus.night {m : GMuseum} {D : Int} (h : DMus m D) (x : GMove) : DMus (nightM m x) D := by
  obtain ⟨-, -, h3, h4, -⟩ := nightM_lens m x
  exact ⟨audited_night h.au x, by rw [h3]; exact h.np, by rw [h4]; exact h.ng, by rw [(night_same m x).2.2]; exact h.nd⟩
theorem placesB_parts {H : Int} {ds : List GDoor} {xs : List Int} (h : placesB H ds xs = true) : xs.length ≤ 6 ∧ houseB H ds = true ∧ ∀ x ∈ xs, 0 ≤ x ∧ x < H := by
  unfold placesB at h
  simp only [Bool.and_eq_true, decide_eq_true_eq] at h
  have h2 := h.2
  unfold hallsB at h2
  simp only [Bool.and_eq_true, List.all_eq_true] at h2
  exact ⟨h.1, h2.2, fun x hx => (hallB_iff h2.2).1 (h2.1 x hx)⟩
theorem museum_lens {m : GMuseum} (h : museumB m = true) : m.ds.length ≤ 12 ∧ m.fs.length ≤ 6 ∧ m.ps.length ≤ 6 ∧ m.gs.length ≤ 6 ∧ m.rs.length ≤ 30 := by
  have hH := houseB_spec (museumB_house h)
  rw [museumB_parts] at h
  obtain ⟨a1, a2, a3, a4, a5, a6, a7, a8⟩ := h
  exact ⟨hH.2.2.1, (placesB_parts a1).1, (placesB_parts a2).1, a4, sealed_len a7⟩
theorem museum_places {m : GMuseum} (h : museumB m = true) : ∀ x ∈ m.ps, 0 ≤ x ∧ x < m.H := by
  rw [museumB_parts] at h
  exact (placesB_parts h.2.1).2.2
theorem museum_guards {m : GMuseum} (h : museumB m = true) : ∀ x ∈ m.gs, 0 ≤ x ∧ x < m.H := by
  have hH := museumB_house h
  rw [museumB_parts] at h
  have h5 := h.2.2.2.2.1
  unfold hallsB at h5
  simp only [Bool.and_eq_true, List.all_eq_true] at h5
  exact fun x hx => (hallB_iff hH).1 (h5.1 x hx)
theorem fit_ok {w : World} {base : Nat} {v : MV} {m : GMuseum} (h : MOwn w base v m) (hm : museumB m = true) : MFit v := by
  obtain ⟨a1, a2, a3, a4, a5⟩ := h.rd.lens
  obtain ⟨b1, b2, b3, b4, b5⟩ := museum_lens hm
  exact MFit.of_own h (by omega) (by omega) (by omega) (by omega) (by omega)
theorem raw_ok {H : Int} {ds : List GDoor} {ps gs : List Int} (hB : houseB H ds = true) (hp : ps.length ≤ 6) (hg : gs.length ≤ 6) (h1 : ∀ x ∈ ps, 0 ≤ x ∧ x < H) (h2 : ∀ x ∈ gs, 0 ≤ x ∧ x < H) : museumB (rawM H ds ps gs) = true := by
  have k1 : placesB H ds ps = true := by
    unfold placesB hallsB
    simp only [Bool.and_eq_true, decide_eq_true_eq, List.all_eq_true]
    exact ⟨hp, fun x hx => (hallB_iff hB).2 (h1 x hx), hB⟩
  have k2 : hallsB H ds gs = true := by
    unfold hallsB
    simp only [Bool.and_eq_true, List.all_eq_true]
    exact ⟨fun x hx => (hallB_iff hB).2 (h2 x hx), hB⟩
  exact museumB_parts.2 ⟨k1, k1, rfl, hg, k2, by simp [rawM, inB], by rfl, fun e he => by cases he⟩
theorem new_ok {H : Int} {ds : List GDoor} {ps gs : List Int} (hB : houseB H ds = true) (hp : ps.length ≤ 6) (hg : gs.length ≤ 6) (h1 : ∀ x ∈ ps, 0 ≤ x ∧ x < H) (h2 : ∀ x ∈ gs, 0 ≤ x ∧ x < H) (hp1 : 1 ≤ ps.length) (hg2 : 2 ≤ gs.length) : DMus (newM H ds ps gs) 0 ∧ (newM H ds ps gs).H = H ∧ (newM H ds ps gs).ds = ds := by
  have hr := raw_ok hB hp hg h1 h2
  have ha := audited_new hr
  have he : newM H ds ps gs = rawM H ds ps gs := by unfold newM; rw [if_pos hr]
  rw [he] at ha ⊢
  exact ⟨⟨ha, hp1, hg2, Int.le_refl 0⟩, rfl, rfl⟩
end Go.Proofs.YtfmifllcbbfpoaaGreatDoor
