/- The walk of the law on loans; no condition. -/
import Derived.Test.YtlgmiifpdjalpaaSW2
import Derived.Test.YtlgmiifpdjalpaaS8
import Derived.Test.YtlgmiifpdjalpaaMV
import Derived.Test.YtlgmiifpdjalpaaKW
namespace Go.Proofs.Ytlgmiifpdjalpaa
set_option linter.unusedSimpArgs false
set_option linter.unusedVariables false
open Go.RowKit
theorem blk4 {w : World} {g : Nat} {t : TypeId} {a b c d : Value} (h : Blk w g t #[a, b, c, d]) : w.cell? ⟨g, 0, none⟩ = some a ∧ w.cell? ⟨g, 1, none⟩ = some b ∧ w.cell? ⟨g, 2, none⟩ = some c ∧ w.cell? ⟨g, 3, none⟩ = some d :=
  ⟨h.cellAt (i := 0) (by simp), h.cellAt (i := 1) (by simp), h.cellAt (i := 2) (by simp), h.cellAt (i := 3) (by simp)⟩
def LBox (w : World) (g : Nat) (l : GLoan) : Prop := Blk w g 25 #[.int .i64 l.l, .int .i64 l.lo, .int .i64 l.hi, .int .i64 l.g]
theorem LBox.keep {w w' : World} {g : Nat} {l : GLoan} (h : LBox w g l) (e : Ext w w') : LBox w' g l := Blk.keep h e
theorem LBox.cells {w : World} {g : Nat} {l : GLoan} (h : LBox w g l) : w.cell? ⟨g, 0, none⟩ = some (.int .i64 l.l) ∧ w.cell? ⟨g, 1, none⟩ = some (.int .i64 l.lo) ∧ w.cell? ⟨g, 2, none⟩ = some (.int .i64 l.hi) ∧ w.cell? ⟨g, 3, none⟩ = some (.int .i64 l.g) := blk4 h
theorem LBox.new (w : World) (l : GLoan) : LBox (w.alloc (.cells #[.int .i64 l.l, .int .i64 l.lo, .int .i64 l.hi, .int .i64 l.g] 25)) w.heap.size l := Blk.new _ _ _
theorem laws_hasB (A : Option Addr) (n c : Nat) (l : GLoan) (hs : List GClimate) (k : Nat) (x : GClimate) (w : World) (hx : Rd w 1 A n ((hallsFor l hs).flatMap ienc)) (hk : hs[k]? = some x) :
    Calls Try.prog 21 #[.slice A n c, .int .i64 k] w fun e w' => e = .returned (.bool (breach l x == 0)) ∧ Ext w w' := by
  rw [← hallsFor_has hk]
  exact laws_hasL A n c _ _ w hx
set_option maxRecDepth 100000 in
set_option maxHeartbeats 2000000 in
theorem law_FnLoans (A : Option Addr) (n c : Nat) (bs : List UInt8) (w : World) (hx : Rd w 1 A n (bs.flatMap bencU)) :
    Calls Try.prog 3 #[.slice A n c] w fun e w' => e = .returned (.bool true) ∧ Ext w w' := by
  by_cases hbig : 1048576 < n
  case pos =>
    go_enter Try.func3, Try.ntmps3
    go_wp2_with (refine (laws_big A n c _).mono ?_; rintro e w1 ⟨he, rfl⟩; rw [decide_eq_true hbig] at he; subst he)
    go_ret
    exact ⟨rfl, Ext.refl _⟩
  case neg =>
  have hxb := rd_bytes hx
  have hbd := bytes_bd bs
  obtain ⟨xs, hxs⟩ : ∃ xs, xs = bs.map fun b => (b.toNat : Int) := ⟨_, rfl⟩
  rw [← hxs] at hxb hbd
  clear hxs hx
  have cD := Lib.hid (spec_DrawLoans A n c xs w hxb hbd (by omega))
  clear hxb hbd
  go_enter Try.func3, Try.ntmps3
  go_wp2_with (go_at_call 17; refine (fun h : Hid _ => h.out) ?_)
  unfold Hid
  refine (laws_big A n c _).mono ?_
  rintro e w0 ⟨he, rfl⟩
  rw [decide_eq_false hbig] at he
  subst he
  go_wp2_with (go_at_call 18; refine (fun h : Hid _ => h.out) ?_)
  unfold Hid
  refine cD.out.mono ?_
  rintro e w1 ⟨a, b, v, hs, rfl, ha, hb, ho1, hl4, hl1, he1⟩
  obtain ⟨Ah, ch, rfl, hch⟩ := own_form ho1
  have RH := Lib.hid (Rd.of_own ho1)
  have HE1 := Lib.hid he1
  clear ho1 he1 cD
  go_wp2_with (go_at_call 19; refine (fun h : Hid _ => h.out) ?_)
  unfold Hid
  have B3 := Lib.hid ((LBox.new w1 a).keep ((Ext.refl _).alloc (.cells #[.int .i64 b.l, .int .i64 b.lo, .int .i64 b.hi, .int .i64 b.g] 25)))
  have B4 := LBox.new (w1.alloc (.cells #[.int .i64 a.l, .int .i64 a.lo, .int .i64 a.hi, .int .i64 a.g] 25)) b
  rw [heap_size_alloc] at B4
  have B4 := Lib.hid B4
  have HEs := Lib.hid (((Ext.refl w1).alloc (.cells #[.int .i64 a.l, .int .i64 a.lo, .int .i64 a.hi, .int .i64 a.g] 25)).alloc (.cells #[.int .i64 b.l, .int .i64 b.lo, .int .i64 b.hi, .int .i64 b.g] 25))
  obtain ⟨ws, hws⟩ : ∃ ws, ws = (w1.alloc (.cells #[.int .i64 a.l, .int .i64 a.lo, .int .i64 a.hi, .int .i64 a.g] 25)).alloc (.cells #[.int .i64 b.l, .int .i64 b.lo, .int .i64 b.hi, .int .i64 b.g] 25) := ⟨_, rfl⟩
  rw [← hws] at B3 B4 HEs ⊢
  clear hws
  refine (impl_JoinLoans a b _).mono ?_
  rintro e w2 ⟨r, hr, rfl, hb2⟩
  obtain ⟨w3, hw3⟩ : ∃ w3, w3 = w2.alloc (.cells #[.int .i64 r.l, .int .i64 r.lo, .int .i64 r.hi, .int .i64 r.g] 25) := ⟨_, rfl⟩
  have HE3 := Lib.hid (HEs.out.trans (hb2.alloc (.cells #[.int .i64 r.l, .int .i64 r.lo, .int .i64 r.hi, .int .i64 r.g] 25)))
  have B3 := Lib.hid (B3.out.keep (hb2.alloc (.cells #[.int .i64 r.l, .int .i64 r.lo, .int .i64 r.hi, .int .i64 r.g] 25)))
  have B4 := Lib.hid (B4.out.keep (hb2.alloc (.cells #[.int .i64 r.l, .int .i64 r.lo, .int .i64 r.hi, .int .i64 r.g] 25)))
  have B6 := Lib.hid (LBox.new w2 r)
  have HR := Lib.hid hr
  have hok : Hid (∀ c, (joinOk a b = true → (breach r c == 0) = ((breach a c == 0) && (breach b c == 0))) ∧ (joinOk a b = false → ((breach a c == 0) && (breach b c == 0)) = false)) := Lib.hid (by rw [hr]; exact fun c => loan_join ha hb c)
  have hsj : Hid (joinOk a b = true → strOk r a = true ∧ strOk r b = true) := Lib.hid (by rw [hr]; exact strict_join)
  have hst : Hid (strOk a b = true → ∀ c, (breach a c == 0) = true → (breach b c == 0) = true) := Lib.hid fun h c k => strict_fewer h c k
  have hsa : Hid (strOk a a = true) := Lib.hid (strict_self ha)
  have HLA := Lib.hid ha
  obtain ⟨x30, x31, x32, x33⟩ := B3.out.cells
  clear hr hb2 HEs ha hb
  have HW3 := Lib.hid hw3
  go_wp2_with (go_at_call 20; refine (fun h : Hid _ => h.out) ?_)
  unfold Hid
  rw [← HW3.out] at HE3 B3 B4 B6 ⊢
  clear hw3
  refine (impl_HallsFor a Ah hs.length ch hs w3 (RH.out.keep HE3.out) (by omega)).mono ?_
  rintro e w4 ⟨v4, rfl, hb4, ho4⟩
  obtain ⟨A4, c4, rfl, hc4⟩ := own_form ho4
  have RX := Lib.hid (Rd.of_own ho4)
  have HE4 := Lib.hid (HE3.out.trans hb4)
  have B3 := Lib.hid (B3.out.keep hb4)
  have B4 := Lib.hid (B4.out.keep hb4)
  have B6 := Lib.hid (B6.out.keep hb4)
  clear x30 x31 x32 x33
  obtain ⟨x40, x41, x42, x43⟩ := B4.out.cells
  clear hb4 ho4
  go_wp2_with (go_at_call 20; refine (fun h : Hid _ => h.out) ?_)
  unfold Hid
  refine (impl_HallsFor b Ah hs.length ch hs w4 (RH.out.keep HE4.out) (by omega)).mono ?_
  rintro e w5 ⟨v5, rfl, hb5, ho5⟩
  obtain ⟨A5, c5, rfl, hc5⟩ := own_form ho5
  have RY := Lib.hid (Rd.of_own ho5)
  have RX := Lib.hid (RX.out.keep hb5)
  have HE5 := Lib.hid (HE4.out.trans hb5)
  have B3 := Lib.hid (B3.out.keep hb5)
  have B4 := Lib.hid (B4.out.keep hb5)
  have B6 := Lib.hid (B6.out.keep hb5)
  clear x40 x41 x42 x43
  obtain ⟨x60, x61, x62, x63⟩ := B6.out.cells
  clear hb5 ho5
  go_wp2_with (go_at_call 20; refine (fun h : Hid _ => h.out) ?_)
  unfold Hid
  refine (impl_HallsFor r Ah hs.length ch hs w5 (RH.out.keep HE5.out) (by omega)).mono ?_
  rintro e w6 ⟨v6, rfl, hb6, ho6⟩
  obtain ⟨A6, c6, rfl, hc6⟩ := own_form ho6
  have RZ := Lib.hid (Rd.of_own ho6)
  have RX := Lib.hid (RX.out.keep hb6)
  have RY := Lib.hid (RY.out.keep hb6)
  have HE6 := Lib.hid (HE5.out.trans hb6)
  have B3 := Lib.hid (B3.out.keep hb6)
  have B4 := Lib.hid (B4.out.keep hb6)
  have B6 := Lib.hid (B6.out.keep hb6)
  clear x60 x61 x62 x63 hb6 ho6
  have R6 := Lib.hid (RH.out.keep HE6.out)
  have hxl : (hallsFor a hs).length ≤ 4 := by have := hallStep_len a hs ([], 0); unfold hallsFor; simp at this; omega
  have hyl : (hallsFor b hs).length ≤ 4 := by have := hallStep_len b hs ([], 0); unfold hallsFor; simp at this; omega
  have hzl : (hallsFor r hs).length ≤ 4 := by have := hallStep_len r hs ([], 0); unfold hallsFor; simp at this; omega
  obtain ⟨nx, hnx⟩ : ∃ nx, nx = (hallsFor a hs).length := ⟨_, rfl⟩
  obtain ⟨ny, hny⟩ : ∃ ny, ny = (hallsFor b hs).length := ⟨_, rfl⟩
  obtain ⟨nz, hnz⟩ : ∃ nz, nz = (hallsFor r hs).length := ⟨_, rfl⟩
  rw [← hnx] at RX hc4 hxl ⊢
  rw [← hny] at RY hc5 hyl ⊢
  rw [← hnz] at RZ hc6 hzl ⊢
  clear hnx hny hnz
  have cX := Lib.hid (fun W k c (e : Ext w6 W) (h : hs[k]? = some c) => laws_hasB A4 nx c4 a hs k c W (RX.out.keep e) h)
  have cY := Lib.hid (fun W k c (e : Ext w6 W) (h : hs[k]? = some c) => laws_hasB A5 ny c5 b hs k c W (RY.out.keep e) h)
  have cZ := Lib.hid (fun W k c (e : Ext w6 W) (h : hs[k]? = some c) => laws_hasB A6 nz c6 r hs k c W (RZ.out.keep e) h)
  clear RX RY RZ
  go_wp2_with fail
  obtain ⟨wq, rfl⟩ : ∃ wq, wq = w6 := ⟨_, rfl⟩
  go_loopw [11, 12] (fun kv bv wr => ∃ (k : Nat), k ≤ hs.length ∧ kv = .int .i64 k ∧ Hid (Ext wq wr)) (fun kv _ _ => hs.length - (intOf kv).toNat)
  case atStart => exact ⟨0, Nat.zero_le _, rfl, Lib.hid (Ext.refl _)⟩
  case round =>
    obtain ⟨k, hk, rfl, hb⟩ := hrel
    obtain ⟨ok, hoke⟩ : ∃ ok, ok = joinOk a b := ⟨_, rfl⟩
    rw [← hoke] at hok hsj ⊢
    clear hoke
    by_cases hlt : k < hs.length
    · obtain ⟨g, off, x, hAe, hbs, hxk, q0, q1, q2⟩ := GClimate.at_ (R6.out.keep hb.out) hlt
      subst hAe
      have hlti : (k : Int) < hs.length := by omega
      have cX1 := Lib.hid (fun W (e : Ext wr W) => cX.out W k x (hb.out.trans e) hxk)
      have cY1 := Lib.hid (fun W (e : Ext wr W) => cY.out W k x (hb.out.trans e) hxk)
      have cZ1 := Lib.hid (fun W (e : Ext wr W) => cZ.out W k x (hb.out.trans e) hxk)
      have cB1 := Lib.hid (fun W => impl_Breaches a x W)
      have cS1 := Lib.hid (fun W => impl_Stricter a b W)
      obtain ⟨bx, hbx⟩ : ∃ bx, bx = breach a x := ⟨_, rfl⟩
      obtain ⟨p, hp⟩ : ∃ p, p = (breach a x == 0) := ⟨_, rfl⟩
      obtain ⟨q, hq⟩ : ∃ q, q = (breach b x == 0) := ⟨_, rfl⟩
      obtain ⟨s, hs1⟩ : ∃ s, s = (breach r x == 0) := ⟨_, rfl⟩
      obtain ⟨st, hst1⟩ : ∃ st, st = strOk a b := ⟨_, rfl⟩
      have f12 := hok.out x
      have f3 := hst.out
      have f3 := fun h => f3 h x
      rw [← hp] at cX1 f12 f3
      rw [← hq] at cY1 f12 f3
      rw [← hs1] at cZ1 f12
      rw [← hst1] at cS1 f3
      rw [← hbx] at cB1 hp
      obtain ⟨f1, f2⟩ := f12
      have B3 := Lib.hid (B3.out.keep hb.out)
      have B4 := Lib.hid (B4.out.keep hb.out)
      have hpb : (bx == 0) = p := hp.symm
      clear hp hq hs1 hst1 hbx hxk
      have HB := Lib.hid hb.out
      clear hb
      cases p
      case false =>
        go_wp2_with (go_at_call 21; refine (fun h : Hid _ => h.out) ?_)
        unfold Hid
        refine (cX1.out _ (Ext.refl _)).mono ?_
        rintro e w7 ⟨rfl, hb7⟩
        have cX2 := Lib.hid (fun W (e : Ext w7 W) => cX1.out W (hb7.trans e))
        have cY2 := Lib.hid (fun W (e : Ext w7 W) => cY1.out W (hb7.trans e))
        have cZ2 := Lib.hid (fun W (e : Ext w7 W) => cZ1.out W (hb7.trans e))
        obtain ⟨x30, x31, x32, x33⟩ := (B3.out.keep hb7).cells
        obtain ⟨x40, x41, x42, x43⟩ := (B4.out.keep hb7).cells
        have y0 := (hb7.cellAt g hbs _).trans q0
        have y1 := (hb7.cellAt g hbs _).trans q1
        have y2 := (hb7.cellAt g hbs _).trans q2
        have HB7 := Lib.hid (HB.out.trans hb7)
        replace x30 := cell_regrown x30
        replace x31 := cell_regrown x31
        replace x32 := cell_regrown x32
        replace x33 := cell_regrown x33
        replace x40 := cell_regrown x40
        replace x41 := cell_regrown x41
        replace x42 := cell_regrown x42
        replace x43 := cell_regrown x43
        replace y0 := cell_regrown y0
        replace y1 := cell_regrown y1
        replace y2 := cell_regrown y2
        clear q0 q1 q2 hb7 cX1 cY1 cZ1
        cases ok <;> cases q <;> cases st
        all_goals (try (exfalso; simp at f2; done))
        all_goals (try (exfalso; simp at f3; done))
        all_goals (try (have f1e := f1 rfl; simp only [Bool.and_self, Bool.and_true, Bool.and_false, Bool.true_and, Bool.false_and] at f1e; subst f1e))
        all_goals clear f1 f2 f3
        all_goals go_wp2_with fail
        all_goals (refine wp_region_ext (by kernel_rfl) (by kernel_rfl) ?_; (repeat (go_big_quiet_step (first | (go_at_call 21; with_reducible exact Calls.rg (cX2.out _ (ext_rg _ _ _))) | (go_at_call 21; with_reducible exact Calls.rg (cY2.out _ (ext_rg _ _ _))) | (go_at_call 21; with_reducible exact Calls.rg (cZ2.out _ (ext_rg _ _ _))) | (go_at_call 22; with_reducible exact Calls.rg (cB1.out _)) | (go_at_call 23; with_reducible exact Calls.rg (cS1.out _))))); refine wpQuiet_nil ?_)
        all_goals intro w10 hb10
        all_goals have HB10 := Lib.hid (HB7.out.trans hb10)
        all_goals clear hb10 x30 x31 x32 x33 x40 x41 x42 x43 y0 y1 y2
        all_goals go_wp2_with fail
        all_goals go_roundw
        all_goals try exact ⟨k + 1, by omega, by go_num, HB10⟩
        all_goals (simp [intOf]; omega)
      case true =>
        go_wp2_with (go_at_call 21; refine (fun h : Hid _ => h.out) ?_)
        unfold Hid
        refine (cX1.out _ (Ext.refl _)).mono ?_
        rintro e w8 ⟨rfl, hb8⟩
        go_wp2_with (go_at_call 21; refine (fun h : Hid _ => h.out) ?_)
        unfold Hid
        refine (cY1.out _ hb8).mono ?_
        rintro e w7 ⟨rfl, hb7⟩
        replace hb7 := hb8.trans hb7
        clear hb8
        have cX2 := Lib.hid (fun W (e : Ext w7 W) => cX1.out W (hb7.trans e))
        have cY2 := Lib.hid (fun W (e : Ext w7 W) => cY1.out W (hb7.trans e))
        have cZ2 := Lib.hid (fun W (e : Ext w7 W) => cZ1.out W (hb7.trans e))
        obtain ⟨x30, x31, x32, x33⟩ := (B3.out.keep hb7).cells
        obtain ⟨x40, x41, x42, x43⟩ := (B4.out.keep hb7).cells
        have y0 := (hb7.cellAt g hbs _).trans q0
        have y1 := (hb7.cellAt g hbs _).trans q1
        have y2 := (hb7.cellAt g hbs _).trans q2
        have HB7 := Lib.hid (HB.out.trans hb7)
        replace x30 := cell_regrown x30
        replace x31 := cell_regrown x31
        replace x32 := cell_regrown x32
        replace x33 := cell_regrown x33
        replace x40 := cell_regrown x40
        replace x41 := cell_regrown x41
        replace x42 := cell_regrown x42
        replace x43 := cell_regrown x43
        replace y0 := cell_regrown y0
        replace y1 := cell_regrown y1
        replace y2 := cell_regrown y2
        clear q0 q1 q2 hb7 cX1 cY1 cZ1
        cases ok <;> cases q <;> cases st
        all_goals (try (exfalso; simp at f2; done))
        all_goals (try (exfalso; simp at f3; done))
        all_goals (try (have f1e := f1 rfl; simp only [Bool.and_self, Bool.and_true, Bool.and_false, Bool.true_and, Bool.false_and] at f1e; subst f1e))
        all_goals clear f1 f2 f3
        all_goals go_wp2_with fail
        all_goals (refine wp_region_ext (by kernel_rfl) (by kernel_rfl) ?_; (repeat (go_big_quiet_step (first | (go_at_call 21; with_reducible exact Calls.rg (cX2.out _ (ext_rg _ _ _))) | (go_at_call 21; with_reducible exact Calls.rg (cY2.out _ (ext_rg _ _ _))) | (go_at_call 21; with_reducible exact Calls.rg (cZ2.out _ (ext_rg _ _ _))) | (go_at_call 22; with_reducible exact Calls.rg (cB1.out _)) | (go_at_call 23; with_reducible exact Calls.rg (cS1.out _))))); refine wpQuiet_nil ?_)
        all_goals intro w10 hb10
        all_goals have HB10 := Lib.hid (HB7.out.trans hb10)
        all_goals clear hb10 x30 x31 x32 x33 x40 x41 x42 x43 y0 y1 y2
        all_goals go_wp2_with fail
        all_goals go_roundw
        all_goals try exact ⟨k + 1, by omega, by go_num, HB10⟩
        all_goals (simp [intOf]; omega)
    · obtain rfl : k = hs.length := by omega
      have HB := Lib.hid hb.out
      have HW := Lib.hid (HE1.out.trans (HE6.out.trans hb.out))
      obtain ⟨x30, x31, x32, x33⟩ := (B3.out.keep hb.out).cells
      have hsj2 := hsj.out
      have cL := Lib.hid (fun W => impl_LoanOk a W)
      have cA := Lib.hid (fun W => impl_Stricter a a W)
      have cJA := Lib.hid (fun W => impl_Stricter r a W)
      have cJB := Lib.hid (fun W => impl_Stricter r b W)
      rw [HLA.out] at cL
      rw [hsa.out] at cA
      clear hb
      cases ok
      case false =>
        clear hsj2
        go_wp2_with (go_at_call 24; refine (fun h : Hid _ => h.out) ?_)
        unfold Hid
        refine (cL.out _).mono ?_
        rintro e w7 ⟨rfl, hb7⟩
        have HB7 := Lib.hid hb7
        clear x30 x31 x32 x33
        obtain ⟨x30, x31, x32, x33⟩ := (B3.out.keep (HB.out.trans hb7)).cells
        clear hb7
        go_wp2_with (go_at_call 23; refine (fun h : Hid _ => h.out) ?_)
        unfold Hid
        refine (cA.out _).mono ?_
        rintro e w8 ⟨rfl, hb8⟩
        have HB8 := Lib.hid hb8
        clear hb8
        go_wp2_with fail
        go_ret
        exact ⟨by rfl, HW.out.trans (HB7.out.trans HB8.out)⟩
      case true =>
        obtain ⟨s1, s2⟩ := hsj2 rfl
        rw [s1] at cJA
        rw [s2] at cJB
        clear hsj2 s1 s2
        go_wp2_with (go_at_call 24; refine (fun h : Hid _ => h.out) ?_)
        unfold Hid
        refine (cL.out _).mono ?_
        rintro e w7 ⟨rfl, hb7⟩
        have HB7 := Lib.hid hb7
        clear x30 x31 x32 x33
        obtain ⟨x30, x31, x32, x33⟩ := (B3.out.keep (HB.out.trans hb7)).cells
        clear hb7
        go_wp2_with (go_at_call 23; refine (fun h : Hid _ => h.out) ?_)
        unfold Hid
        refine (cA.out _).mono ?_
        rintro e w8 ⟨rfl, hb8⟩
        have HB8 := Lib.hid (HB7.out.trans hb8)
        clear hb8 x30 x31 x32 x33
        obtain ⟨x30, x31, x32, x33⟩ := (B3.out.keep (HB.out.trans HB8.out)).cells
        obtain ⟨x60, x61, x62, x63⟩ := (B6.out.keep (HB.out.trans HB8.out)).cells
        go_wp2_with (go_at_call 23; refine (fun h : Hid _ => h.out) ?_)
        unfold Hid
        refine (cJA.out _).mono ?_
        rintro e w9 ⟨rfl, hb9⟩
        have HB9 := Lib.hid (HB8.out.trans hb9)
        clear hb9 x30 x31 x32 x33 x60 x61 x62 x63
        obtain ⟨x40, x41, x42, x43⟩ := (B4.out.keep (HB.out.trans HB9.out)).cells
        obtain ⟨x60, x61, x62, x63⟩ := (B6.out.keep (HB.out.trans HB9.out)).cells
        go_wp2_with (go_at_call 23; refine (fun h : Hid _ => h.out) ?_)
        unfold Hid
        refine (cJB.out _).mono ?_
        rintro e w10 ⟨rfl, hb10⟩
        have HB10 := Lib.hid (HB9.out.trans hb10)
        clear hb10
        go_wp2_with fail
        go_ret
        exact ⟨by rfl, HW.out.trans HB10.out⟩
end Go.Proofs.Ytlgmiifpdjalpaa
