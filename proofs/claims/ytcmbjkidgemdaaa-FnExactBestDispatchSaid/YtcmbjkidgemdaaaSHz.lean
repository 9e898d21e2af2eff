/- Contract of dispatch; no condition but what stands at each theorem. -/
import Derived.Test.YtcmbjkidgemdaaaSHy
namespace Go.Proofs.Ytcmbjkidgemdaaa
set_option linter.unusedSimpArgs false
set_option linter.unusedVariables false
open Go.RowKit Go.Sort
def gN (xs : List Int) (g : Nat) : Nat := (xs.getD g 0).toNat
def dD (ds : List GDoor) (h : Nat) (gs hs : List Int) (g i : Nat) : Int := distB ds h (gN gs g) (gN hs i)
/-- A valid house, guards and halls in it. -/
structure DSet (h : Nat) (ds : List GDoor) (gs hs : List Int) : Prop where
  h1 : 1 ≤ h
  h7 : h ≤ 7
  l12 : ds.length ≤ 12
  tw : NoTwice ds
  re : ∀ k, k < h → reachB ds h 0 k = true
  gb : ∀ x ∈ gs, 0 ≤ x ∧ x < h
  hb : ∀ x ∈ hs, 0 ≤ x ∧ x < h
theorem gN_lt {h : Nat} (h1 : 1 ≤ h) {xs : List Int} (hb : ∀ x ∈ xs, 0 ≤ x ∧ x < h) (g : Nat) : gN xs g < h := by
  unfold gN
  rw [List.getD_eq_getElem?_getD]
  cases hg : xs[g]? with
  | none => simp; omega
  | some x => have := hb x (List.mem_of_getElem? hg); simp; omega
theorem gN_at {h : Nat} {xs : List Int} (hb : ∀ x ∈ xs, 0 ≤ x ∧ x < h) {g : Nat} {x : Int} (hx : xs[g]? = some x) : x = (gN xs g : Int) := by
  have := hb x (List.mem_of_getElem? hx)
  unfold gN
  rw [getD_of' hx]
  omega
theorem DSet.dist {h : Nat} {ds : List GDoor} {gs hs : List Int} (S : DSet h ds gs hs) (g i : Nat) : reachB ds h (gN gs g) (gN hs i) = true ∧ 0 ≤ dD ds h gs hs g i ∧ dD ds h gs hs g i ≤ 6 := by
  have ha := gN_lt S.h1 S.gb g
  have hk := gN_lt S.h1 S.hb i
  have hr := house_reach S.re ha hk
  have I := BInv.all ds ha
  have hf : 0 ≤ (bfsAll ds h (gN gs g)).f.getD (gN hs i) 0 := by simpa [reachB] using hr
  have h2 := I.dlt_ _ hk hf
  have h3 := I.qle
  have h4 := (dist_sym ds ha hk hr).2
  have h7 := S.h7
  refine ⟨hr, h4, ?_⟩
  unfold dD distB
  omega
theorem dispR_bd {D : Nat → Nat → Int} (hD : ∀ g i, 0 ≤ D g i ∧ D g i ≤ 6) (n : Nat) : ∀ (m : Nat) (b : List Int), 0 ≤ (dispR D n m b).2 ∧ (dispR D n m b).2 ≤ 6 * ((b.length : Int) + m)
  | 0, b => by
    have key : ∀ (b : List Int) (i : Nat), 0 ≤ costB D i b ∧ costB D i b ≤ 6 * (b.length : Int) := by
      intro b
      induction b with
      | nil => intro i; simp [costB]
      | cons x b ih =>
        intro i
        have h1 := ih (i + 1)
        have h2 := hD x.toNat i
        simp only [costB, List.length_cons]
        push_cast
        omega
    have := key b 0
    simp only [dispR]
    omega
  | m + 1, b => by
    have key : ∀ (l : List Nat) (st : List Int × Int), (0 ≤ st.2 ∧ st.2 ≤ 6 * ((b.length : Int) + (m + 1))) → 0 ≤ (l.foldl (dispS (fun k => dispR D n m (b ++ [(k : Int)])) b) st).2 ∧ (l.foldl (dispS (fun k => dispR D n m (b ++ [(k : Int)])) b) st).2 ≤ 6 * ((b.length : Int) + (m + 1)) := by
      intro l
      induction l with
      | nil => intro st h; exact h
      | cons k l ih =>
        intro st h
        rw [List.foldl_cons]
        refine ih _ ?_
        unfold dispS
        split
        · exact h
        · split
          · have := dispR_bd hD n m (b ++ [(k : Int)])
            simp only [List.length_append, List.length_cons, List.length_nil] at this
            push_cast at this
            dsimp only
            omega
          · exact h
    have := key (List.range n) ([], 0) (by constructor <;> simp <;> omega)
    simp only [dispR]
    push_cast
    exact this
def maskOf : List Int → Nat
  | [] => 0
  | x :: r => maskOf r ||| (1 <<< x.toNat)
theorem mask_ok : ∀ (b : List Int), (∀ x ∈ b, 0 ≤ x) → ∀ k : Nat, (maskOf b).testBit k = b.contains (k : Int)
  | [], _, k => by simp [maskOf]
  | x :: r, h, k => by
    have hx := h x (by simp)
    rw [maskOf, Nat.testBit_or, mask_ok r (fun y hy => h y (by simp [hy])) k, bit_one, List.contains_cons, Bool.or_comm]
    congr 1
    rw [Bool.eq_iff_iff]
    simp only [beq_iff_eq]
    omega
theorem disp_ne {D : Nat → Nat → Int} (hD : ∀ g i, 0 ≤ D g i ∧ D g i ≤ 6) {n m : Nat} {b : List Int} (hb : ∀ x ∈ b, 0 ≤ x) (hn : b.length + m ≤ n) (h : 0 < b.length + m) : (dispR D n m b).1 ≠ [] :=
  dispR_ne (fun g i => (hD g i).1) hn (mask_ok b hb) h
/-- A list and its cost. -/
def DispPost (r : List Int × Int) (w : World) (e : Ending) (w' : World) : Prop := ∃ v, e = .returned (.tuple #[v, .int .i64 r.2]) ∧ Ext w w' ∧ w'.ownsRow w.heap.size 3 1 v r.1.length (r.1.flatMap ienc)
theorem dispR_len {D : Nat → Nat → Int} {n : Nat} : ∀ (m : Nat) (b : List Int), (dispR D n m b).1.length ≤ b.length + m
  | 0, b => by simp [dispR]
  | m + 1, b => by
    have key : ∀ (l : List Nat) (st : List Int × Int), st.1.length ≤ b.length + (m + 1) → (l.foldl (dispS (fun k => dispR D n m (b ++ [(k : Int)])) b) st).1.length ≤ b.length + (m + 1) := by
      intro l
      induction l with
      | nil => intro st h; exact h
      | cons k l ih =>
        intro st h
        rw [List.foldl_cons]
        refine ih _ ?_
        unfold dispS
        split
        · exact h
        · split
          · have := dispR_len (D := D) (n := n) m (b ++ [(k : Int)])
            simp at this
            dsimp only
            omega
          · exact h
    exact key (List.range n) ([], 0) (by simp)
set_option maxRecDepth 100000 in
set_option maxHeartbeats 8000000 in
theorem impl_dispatch (h : Nat) (A : Option Addr) (n c : Nat) (ds : List GDoor) (A1 : Option Addr) (n1 c1 : Nat) (gs : List Int) (A2 : Option Addr) (n2 c2 : Nat) (hs : List Int) (S : Hid (DSet h ds gs hs)) (h5 : n1 ≤ 5) (h21 : n2 ≤ n1) :
    ∀ (m : Nat) (b : List Int) (A3 : Option Addr) (k3 c3 : Nat) (w : World), Rd w 2 A n (ds.flatMap GDoor.enc) → Rd w 1 A1 n1 (gs.flatMap ienc) → Rd w 1 A2 n2 (hs.flatMap ienc) → Rd w 1 A3 k3 (b.flatMap ienc) → Hid (∀ x ∈ b, 0 ≤ x ∧ x < n1) → k3 + m = n2 →
      Calls Try.prog 81 #[.agg #[.int .i64 h, .slice A n c], .slice A1 n1 c1, .slice A2 n2 c2, .slice A3 k3 c3] w (DispPost (dispR (dD ds h gs hs) n1 m b) w) := by
  have hD : Hid (∀ g i, 0 ≤ dD ds h gs hs g i ∧ dD ds h gs hs g i ≤ 6) := fun g i => (S.out.dist g i).2
  obtain ⟨g1, g7, -, -, -, -, -⟩ := S.out
  intro m
  induction m with
  | zero =>
    intro b A3 k3 c3 w hx hx1 hx2 hx3 hib hkm
    obtain rfl : k3 = n2 := by omega
    have hl := Lib.hid (hx.len GDoor.len (by omega))
    have hl3 := Lib.hid (hx3.len ienc_len (by omega))
    have hl1 := Lib.hid (hx1.len ienc_len (by omega))
    have hl2 := Lib.hid (hx2.len ienc_len (by omega))
    obtain ⟨wb, hwb⟩ : ∃ wb, wb = w.alloc (.cells #[.int .i64 (h : Int), .slice A n c] 29) := ⟨_, rfl⟩
    obtain ⟨hE, hsb, k0, k1⟩ := box2 w _ _ _ wb hwb
    have HE := Lib.hid hE
    have Hwb := Lib.hid hwb
    have Hk0 := Lib.hid k0
    have Hk1 := Lib.hid k1
    have hbl : w.heap.size < wb.heap.size := by omega
    have hxb := Lib.hid (hx.keep hE)
    have hxb1 := Lib.hid (hx1.keep hE)
    have hxb2 := Lib.hid (hx2.keep hE)
    have hxb3 := Lib.hid (hx3.keep hE)
    clear hE hwb k0 k1 hsb hx hx1 hx2 hx3
    go_enter Try.func81, Try.ntmps81
    go_wp2_with fail
    rw [← Hwb.out]
    go_loopw [11, 27] (fun s i wr => ∃ (k : Nat) (C : Int), k ≤ k3 ∧ i = .int .i64 k ∧ s = .int .i64 C ∧ 0 ≤ C ∧ C ≤ 6 * k ∧ Hid (costB (dD ds h gs hs) 0 b = C + costB (dD ds h gs hs) k (b.drop k)) ∧ Ext wb wr) (fun _ i _ => k3 - (intOf i).toNat)
    case atStart => exact ⟨0, 0, Nat.zero_le _, rfl, rfl, by omega, by omega, by unfold Hid; simp, Ext.refl _⟩
    case round =>
      obtain ⟨k, C, hk, rfl, rfl, hC0, hC6, hz, hb⟩ := hrel
      have HB := Lib.hid hb
      by_cases hlt : k < k3
      · obtain ⟨bb, off, x, rfl, hbs, hxk, p0⟩ := ienc_at (hxb3.out.keep hb) hlt
        have hxi := hib.out x (List.mem_of_getElem? hxk)
        obtain ⟨q, hq⟩ := Int.eq_ofNat_of_zero_le hxi.1
        subst hq
        have hq1 : q < n1 := by omega
        obtain ⟨b1, off1, g, rfl, hbs1, hgk, p1⟩ := ienc_at (hxb1.out.keep hb) hq1
        obtain ⟨b2, off2, t, rfl, hbs2, htk, p2⟩ := ienc_at (hxb2.out.keep hb) hlt
        rw [gN_at S.out.gb hgk] at p1
        rw [gN_at S.out.hb htk] at p2
        have hdi := S.out.dist q k
        have cD := Lib.hid (fun d os => impl_distance h A n c ds (gN gs q) (gN hs k) (grow (redrawn wr d) os) ((hxb.out.keep HB.out).keep (ext_rg wr d os)) S.out.tw g1 g7 (by rw [← hl.out]; exact S.out.l12) (gN_lt g1 S.out.gb q) (gN_lt g1 S.out.hb k) hdi.1 hdi.2)
        obtain ⟨z, hzz⟩ : ∃ z, z = dD ds h gs hs q k := ⟨_, rfl⟩
        have hz6 : 0 ≤ z ∧ z ≤ 6 := by rw [hzz]; exact hdi.2
        have HZ : Hid (costB (dD ds h gs hs) 0 b = C + z + costB (dD ds h gs hs) (k + 1) (b.drop (k + 1))) := by
          unfold Hid; rw [hz.out, drop_cons hxk, costB, Int.toNat_natCast, hzz]; omega
        have hzd : distB ds h (gN gs q) (gN hs k) = z := hzz.symm
        rw [hzd] at cD
        have ew : IntKind.i64.wrap (C + z) = C + z := IntWalk.i64_in _ (by omega)
        have k0 := (HB.out.cellAt w.heap.size hbl 0).trans Hk0.out
        have k1 := (HB.out.cellAt w.heap.size hbl 1).trans Hk1.out
        have y0 := cell_regrown k0
        have y1 := cell_regrown k1
        have y2 := cell_regrown p0
        have y3 := cell_regrown p1
        have y4 := cell_regrown p2
        have i0 : (0 : Int) ≤ (k : Int) := by omega
        have i1 : (k : Int) < (k3 : Int) := by omega
        have i2 : (0 : Int) ≤ (q : Int) := by omega
        have i3 : (q : Int) < (n1 : Int) := by omega
        clear hxk hgk htk hxi hb hzz hzd hdi
        go_wp2_with fail
        (refine wp_region_ext (by kernel_rfl) (by kernel_rfl) ?_; (repeat (go_big_quiet_step (first | (go_at_call 98; with_reducible exact Calls.rg (cD.out _ _))))); refine wpQuiet_nil ?_)
        intro w3 he3
        have HE3 := Lib.hid (HB.out.trans he3)
        clear he3 k0 k1 y0 y1 y2 y3 y4 p0 p1 p2 ew
        go_wp2_with fail
        go_roundw
        case rel => exact ⟨k + 1, C + z, by omega, by go_num, by first | rfl | (rw [IntWalk.wrap64_in _ ⟨by omega, by omega⟩]), by omega, by push_cast; omega, HZ, HE3.out⟩
        case measure => simp [intOf]; omega
      · obtain rfl : k = k3 := by omega
        have HCo : Hid (costB (dD ds h gs hs) 0 b = C) := by unfold Hid; rw [hz.out, drop_nil (by rw [hl3.out]; omega)]; simp [costB]
        have cC := Lib.hid (shelf_CloneI A3 k c3 b wr (hxb3.out.keep hb) (by omega))
        clear hb
        go_wp2_with fail
        refine cC.out.mono ?_
        rintro e w3 ⟨v3, rfl, he3, ho3⟩
        have HE3 := Lib.hid (HE.out.trans (HB.out.trans he3))
        have HO3 := Lib.hid (own_weak ho3 (HE.out.trans HB.out).size)
        clear he3 ho3
        go_wp2_with fail
        go_ret2
        exact ⟨v3, by simp only [dispR, HCo.out]; rfl, HE3.out, by simp only [dispR]; rw [hl3.out]; exact HO3.out⟩
  | succ m ih =>
    intro b A3 k3 c3 w hx hx1 hx2 hx3 hib hkm
    have IH := Lib.hid ih
    clear ih
    have hl3 := Lib.hid (hx3.len ienc_len (by omega))
    obtain ⟨wb, hwb⟩ : ∃ wb, wb = w.alloc (.cells #[.int .i64 (h : Int), .slice A n c] 29) := ⟨_, rfl⟩
    obtain ⟨hE, hsb, k0, k1⟩ := box2 w _ _ _ wb hwb
    have HE := Lib.hid hE
    have Hwb := Lib.hid hwb
    have Hk0 := Lib.hid k0
    have Hk1 := Lib.hid k1
    have hbl : w.heap.size < wb.heap.size := by omega
    have hxb := Lib.hid (hx.keep hE)
    have hxb1 := Lib.hid (hx1.keep hE)
    have hxb2 := Lib.hid (hx2.keep hE)
    have hxb3 := Lib.hid (hx3.keep hE)
    have hne : ((k3 : Int) == (n2 : Int)) = false := by rw [beq_eq_false_iff_ne]; omega
    clear hE hwb k0 k1 hsb hx hx1 hx2 hx3
    go_enter Try.func81, Try.ntmps81
    go_wp2_with fail
    rw [← Hwb.out]
    go_loopw [14, 15, 50] (fun o z i wr => ∃ (k : Nat) (L : List Int) (C : Int) (Ao : Option Addr) (co : Nat), k ≤ n1 ∧ i = .int .i64 k ∧ z = .int .i64 C ∧ o = .slice Ao L.length co ∧ wr.ownsRow w.heap.size 3 1 (.slice Ao L.length co) L.length (L.flatMap ienc) ∧ Hid (Ao.isNone = L.isEmpty) ∧ 0 ≤ C ∧ C ≤ 30 ∧ Hid (dispR (dD ds h gs hs) n1 (m + 1) b = (List.range' k (n1 - k)).foldl (dispS (fun k => dispR (dD ds h gs hs) n1 m (b ++ [(k : Int)])) b) (L, C)) ∧ Ext wb wr) (fun _ _ i _ => n1 - (intOf i).toNat)
    case atStart => exact ⟨0, [], 0, none, 0, Nat.zero_le _, rfl, rfl, rfl, World.ownsRow_nil _ _ _ _, rfl, by omega, by omega, by unfold Hid; rw [dispR, List.range_eq_range']; rfl, Ext.refl _⟩
    case round =>
      obtain ⟨k, L, C, Ao, co, hk, rfl, rfl, rfl, hown, hnil, hC0, hC6, hz, hb⟩ := hrel
      have HB := Lib.hid hb
      have hbs := hb.size
      have HO := Lib.hid hown
      by_cases hlt : k < n1
      · have hr' : Hid (List.range' k (n1 - k) = k :: List.range' (k + 1) (n1 - (k + 1))) := by
          unfold Hid
          have : n1 - k = (n1 - (k + 1)) + 1 := by omega
          rw [this, List.range'_succ]
        have cI := Lib.hid (shelf_ContainsI A3 k3 c3 b (k : Int) wr (hxb3.out.keep hb))
        clear hown hb
        cases hc : b.contains (k : Int)
        case true =>
          rw [hc] at cI
          have HF : Hid (dispR (dD ds h gs hs) n1 (m + 1) b = (List.range' (k + 1) (n1 - (k + 1))).foldl (dispS (fun k => dispR (dD ds h gs hs) n1 m (b ++ [(k : Int)])) b) (L, C)) := by
            unfold Hid; rw [hz.out, hr'.out, List.foldl_cons, dispS, hc]; rfl
          clear hc
          go_wp2_with fail
          refine cI.out.mono ?_
          rintro e w3 ⟨rfl, he3⟩
          have HE3 := Lib.hid (HB.out.trans he3)
          have HO3 := Lib.hid (own_keep HO.out he3)
          clear he3
          go_wp2_with fail
          go_roundw
          case rel => exact ⟨k + 1, L, C, Ao, co, by omega, by go_num, rfl, rfl, HO3.out, hnil, hC0, hC6, HF, HE3.out⟩
          case measure => simp [intOf]; omega
        case false =>
          rw [hc] at cI
          have HF : Hid (∀ t, (L.isEmpty || decide ((dispR (dD ds h gs hs) n1 m (b ++ [(k : Int)])).2 < C)) = t → dispR (dD ds h gs hs) n1 (m + 1) b = (List.range' (k + 1) (n1 - (k + 1))).foldl (dispS (fun k => dispR (dD ds h gs hs) n1 m (b ++ [(k : Int)])) b) (if t then dispR (dD ds h gs hs) n1 m (b ++ [(k : Int)]) else (L, C))) := by
            unfold Hid; intro t ht; rw [hz.out, hr'.out, List.foldl_cons, dispS, hc]; simp only [Bool.false_eq_true, if_false]; rw [ht]
          have hbk : Hid (∀ x ∈ b ++ [(k : Int)], 0 ≤ x ∧ x < n1) := by
            unfold Hid; intro x hx; rcases List.mem_append.1 hx with hx | hx; exact hib.out x hx; simp at hx; subst hx; omega
          have hlk : (b ++ [(k : Int)]).length = k3 + 1 := by have := hl3.out; simp; omega
          have hbd := dispR_bd hD.out n1 m (b ++ [(k : Int)])
          have hRne := disp_ne hD.out (n := n1) (m := m) (fun x hx => (hbk.out x hx).1) (by rw [hlk]; omega) (by rw [hlk]; omega)
          rw [hlk] at hbd
          have hap : b.flatMap ienc ++ [.int .i64 (k : Int)] = (b ++ [(k : Int)]).flatMap ienc := by rw [List.flatMap_append]; rfl
          have HAp := Lib.hid hap
          have cK : Hid (∀ w4 A4 c4, Ext wb w4 → Rd w4 1 A4 (k3 + 1) (b.flatMap ienc ++ [.int .i64 (k : Int)]) → Calls Try.prog 81 #[.agg #[.int .i64 h, .slice A n c], .slice A1 n1 c1, .slice A2 n2 c2, .slice A4 (k3 + 1) c4] w4 (DispPost (dispR (dD ds h gs hs) n1 m (b ++ [(k : Int)])) w4)) := by
            unfold Hid
            intro w4 A4 c4 he4 hr4
            rw [hap] at hr4
            exact IH.out (b ++ [(k : Int)]) A4 (k3 + 1) c4 w4 (hxb.out.keep he4) (hxb1.out.keep he4) (hxb2.out.keep he4) hr4 hbk (by omega)
          obtain ⟨R, hR⟩ : ∃ R, R = dispR (dD ds h gs hs) n1 m (b ++ [(k : Int)]) := ⟨_, rfl⟩
          rw [← hR] at HF cK hbd hRne
          obtain ⟨Rl, Rc⟩ := R
          have hRc : 0 ≤ Rc ∧ Rc ≤ 30 := by simp only at hbd; omega
          have HRne := Lib.hid hRne
          clear hc hap hR hbd hRne hlk
          go_wp2_with fail
          refine cI.out.mono ?_
          rintro e w2 ⟨rfl, he2⟩
          have HE2 := Lib.hid (HB.out.trans he2)
          have HO2 := Lib.hid (own_keep HO.out he2)
          have hs2 := HE2.out.size
          have k0 := (HE2.out.cellAt w.heap.size hbl 0).trans Hk0.out
          have k1 := (HE2.out.cellAt w.heap.size hbl 1).trans Hk1.out
          have cC := Lib.hid (fun w' (he : Ext w2 w') => shelf_CloneI A3 k3 c3 b w' (hxb3.out.keep (HE2.out.trans he)) (by omega))
          clear he2
          go_wp2_with fail
          go_region_held3 (fun w' => w'.cell? ⟨w.heap.size, 0, none⟩ = some (.int .i64 (h : Int)) ∧ w'.cell? ⟨w.heap.size, 1, none⟩ = some (.slice A n c)) (go_keep) (first
            | (go_at_call 99; refine (cC.out _ (by repeat (first | exact Ext.refl _ | refine Ext.alloc ?_ _ | refine Ext.drewN ?_ _))).mono ?_; rintro e w3 ⟨v3, rfl, he3, ho3⟩; have hx3 : Ext w2 w3 := Ext.trans (by repeat (first | exact Ext.refl _ | refine Ext.alloc ?_ _ | refine Ext.drewN ?_ _)) he3; have y0 := (hx3.cellAt w.heap.size (by omega) 0).trans k0; have y1 := (hx3.cellAt w.heap.size (by omega) 1).trans k1)
            | (refine step_app1 ei_I (by rfl) _ _ (by rfl) w2.heap.size (w3.alloc (.cells #[.int .i64 (k : Int)] 3)) v3 k3 _ (by rfl) ((own_weak ho3 (by simp)).alloc _) w3.heap.size (.int .i64 (k : Int)) (by rfl) (by rw [World.cell?_alloc_new]; rfl) rfl (by omega) (by have := hx3.size; simp; omega) ?_; intro g4 c4 w4 ho4 he4; have hx4 := he4 w2 (hx3.alloc _) (Nat.le_refl _); have z0 := (hx4.cellAt w.heap.size (by omega) 0).trans k0; have z1 := (hx4.cellAt w.heap.size (by omega) 1).trans k1)
            | (refine step_app1 ei_I (by rfl) _ _ (by rfl) w2.heap.size w3 v3 k3 _ (by rfl) (own_weak ho3 (by simp)) w2.heap.size (.int .i64 (k : Int)) (by rfl) ((he3.cellAt w2.heap.size (by simp) 0).trans (by first | (simp [World.cell?_alloc_at]; done) | (rw [World.cell?_alloc_new]; rfl))) rfl (by omega) hx3.size ?_; intro g4 c4 w4 ho4 he4; have hx4 := he4 w2 hx3 (Nat.le_refl _); have z0 := (hx4.cellAt w.heap.size (by omega) 0).trans k0; have z1 := (hx4.cellAt w.heap.size (by omega) 1).trans k1)
            | (go_at_call 81; refine (cK.out _ _ _ (HE2.out.trans hx4) (Rd.of_own ho4)).mono ?_; rintro e w5 ⟨v5, rfl, he5, ho5⟩; have hx5 : Ext w2 w5 := Ext.trans hx4 he5; have u0 := (hx5.cellAt w.heap.size (by omega) 0).trans k0; have u1 := (hx5.cellAt w.heap.size (by omega) 1).trans k1))
          all_goals
            have hn5 : Rl ≠ [] := HRne.out
            obtain ⟨g5, c5, rfl⟩ : ∃ g5 c5, v5 = .slice (some ⟨g5, 0, none⟩) Rl.length c5 := by
              obtain ⟨A5, c5, rfl, _⟩ := own_form ho5
              rcases own_block ho5 with ⟨_, h0, _⟩ | ⟨g5, cur, hA, _⟩
              · exact absurd (List.eq_nil_of_length_eq_zero h0) hn5
              · exact ⟨g5, c5, by rw [hA]⟩
            have HE5 := Lib.hid (HE2.out.trans hx5)
            have HO5 := Lib.hid (own_weak (base' := w.heap.size) ho5 (HE.out.trans (HE2.out.trans hx4)).size)
            have HOo := Lib.hid (own_keep HO2.out hx5)
            have hRe : Hid (Rl.isEmpty = false) := by
              unfold Hid; cases Rl with
              | nil => exact absurd rfl hn5
              | cons _ _ => rfl
            clear hn5 ho5 ho4 ho3 he5 he4 he3 hx5 hx4 hx3 k0 k1
            have hq := fun (w : World) => Lib.run_eql_slice_nil (P := Try.prog) w 33 3 Ao L.length co 0 0 Try.underlying33
            rw [hnil.out] at hq
            cases hLE : L.isEmpty
            case true =>
              rw [hLE] at hq HF
              have HT := Lib.hid (HF.out true rfl)
              clear hLE
              go_wp2_with fail
              go_roundw
              case rel => exact ⟨k + 1, Rl, Rc, _, _, by omega, by go_num, rfl, rfl, HO5.out, by unfold Hid; rw [hRe.out]; rfl, hRc.1, hRc.2, HT.out, HE5.out⟩
              case measure => simp [intOf]; omega
            case false =>
              rw [hLE] at hq HF
              have HLE := Lib.hid hLE
              clear hLE
              by_cases hcmp : Rc < C
              · have HT := Lib.hid (HF.out true (by simp [hcmp]))
                go_wp2_with fail
                go_roundw
                case rel => exact ⟨k + 1, Rl, Rc, _, _, by omega, by go_num, rfl, rfl, HO5.out, by unfold Hid; rw [hRe.out]; rfl, hRc.1, hRc.2, HT.out, HE5.out⟩
                case measure => simp [intOf]; omega
              · have HT := Lib.hid (HF.out false (by simp; omega))
                go_wp2_with fail
                go_roundw
                case rel => exact ⟨k + 1, L, C, Ao, co, by omega, by go_num, rfl, rfl, HOo.out, by unfold Hid; rw [hnil.out], hC0, hC6, HT.out, HE5.out⟩
                case measure => simp [intOf]; omega
      · obtain rfl : k = n1 := by omega
        clear hb hown
        have hF : dispR (dD ds h gs hs) k (m + 1) b = (L, C) := by rw [hz.out, Nat.sub_self]; rfl
        have HF := Lib.hid hF
        clear hF
        go_wp2_with fail
        go_ret2
        exact ⟨_, by rw [HF.out]; rfl, HE.out.trans HB.out, by rw [HF.out]; exact HO.out⟩
end Go.Proofs.Ytcmbjkidgemdaaa
