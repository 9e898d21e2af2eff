/- Contracts of l31Best and of both BestDispatch; no condition but what stands at each theorem. -/
import Derived.Test.YtcmbjkidgemdaaaSHz
import Derived.Test.YtcmbjkidgemdaaaSHg
import Derived.Test.YtcmbjkidgemdaaaSHr
namespace Go.Proofs.Ytcmbjkidgemdaaa
set_option linter.unusedSimpArgs false
set_option linter.unusedVariables false
open Go.RowKit Go.Sort
theorem bestR_bd {D : Nat → Nat → Int} (hD : ∀ g i, 0 ≤ D g i ∧ D g i ≤ 6) (n : Nat) : ∀ (m i used : Nat), -1 ≤ (bestR D n m i used).2 ∧ (bestR D n m i used).2 ≤ 6 * (m : Int) ∧ (bestR D n m i used).1.length ≤ m
  | 0, i, used => by simp [bestR]
  | m + 1, i, used => by
    have key : ∀ (l : List Nat) (st : List Int × Int), (-1 ≤ st.2 ∧ st.2 ≤ 6 * ((m : Int) + 1) ∧ st.1.length ≤ m + 1) → -1 ≤ (l.foldl (bestS (fun k => bestR D n m (i + 1) (used ||| (1 <<< k))) (fun k => D k i) used) st).2 ∧ (l.foldl (bestS (fun k => bestR D n m (i + 1) (used ||| (1 <<< k))) (fun k => D k i) used) st).2 ≤ 6 * ((m : Int) + 1) ∧ (l.foldl (bestS (fun k => bestR D n m (i + 1) (used ||| (1 <<< k))) (fun k => D k i) used) st).1.length ≤ m + 1 := by
      intro l
      induction l with
      | nil => intro st h; exact h
      | cons k l ih =>
        intro st h
        rw [List.foldl_cons]
        refine ih _ ?_
        unfold bestS
        split
        · exact h
        · split
          · rename_i hc
            simp only [Bool.and_eq_true, decide_eq_true_eq] at hc
            have h1 := bestR_bd hD n m (i + 1) (used ||| (1 <<< k))
            have h2 := hD k i
            simp only [List.length_cons]
            omega
          · exact h
    have := key (List.range n) ([], -1) (by simp; omega)
    simp only [bestR]
    push_cast
    exact this
/-- The rest behind the first element. -/
theorem Rd.tail1 {P : Program} {t e : TypeId} {w : World} {A : Option Addr} {n c : Nat} {x : Int} {xs : List Int} (hu : P.underlying t = some (.slice e)) (hs : ∀ w : World, (sizeOf e).run P w = .ok 1 w) (h : Rd w 1 A (n + 1) ((x :: xs).flatMap ienc)) (hc : n + 1 ≤ c) (h63 : n + 1 ≤ 1048576) :
    ∃ A' c', (∀ w1 : World, (Instr.slice t (.slice A (n + 1) c) (some (.int .i64 1)) none none).run P w1 = .ok (.slice A' n c') w1) ∧ n ≤ c' ∧ Rd w 1 A' n (xs.flatMap ienc) := by
  obtain ⟨b, off, rfl, hb, hcell⟩ := h.2.2 (by omega)
  have hbd : ∀ (w1 : World) (code : BoundsCode), (Instr.sliceBound (.int .i64 1) (n + 1) code).run P w1 = .ok 1 w1 := by
    intro w1 code
    rw [run_sliceBound w1 .i64 1 (n + 1) code (by omega) (by omega)]
    rfl
  refine ⟨if c = 1 then some ⟨b, off, none⟩ else some ⟨b, off + 1, none⟩, c - 1, fun w1 => ?_, by omega, ?_⟩
  · simp only [Instr.slice, Sem.run_bind, run_underlying hu, Result.andThen, Instr.sliceBounds, hbd, hs, Sem.run_pure]
    by_cases h1 : c = 1
    · simp [h1]
    · simp [h1, add_none]
  · have hl : (x :: xs).length = n + 1 := h.len ienc_len (by omega)
    refine ⟨by rw [flat_len ienc 1 ienc_len]; simp at hl; omega, by omega, fun hn => ?_⟩
    rw [if_neg (by omega)]
    refine ⟨b, off + 1, rfl, hb, fun j u hu' => ?_⟩
    rw [show off + 1 + j = off + (j + 1) by omega]
    refine hcell (j + 1) u ?_
    rw [List.flatMap_cons]
    simpa [ienc] using hu'
set_option maxRecDepth 100000 in
set_option maxHeartbeats 8000000 in
theorem spec_l31Best (h : Nat) (A : Option Addr) (n c : Nat) (ds : List GDoor) (A1 : Option Addr) (n1 c1 : Nat) (gs hs : List Int) (S : Hid (DSet h ds gs hs)) (h5 : n1 ≤ 5) (h21 : hs.length ≤ n1) :
    ∀ (m i used : Nat) (A2 : Option Addr) (c2 : Nat) (w : World), Rd w 2 A n (ds.flatMap GDoor.enc) → Rd w 1 A1 n1 (gs.flatMap ienc) → Rd w 1 A2 m ((hs.drop i).flatMap ienc) → m ≤ c2 → i + m = hs.length → used < 128 →
      Calls Try.prog 79 #[.agg #[.int .i64 h, .slice A n c], .slice A1 n1 c1, .slice A2 m c2, .int .i64 used] w (DispPost (bestR (dD ds h gs hs) n1 m i used) w) := by
  have hD : Hid (∀ g i, 0 ≤ dD ds h gs hs g i ∧ dD ds h gs hs g i ≤ 6) := fun g i => (S.out.dist g i).2
  obtain ⟨g1, g7, -, -, -, -, -⟩ := S.out
  intro m
  induction m with
  | zero =>
    intro i used A2 c2 w hx hx1 hx2 hc2 him hus
    go_enter Try.func79, Try.ntmps79
    go_wp2_with fail
    go_ret2
    exact ⟨_, rfl, ((Ext.refl w).alloc _).alloc _, own_weak (base := w.heap.size + 1) (by have := own_empty (w.alloc (.cells #[.int .i64 (h : Int), .slice A n c] 29)) (w.heap.size + 1) 3 1 (by simp); simpa [bestR] using this) (by omega)⟩
  | succ m ih =>
    intro i used A2 c2 w hx hx1 hx2 hc2 him hus
    have IH := Lib.hid ih
    clear ih
    obtain ⟨t, ht⟩ : ∃ t, hs[i]? = some t := ⟨hs[i], List.getElem?_eq_getElem (by omega)⟩
    have hti := gN_at S.out.hb ht
    have hdr := drop_cons ht
    rw [hdr] at hx2
    obtain ⟨b2, off2, rfl, hb2, hcell2⟩ := hx2.2.2 (by omega)
    have p2 := hcell2 0 _ (show _ = some (.int .i64 t) from by simp [List.flatMap_cons, ienc])
    rw [hti, Nat.add_zero] at p2
    obtain ⟨A2', c2', htl, hcc, hxt⟩ := Rd.tail1 (P := Try.prog) (t := 33) (e := 3) Try.underlying33 sz_int hx2 hc2 (by omega)
    obtain ⟨wb, hwb⟩ : ∃ wb, wb = w.alloc (.cells #[.int .i64 (h : Int), .slice A n c] 29) := ⟨_, rfl⟩
    obtain ⟨hE, hsb, k0, k1⟩ := box2 w _ _ _ wb hwb
    have HE := Lib.hid hE
    have Hwb := Lib.hid hwb
    have Hk0 := Lib.hid k0
    have Hk1 := Lib.hid k1
    have hbl : w.heap.size < wb.heap.size := by omega
    have hxb := Lib.hid (hx.keep hE)
    have hxb1 := Lib.hid (hx1.keep hE)
    have hxbt := Lib.hid (hxt.keep hE)
    have p2b := (hE.cellAt b2 hb2 _).trans p2
    have hb2b : b2 < wb.heap.size := by omega
    have i0 : (0 : Int) < ((m + 1 : Nat) : Int) := by omega
    have i00 : (0 : Int) < (m : Int) + 1 := by omega
    have hne : (((m : Int) + 1) == 0) = false := by rw [beq_eq_false_iff_ne]; omega
    have cD := Lib.hid (fun w' (he : Ext wb w') => spec_l23Distances h A n c ds (gN hs i) w' (hxb.out.keep he) g1 g7 (gN_lt g1 S.out.hb i))
    clear hE hwb hsb hx hx1 hx2 hxt hcell2 ht hti hdr p2 hb2
    go_enter Try.func79, Try.ntmps79
    go_wp2_with fail
    rw [← Hwb.out]
    go_region_held3 (fun w' => w'.cell? ⟨w.heap.size, 0, none⟩ = some (.int .i64 (h : Int)) ∧ w'.cell? ⟨w.heap.size, 1, none⟩ = some (.slice A n c) ∧ w'.cell? ⟨b2, off2, none⟩ = some (.int .i64 (gN hs i : Int))) (go_keep) ((go_at_call 91; refine (cD.out _ (by repeat (first | exact Ext.refl _ | refine Ext.drewN ?_ _))).mono ?_; rintro e w3 ⟨gd, rfl, he3, hgd, hbk⟩; have hx3 : Ext wb w3 := Ext.trans (by repeat (first | exact Ext.refl _ | refine Ext.drewN ?_ _)) he3; have y0 := (hx3.cellAt w.heap.size (by omega) 0).trans k0; have y1 := (hx3.cellAt w.heap.size (by omega) 1).trans k1; have y2 := (hx3.cellAt b2 (by omega) _).trans p2b))
    have HX3 := Lib.hid hx3
    have HBk := Lib.hid hbk
    have hs3 := hx3.size
    clear hx3 hbk he3 hgd k0 k1 y0 y1 y2 p2b hb2b
    have HOi := Lib.hid (own_empty w3 w3.heap.size 3 1 (Nat.le_refl _))
    have HEi := Lib.hid ((Ext.refl w3).alloc (.cells #[] 3))
    go_wp2_with fail
    go_loopw [11, 12, 13] (fun z o i' wr => ∃ (k : Nat) (L : List Int) (C : Int), k ≤ n1 ∧ i' = .int .i64 k ∧ z = .int .i64 C ∧ wr.ownsRow w3.heap.size 3 1 o L.length (L.flatMap ienc) ∧ -1 ≤ C ∧ C ≤ 60 ∧ Hid (bestR (dD ds h gs hs) n1 (m + 1) i used = (List.range' k (n1 - k)).foldl (bestS (fun k => bestR (dD ds h gs hs) n1 m (i + 1) (used ||| (1 <<< k))) (fun k => dD ds h gs hs k i) used) (L, C)) ∧ Hid (L.length ≤ 8) ∧ Ext w3 wr) (fun _ _ i' _ => n1 - (intOf i').toNat)
    case atStart => exact ⟨0, [], -1, Nat.zero_le _, rfl, rfl, HOi.out, by omega, by omega, by unfold Hid; rw [bestR, List.range_eq_range']; rfl, Nat.zero_le _, HEi.out⟩
    case round =>
      obtain ⟨k, L, C, hk, rfl, rfl, hown, hC0, hC6, hz, hL5, hb⟩ := hrel
      have HO := Lib.hid hown
      have HB := Lib.hid hb
      have hbr := hb.size
      by_cases hlt : k < n1
      · have hr' : Hid (List.range' k (n1 - k) = k :: List.range' (k + 1) (n1 - (k + 1))) := by
          unfold Hid
          have : n1 - k = (n1 - (k + 1)) + 1 := by omega
          rw [this, List.range'_succ]
        have hbt : (bits .and .i64 ((used : Int) / 2 ^ k) 1 == 1) = bitB used k := bit_test used k (by omega)
        rw [bitB_test] at hbt
        clear hown hb
        cases hu : used.testBit k
        case true =>
          rw [hu] at hbt
          have HF : Hid (bestR (dD ds h gs hs) n1 (m + 1) i used = (List.range' (k + 1) (n1 - (k + 1))).foldl (bestS (fun k => bestR (dD ds h gs hs) n1 m (i + 1) (used ||| (1 <<< k))) (fun k => dD ds h gs hs k i) used) (L, C)) := by
            unfold Hid; rw [hz.out, hr'.out, List.foldl_cons, bestS, hu]; rfl
          clear hu
          go_wp2_with fail
          go_roundw
          case rel => exact ⟨k + 1, L, C, by omega, by go_num, rfl, HO.out, hC0, hC6, HF, hL5, HB.out⟩
          case measure => simp [intOf]; omega
        case false =>
          rw [hu] at hbt
          have hk7 : k < 7 := by omega
          have hus2 := or_lt128 hus (shl_lt hk7)
          have e1 : bits .or .i64 (used : Int) ((1 : Int) <<< k) = ((used ||| (1 <<< k) : Nat) : Int) := by rw [shl_cast, bits_or used (1 <<< k) (by omega) (Nat.lt_trans (shl_lt hk7) (by decide))]
          have e2 : bits .or .i64 (used : Int) (wrap64 ((2 : Int) ^ k)) = ((used ||| (1 <<< k) : Nat) : Int) := by rw [wrap_shl hk7, bits_or used (1 <<< k) (by omega) (Nat.lt_trans (shl_lt hk7) (by decide))]
          have e3 : bits .or .i64 (used : Int) (IntKind.i64.wrap ((2 : Int) ^ k)) = ((used ||| (1 <<< k) : Nat) : Int) := by rw [IntWalk.i64_left, wrap_shl hk7, bits_or used (1 <<< k) (by omega) (Nat.lt_trans (shl_lt hk7) (by decide))]
          have E1 := Lib.hid e1
          have E2 := Lib.hid e2
          have E3 := Lib.hid e3
          have hbd := bestR_bd hD.out n1 m (i + 1) (used ||| (1 <<< k))
          have HF : Hid (∀ t, (decide ((0 : Int) ≤ (bestR (dD ds h gs hs) n1 m (i + 1) (used ||| (1 <<< k))).2) && (decide (C < 0) || decide ((bestR (dD ds h gs hs) n1 m (i + 1) (used ||| (1 <<< k))).2 + dD ds h gs hs k i < C))) = t → bestR (dD ds h gs hs) n1 (m + 1) i used = (List.range' (k + 1) (n1 - (k + 1))).foldl (bestS (fun k => bestR (dD ds h gs hs) n1 m (i + 1) (used ||| (1 <<< k))) (fun k => dD ds h gs hs k i) used) (if t then ((k : Int) :: (bestR (dD ds h gs hs) n1 m (i + 1) (used ||| (1 <<< k))).1, (bestR (dD ds h gs hs) n1 m (i + 1) (used ||| (1 <<< k))).2 + dD ds h gs hs k i) else (L, C))) := by
            unfold Hid; intro t ht; rw [hz.out, hr'.out, List.foldl_cons, bestS, hu]; simp only [Bool.false_eq_true, if_false]; rw [ht]
          have cK : Hid (∀ w4 (z : Int), z = ((used ||| (1 <<< k) : Nat) : Int) → Ext wb w4 → Calls Try.prog 79 #[.agg #[.int .i64 h, .slice A n c], .slice A1 n1 c1, .slice A2' m c2', .int .i64 z] w4 (DispPost (bestR (dD ds h gs hs) n1 m (i + 1) (used ||| (1 <<< k))) w4)) := by
            unfold Hid
            intro w4 z hz4 he4
            subst hz4
            exact IH.out (i + 1) (used ||| (1 <<< k)) A2' c2' w4 (hxb.out.keep he4) (hxb1.out.keep he4) (hxbt.out.keep he4) hcc (by omega) hus2
          obtain ⟨R, hR⟩ : ∃ R, R = bestR (dD ds h gs hs) n1 m (i + 1) (used ||| (1 <<< k)) := ⟨_, rfl⟩
          rw [← hR] at HF cK hbd
          obtain ⟨Rl, Rc⟩ := R
          simp only at hbd HF
          obtain ⟨hR0, hR6, hRl⟩ := hbd
          obtain ⟨b1, off1, g, hA1, hbs1, hgk, p1⟩ := ienc_at hxb1.out hlt
          subst hA1
          rw [gN_at S.out.gb hgk] at p1
          obtain ⟨z, hzz⟩ : ∃ z, z = dD ds h gs hs k i := ⟨_, rfl⟩
          have hz6 : 0 ≤ z ∧ z ≤ 6 := by rw [hzz]; exact hD.out k i
          have hdi := S.out.dist k i
          have hq := HBk.out.cell (i := gN gs k) (by rw [(BInv.all ds (gN_lt g1 S.out.hb i)).ld]; exact gN_lt g1 S.out.gb k)
          have hqz : ((bfsAll ds h (gN hs i)).d.getD (gN gs k) 0) = z := by
            rw [hzz]
            exact (dist_sym ds (gN_lt g1 S.out.gb k) (gN_lt g1 S.out.hb i) hdi.1).1.symm
          rw [hqz] at hq
          rw [← hzz] at HF
          have hgl := gN_lt g1 S.out.gb k
          obtain ⟨v, hv⟩ : ∃ v, v = gN gs k := ⟨_, rfl⟩
          rw [← hv] at p1 hq hgl
          have hgdl := HBk.out.lt
          have Q := Lib.hid hq
          have P1 := Lib.hid ((HX3.out.cellAt b1 hbs1 _).trans p1)
          have hb13 : b1 < w3.heap.size := by omega
          have i1 : (0 : Int) ≤ (k : Int) := by omega
          have i2 : (k : Int) < (n1 : Int) := by omega
          have i3 : (0 : Int) ≤ (v : Int) := by omega
          have i4 : (v : Int) < (h : Int) := by omega
          have hm5 : m ≤ 5 := by omega
          have k0 := ((HX3.out.trans HB.out).cellAt w.heap.size hbl 0).trans Hk0.out
          have k1 := ((HX3.out.trans HB.out).cellAt w.heap.size hbl 1).trans Hk1.out
          have HWb := Lib.hid (HX3.out.trans HB.out)
          clear hu hR hgk hzz hdi hq hqz hv p1 e1 e2 e3
          go_wp2_with fail
          go_region_held3 (fun w' => w'.cell? ⟨w.heap.size, 0, none⟩ = some (.int .i64 (h : Int)) ∧ w'.cell? ⟨w.heap.size, 1, none⟩ = some (.slice A n c)) (go_keep) ((go_at_call 79; refine (cK.out _ _ (by first | exact E1.out | exact E2.out | exact E3.out) (HWb.out.trans (by repeat (first | exact Ext.refl _ | refine Ext.drewN ?_ _)))).mono ?_; rintro e w4 ⟨v4, rfl, he4, ho4⟩; obtain ⟨A4, c4, rfl, hnc4⟩ := own_form ho4; have hx4 : Ext wr w4 := Ext.trans (by repeat (first | exact Ext.refl _ | refine Ext.drewN ?_ _)) he4; have y0 := (hx4.cellAt w.heap.size (by omega) 0).trans k0; have y1 := (hx4.cellAt w.heap.size (by omega) 1).trans k1))
          have HE4 := Lib.hid (HB.out.trans hx4)
          have HO4 := Lib.hid (own_weak (base' := w3.heap.size) ho4 hbr)
          have HOo := Lib.hid (own_keep HO.out hx4)
          clear ho4 he4 hx4 k0 k1 y0 y1
          have r0 := (HE4.out.cellAt b1 hb13 _).trans P1.out
          have r1 := (HE4.out.cellAt gd hgdl _).trans Q.out
          by_cases q1 : 0 ≤ Rc
          case neg =>
            have HT := Lib.hid (HF.out false (by simp [q1]))
            go_wp2_with fail
            go_roundw
            case rel => exact ⟨k + 1, L, C, by omega, by go_num, rfl, HOo.out, hC0, hC6, HT.out, hL5, HE4.out⟩
            case measure => simp [intOf]; omega
          by_cases q2 : C < 0
          case pos =>
            have HT := Lib.hid (HF.out true (by simp [q1, q2]))
            have q0 : True := trivial
            have q3 : True := trivial
            go_wp2_with (at_builtin; refine (fun h : Hid _ => h.out) ?_)
            unfold Hid
            refine appendRdN ei_I rfl _ _ rfl w3.heap.size (w4.alloc (.cells #[.int .i64 (k : Int)] 3)) _ 1 [.int .i64 (k : Int)] (by rfl) (own_one w4 w3.heap.size 3 (k : Int) (HE4.out.size)) A4 Rl.length c4 (Rl.flatMap ienc) (by rfl) ((Rd.of_own HO4.out).alloc _) (own_nilcap HO4.out) (one_ienc _) (by omega) (by have := HE4.out.size; simp; omega) (by intro h; cases h) ?_
            intro g c' w5
            rw [Nat.add_comm 1 Rl.length]
            intro ho he
            have HO5 := Lib.hid ho
            have HE5 := Lib.hid (he w3 (HE4.out.alloc _) (Nat.le_refl _))
            clear ho he q0 q1 q2 q3
            go_wp2_with fail
            go_roundw
            case rel => exact ⟨k + 1, (k : Int) :: Rl, Rc + z, by omega, by go_num, rfl, HO5.out, by omega, by omega, HT.out, by unfold Hid; simp only [List.length_cons]; omega, HE5.out⟩
            case measure => simp [intOf]; omega
          by_cases q3 : Rc + z < C
          case pos =>
            have HT := Lib.hid (HF.out true (by simp [q1, q3]))
            have q0 : True := trivial
            go_wp2_with (at_builtin; refine (fun h : Hid _ => h.out) ?_)
            unfold Hid
            refine appendRdN ei_I rfl _ _ rfl w3.heap.size (w4.alloc (.cells #[.int .i64 (k : Int)] 3)) _ 1 [.int .i64 (k : Int)] (by rfl) (own_one w4 w3.heap.size 3 (k : Int) (HE4.out.size)) A4 Rl.length c4 (Rl.flatMap ienc) (by rfl) ((Rd.of_own HO4.out).alloc _) (own_nilcap HO4.out) (one_ienc _) (by omega) (by have := HE4.out.size; simp; omega) (by intro h; cases h) ?_
            intro g c' w5
            rw [Nat.add_comm 1 Rl.length]
            intro ho he
            have HO5 := Lib.hid ho
            have HE5 := Lib.hid (he w3 (HE4.out.alloc _) (Nat.le_refl _))
            clear ho he q0 q1 q2 q3
            go_wp2_with fail
            go_roundw
            case rel => exact ⟨k + 1, (k : Int) :: Rl, Rc + z, by omega, by go_num, rfl, HO5.out, by omega, by omega, HT.out, by unfold Hid; simp only [List.length_cons]; omega, HE5.out⟩
            case measure => simp [intOf]; omega
          case neg =>
            have HT := Lib.hid (HF.out false (by simp [q1]; omega))
            go_wp2_with fail
            go_roundw
            case rel => exact ⟨k + 1, L, C, by omega, by go_num, rfl, HOo.out, hC0, hC6, HT.out, hL5, HE4.out⟩
            case measure => simp [intOf]; omega
      · obtain rfl : k = n1 := by omega
        clear hb hown
        have hF : bestR (dD ds h gs hs) k (m + 1) i used = (L, C) := by rw [hz.out, Nat.sub_self]; rfl
        have HF := Lib.hid hF
        clear hF
        go_wp2_with fail
        go_ret2
        exact ⟨_, by rw [HF.out]; rfl, HE.out.trans (HX3.out.trans HB.out), by rw [HF.out]; exact own_weak HO.out (by omega)⟩
end Go.Proofs.Ytcmbjkidgemdaaa
