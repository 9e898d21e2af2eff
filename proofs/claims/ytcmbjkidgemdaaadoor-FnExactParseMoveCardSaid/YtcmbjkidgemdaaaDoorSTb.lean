/- ParseAct of the reference; no condition but what stands at each theorem. -/
import Derived.Test.YtcmbjkidgemdaaaDoorMP
import Derived.Test.YtcmbjkidgemdaaaDoorST8
import Derived.Test.YtcmbjkidgemdaaaDoorSTa
import Derived.BigRegion
namespace Go.Proofs.YtcmbjkidgemdaaaDoor
set_option linter.unusedSimpArgs false
set_option linter.unusedVariables false
open Go.RowKit Go.Sort
theorem jb_snoc {L : List (List UInt8)} (h : L ≠ []) (f : List UInt8) : jb (L ++ [f]) = jb L ++ sp1 ++ ⟨f.toArray⟩ := by
  cases L with
  | nil => exact absurd rfl h
  | cons g r =>
    unfold jb sp1
    rw [List.cons_append, Lib.join_cons, Lib.join_cons, str_app _ [32], str_app]
    simp [Lib.joinTail]
theorem wds_len : ∀ (r cur : List UInt8), ∀ l ∈ wds cur r, l.length ≤ cur.length + r.length
  | [], _, l, hl => by rw [wd_nil] at hl; cases hl
  | b :: r, cur, l, hl => by
    by_cases hb : b = 32
    · subst hb
      by_cases hcur : cur = []
      · subst hcur
        rw [wd_e] at hl
        have := wds_len r [] l hl
        simp at this ⊢; omega
      · rw [wd_n hcur] at hl
        rcases List.mem_cons.1 hl with rfl | hl
        · omega
        · have := wds_len r [] l hl
          simp at this ⊢; omega
    · rw [wd_ne hb] at hl
      have := wds_len r _ l hl
      simp at this ⊢; omega
theorem fields_len (x : ByteArray) : ∀ l ∈ fieldsOf x, l.length ≤ x.size + 1 := by
  intro l hl
  have := wds_len _ [] l hl
  rw [List.length_append, toList_size] at this
  simpa using this
def PAPost (x : ByteArray) (w : World) (e : Ending) (w' : World) : Prop :=
  ∃ (a : GAct) (b : Bool), e = .returned (.tuple #[.agg #[.int .i64 a.k, .int .i64 a.a, .int .i64 a.b, .int .i64 a.c, .int .i64 a.d], .bool b]) ∧ Ext w w' ∧ PA x a b
theorem pa_none {x : ByteArray} {w w' : World} (h : ∀ a', spOk x = true → acOk a' = true → fieldsOf x ≠ actW a') (e : Ext w w') :
    PAPost x w (.returned (.tuple #[.agg #[.int .i64 0, .int .i64 0, .int .i64 0, .int .i64 0, .int .i64 0], .bool false])) w' :=
  ⟨⟨0, 0, 0, 0, 0⟩, false, rfl, e, .inr ⟨rfl, rfl, h⟩⟩
/-- The numbers read so far. -/
def NumsOf (fs : List (List UInt8)) (zs : List Int) : Prop := ∀ (j : Nat) (f : List UInt8) (z : Int), zs[j]? = some z → fs[j + 1]? = some f → NumOf f z
theorem nums_snoc {fs : List (List UInt8)} {zs : List Int} {f : List UInt8} {z : Int} (h : NumsOf fs zs) (hf : fs[zs.length + 1]? = some f) (hz : NumOf f z) : NumsOf fs (zs ++ [z]) := by
  intro j g y hy hg
  by_cases hj : j < zs.length
  · rw [List.getElem?_append_left hj] at hy
    exact h j g y hy hg
  · rw [List.getElem?_append_right (by omega)] at hy
    have hj2 : j - zs.length = 0 := by
      cases hjl : j - zs.length with
      | zero => rfl
      | succ q => rw [hjl] at hy; simp at hy
    obtain rfl : j = zs.length := by omega
    rw [hf] at hg
    simp at hy
    injection hg with hg
    subst hg hy
    exact hz
theorem nums_at {fs : List (List UInt8)} {zs : List Int} (h : NumsOf fs zs) (hl : zs.length + 1 = fs.length) (j : Nat) (hj : j < 4) : NumAt fs j ((zs ++ [0, 0, 0, 0]).getD j 0) := by
  by_cases hz : j < zs.length
  · have hf : fs[j + 1]? = some fs[j + 1] := List.getElem?_eq_getElem (by omega)
    refine .inl ⟨_, hf, h j _ _ ?_ hf⟩
    rw [List.getD_eq_getElem?_getD, List.getElem?_append_left hz, List.getElem?_eq_getElem hz]; rfl
  · refine .inr ⟨by omega, ?_⟩
    rw [List.getD_eq_getElem?_getD, List.getElem?_append_right (by omega)]
    have : j - zs.length < 4 := by omega
    match h : j - zs.length, this with
    | 0, _ => rfl
    | 1, _ => rfl
    | 2, _ => rfl
    | 3, _ => rfl
def set5 (W : World) (g : Nat) (u0 u1 u2 u3 u4 : Value) : World := ((((W.setCell ⟨g, 0, none⟩ u0).setCell ⟨g, 1, none⟩ u1).setCell ⟨g, 2, none⟩ u2).setCell ⟨g, 3, none⟩ u3).setCell ⟨g, 4, none⟩ u4
theorem set5_blk {W : World} {g : Nat} {t : TypeId} {v0 v1 v2 v3 v4 : Value} (hB : Blk W g t #[v0, v1, v2, v3, v4]) (u0 u1 u2 u3 u4 : Value) : Blk (set5 W g u0 u1 u2 u3 u4) g t #[u0, u1, u2, u3, u4] :=
  ((((hB.set 0 u0).set 1 u1).set 2 u2).set 3 u3).set 4 u4
theorem set5_ext {w W : World} {g : Nat} (h : Ext w W) (hg : w.heap.size ≤ g) (u0 u1 u2 u3 u4 : Value) : Ext w (set5 W g u0 u1 u2 u3 u4) :=
  ((((h.setCell (p := ⟨g, 0, none⟩) hg u0).setCell (p := ⟨g, 1, none⟩) hg u1).setCell (p := ⟨g, 2, none⟩) hg u2).setCell (p := ⟨g, 3, none⟩) hg u3).setCell (p := ⟨g, 4, none⟩) hg u4
theorem bytes_eq {a b : ByteArray} (h : (a.toList == b.toList) = true) : a = b := by
  have h1 := eq_of_beq h
  rw [Lib.toList_data, Lib.toList_data] at h1
  exact Go.WideShapes.bytes_inj h1
theorem bytes_ne {a b : ByteArray} (h : (a.toList == b.toList) = false) : a ≠ b := by
  rintro rfl
  simp at h
theorem pa_some {x : ByteArray} {w w' : World} (a : GAct) (hs : spOk x = true) (ha : acOk a = true) (he : fieldsOf x = actW a) (e : Ext w w') :
    PAPost x w (.returned (.tuple #[.agg #[.int .i64 a.k, .int .i64 a.a, .int .i64 a.b, .int .i64 a.c, .int .i64 a.d], .bool true])) w' :=
  ⟨a, true, rfl, e, .inl ⟨rfl, hs, ha, he⟩⟩
theorem no_snoc {p : Nat → Prop} {k : Nat} (h : ∀ q, 1 ≤ q → q < k → ¬ p q) (hk : ¬ p k) : ∀ q, 1 ≤ q → q < k + 1 → ¬ p q := by
  intro q h1 h2
  by_cases h3 : q < k
  · exact h q h1 h3
  · obtain rfl : q = k := by omega
    exact hk
theorem ei_N : EI Tryd.prog 54 3 1 := ei_of Tryd.underlying54 (by omega) (by kernel_rfl)
theorem one_intN (k : Int) : ∀ u ∈ [Value.int .i64 k], u.oneCell' = true := by intro u hu; simp at hu; subst hu; rfl
theorem one_iencN (zs : List Int) : ∀ u ∈ zs.flatMap ienc, u.oneCell' = true := by
  intro u hu
  rw [ienc_map] at hu
  obtain ⟨z, _, rfl⟩ := List.mem_map.1 hu
  rfl
theorem mk_size (f : List UInt8) : (⟨f.toArray⟩ : ByteArray).size = f.length := by simp [ByteArray.size]
set_option maxRecDepth 100000 in
set_option maxHeartbeats 4000000 in
theorem spec_ParseAct (x : ByteArray) (w : World) (hx : x.size ≤ 1048576) : Calls Tryd.prog 21 #[.string x] w (PAPost x w) := by
  obtain ⟨wa, hwa⟩ : ∃ wa, wa = w.alloc (.cells #[.int .i64 0, .int .i64 0, .int .i64 0, .int .i64 0, .int .i64 0] 32) := ⟨_, rfl⟩
  have hEa : Ext w wa := by rw [hwa]; exact (Ext.refl w).alloc _
  have hsa : wa.heap.size = w.heap.size + 1 := by rw [hwa]; simp
  have hB : Blk wa w.heap.size 32 #[.int .i64 0, .int .i64 0, .int .i64 0, .int .i64 0, .int .i64 0] := by rw [hwa]; exact Blk.new _ _ _
  have Hwa := Lib.hid hwa
  have HEa := Lib.hid hEa
  have cS := Lib.hid (spec_SplitFields x wa hx)
  clear hwa hEa
  go_enter Tryd.func21, Tryd.ntmps21
  go_wp2_with fail
  rw [← Hwa.out]
  refine cS.out.mono ?_
  rintro e w1 ⟨v, rfl, hb1, hown⟩
  have hB1 := hB.keep hb1
  have hs1 := hb1.size
  have HE1 := Lib.hid (HEa.out.trans hb1)
  have l0 : w.heap.size < w1.heap.size := by omega
  have m0 : w1.heap.size ≠ w.heap.size := by omega
  have c0 : w1.cell? ⟨w.heap.size, 0, none⟩ = some (.int .i64 0) := hB1.cell 0
  have c1 : w1.cell? ⟨w.heap.size, 1, none⟩ = some (.int .i64 0) := hB1.cell 1
  have c2 : w1.cell? ⟨w.heap.size, 2, none⟩ = some (.int .i64 0) := hB1.cell 2
  have c3 : w1.cell? ⟨w.heap.size, 3, none⟩ = some (.int .i64 0) := hB1.cell 3
  have c4 : w1.cell? ⟨w.heap.size, 4, none⟩ = some (.int .i64 0) := hB1.cell 4
  have fz : ∀ o, w1.frozen? ⟨w.heap.size, o, none⟩ = false := fun o => hB1.free o
  clear hb1 hB
  cases hok : spOk x
  case false =>
    have HN : Hid (∀ a', spOk x = true → acOk a' = true → fieldsOf x ≠ actW a') := fun a' h _ => by rw [hok] at h; cases h
    clear hown hok
    go_wp2_with fail
    obtain ⟨WF, hWF⟩ : ∃ WF, WF = set5 w1 w.heap.size (.int .i64 0) (.int .i64 0) (.int .i64 0) (.int .i64 0) (.int .i64 0) := ⟨_, rfl⟩
    have FB := set5_blk hB1 (.int .i64 0) (.int .i64 0) (.int .i64 0) (.int .i64 0) (.int .i64 0)
    have FE := set5_ext HE1.out (Nat.le_refl _) (.int .i64 0) (.int .i64 0) (.int .i64 0) (.int .i64 0) (.int .i64 0)
    rw [← hWF] at FB FE
    unfold set5 at hWF
    rw [← hWF]
    clear hWF
    have y0 := FB.cell 0
    have y1 := FB.cell 1
    have y2 := FB.cell 2
    have y3 := FB.cell 3
    have y4 := FB.cell 4
    refine bodyPost_ret (v := .tuple #[.agg #[.int .i64 0, .int .i64 0, .int .i64 0, .int .i64 0, .int .i64 0], .bool false]) (by simp [results, Tryd.results21, go_sem, y0, y1, y2, y3, y4]) rfl (pa_none HN.out FE)
  case true =>
    replace hown := hown hok
    have hfl := fields_len x
    have hfg := fields_good x
    have hx6 : x.size ≤ 600 := by
      unfold spOk at hok; simp at hok; exact hok.1.1
    obtain ⟨fs, hfs⟩ : ∃ fs, fs = fieldsOf x := ⟨_, rfl⟩
    have Hfs := Lib.hid hfs
    have HOK := Lib.hid hok
    rw [← hfs] at hown hfl hfg
    have Hfg := Lib.hid hfg
    have Hfl := Lib.hid hfl
    clear hfs hok hfl hfg
    obtain ⟨A, c', rfl, hnc⟩ := own_form hown
    have HOW := Lib.hid hown
    clear hown
    by_cases hm : 1 ≤ fs.length ∧ fs.length ≤ 5
    case neg =>
      have HN : Hid (∀ a', spOk x = true → acOk a' = true → fieldsOf x ≠ actW a') := fun a' _ _ h => by
        have := actW_len a'
        rw [← h, ← Hfs.out] at this
        exact hm this
      have hin : inB (fs.length : Int) 1 5 = false := by
        rw [Bool.eq_false_iff]; intro h; simp [inB] at h; omega
      clear hm
      go_wp2_with (go_at_call 35; refine (spec_l01In _ _ _ _).mono ?_; rintro e w2 ⟨rfl, rfl⟩; rw [hin])
      obtain ⟨WF, hWF⟩ : ∃ WF, WF = set5 w1 w.heap.size (.int .i64 0) (.int .i64 0) (.int .i64 0) (.int .i64 0) (.int .i64 0) := ⟨_, rfl⟩
      have FB := set5_blk hB1 (.int .i64 0) (.int .i64 0) (.int .i64 0) (.int .i64 0) (.int .i64 0)
      have FE := set5_ext HE1.out (Nat.le_refl _) (.int .i64 0) (.int .i64 0) (.int .i64 0) (.int .i64 0) (.int .i64 0)
      rw [← hWF] at FB FE
      unfold set5 at hWF
      rw [← hWF]
      clear hWF
      have y0 := FB.cell 0
      have y1 := FB.cell 1
      have y2 := FB.cell 2
      have y3 := FB.cell 3
      have y4 := FB.cell 4
      refine bodyPost_ret (v := .tuple #[.agg #[.int .i64 0, .int .i64 0, .int .i64 0, .int .i64 0, .int .i64 0], .bool false]) (by simp [results, Tryd.results21, go_sem, y0, y1, y2, y3, y4]) rfl (pa_none HN.out FE)
    case pos =>
    obtain ⟨hm1, hm5⟩ := hm
    have hin : inB (fs.length : Int) 1 5 = true := by simp [inB]; omega
    obtain ⟨-, -, hr⟩ := Rd.of_own HOW.out
    obtain ⟨g, o, rfl, hg, hcell⟩ := hr (by omega)
    have Hcell := Lib.hid hcell
    clear hr hcell
    obtain ⟨f0, hf0⟩ : ∃ f0, fs[0]? = some f0 := ⟨fs[0], List.getElem?_eq_getElem (by omega)⟩
    have HF0 := Lib.hid hf0
    have q0 : w1.cell? ⟨g, o, none⟩ = some (.string ⟨f0.toArray⟩) := Hcell.out 0 _ (by rw [sval, List.getElem?_map, HF0.out]; rfl)
    clear hf0
    have hgw : w1.heap.size ≠ g := by omega
    go_wp2_with (go_at_call 35; refine (spec_l01In _ _ _ _).mono ?_; rintro e w2 ⟨rfl, rfl⟩; rw [hin])
    obtain ⟨wo, hwo⟩ : ∃ wo, wo = w1.alloc (.cells #[] 3) := ⟨_, rfl⟩
    rw [← hwo]
    have hEo : Ext w1 wo := by rw [hwo]; exact (Ext.refl w1).alloc _
    have Ho0 : Hid (wo.ownsRow w1.heap.size 3 1 (.slice (some ⟨w1.heap.size, 0, none⟩) 0 0) 0 []) := by rw [hwo]; exact own_empty w1 w1.heap.size 3 1 (Nat.le_refl _)
    have HEo := Lib.hid hEo
    have hso := hEo.size
    clear hwo hEo
    have hf0l := Hfl.out f0 (List.mem_of_getElem? HF0.out)
    go_loopw [6, 7, 8] (fun t v i wr => ∃ (k : Nat) (T : ByteArray) (zs : List Int), 1 ≤ k ∧ k ≤ fs.length ∧ i = .int .i64 k ∧ t = .string T ∧ T.size ≤ 700 * k ∧ zs.length + 1 = k ∧ Hid (wr.ownsRow w1.heap.size 3 1 v zs.length (zs.flatMap ienc)) ∧ Hid (T = jb (fs.take k)) ∧ Hid (NumsOf fs zs) ∧ Ext w1 wr) (fun _ _ i _ => fs.length - (intOf i).toNat)
    case atStart =>
      refine ⟨1, ⟨f0.toArray⟩, [], Nat.le_refl _, hm1, rfl, rfl, by rw [mk_size]; omega, rfl, Ho0, ?_, Lib.hid (fun j f z hz => by simp at hz), HEo.out⟩
      unfold Hid jb
      rw [List.take_add_one, HF0.out]
      simp [Lib.join_one]
    case round =>
      obtain ⟨k, T, zs, hk1, hkm, rfl, rfl, hT, hzl, hown, hJ, hN, hb⟩ := hrel
      have HB1 := Lib.hid hb
      have hsw := hb.size
      clear hb
      by_cases hlt : k < fs.length
      · obtain ⟨f, hf⟩ : ∃ f, fs[k]? = some f := ⟨fs[k], List.getElem?_eq_getElem hlt⟩
        have hfl := Hfl.out f (List.mem_of_getElem? hf)
        have q1 : wr.cell? ⟨g, o + k, none⟩ = some (.string ⟨f.toArray⟩) := (HB1.out.cellAt g hg (o + k)).trans (Hcell.out k _ (by rw [sval, List.getElem?_map, hf]; rfl))
        have HJ : Hid (T ++ sp1 ++ ⟨f.toArray⟩ = jb (fs.take (k + 1))) := by
          unfold Hid
          rw [hJ.out, List.take_add_one, hf, Option.toList_some, jb_snoc]
          intro h
          have := congrArg List.length h
          rw [List.length_take, List.length_nil] at this
          omega
        have HF := Lib.hid hf
        have hNs := Lib.hid (fun (z : Int) (hz : NumOf f z) => nums_snoc hN.out (by rw [show zs.length + 1 = k from hzl]; exact hf) hz)
        obtain ⟨F, hF⟩ : ∃ F : ByteArray, F = ⟨f.toArray⟩ := ⟨_, rfl⟩
        have hFs : F.size ≤ 601 := by rw [hF, mk_size]; omega
        have HFF := Lib.hid hF
        rw [← hF] at q1 HJ
        clear hf hF
        have cN := Lib.hid (spec_l40Number F wr (by omega))
        have hgr : wr.heap.size ≠ g := by omega
        have hts : (T ++ sp1 ++ F).size ≤ 700 * (k + 1) := by
          rw [ByteArray.size_append, ByteArray.size_append]
          have : sp1.size = 1 := rfl
          omega
        have hkl : zs.length ≤ 5 := by omega
        go_wp2_with (first
          | (go_at_call 43; refine cN.out.mono ?_; rintro e w2 ⟨z, rfl, hb2, hz⟩; have HB2 := Lib.hid hb2; have hs2 := hb2.size; have HZ := Lib.hid hz; clear hb2 hz)
          | (at_builtin; refine append1 ei_N rfl _ _ rfl w1.heap.size w2 _ _ zs.length _ (by rfl) (own_keep hown.out HB2.out) [.int .i64 z] (by rfl) rfl (one_intN _) (by omega) (by omega) ?_; intro v' w3 ho3 he3; have HO3 := Lib.hid ho3; have HE3 := Lib.hid (he3 w1 (HB1.out.trans HB2.out) (Nat.le_refl _)); have HE4 := Lib.hid he3; clear ho3 he3))
        go_roundw
        case rel => exact ⟨k + 1, T ++ sp1 ++ F, zs ++ [z], by omega, by omega, by go_num, by first | rfl | (rw [ByteArray.append_assoc]; rfl), hts, by simp; omega, by (unfold Hid; rw [List.length_append, List.flatMap_append]; exact HO3.out), HJ, hNs.out z (fun i hi he => HZ.out i hi (by rw [HFF.out]; exact he)), HE3.out⟩
        case measure => simp [intOf] <;> omega
      · obtain rfl : k = fs.length := by omega
        have hJf : T = jb fs := by rw [hJ.out, List.take_of_length_le (Nat.le_refl _)]
        have HJf := Lib.hid hJf
        clear hJf
        have hz4 : zs.length ≤ 4 := by omega
        obtain ⟨Az, cz, rfl, hcz⟩ := own_form hown.out
        have hEl : Ext w1 (wr.alloc (.cells (([0, 0, 0, 0] : List Int).map (Value.int .i64)).toArray 3)) := HB1.out.alloc _
        have HEl := Lib.hid hEl
        clear hEl
        go_wp2_with (at_builtin; refine appendRd ei_N rfl _ _ rfl w1.heap.size (wr.alloc (.cells (([0, 0, 0, 0] : List Int).map (Value.int .i64)).toArray 3)) _ zs.length _ (by rfl) (hown.out.alloc _) (some ⟨wr.heap.size, 0, none⟩) 4 4 (([0, 0, 0, 0] : List Int).flatMap ienc) (by rfl) (rd_lit wr 3 [0, 0, 0, 0] (by simp)) (fun h => by cases h) (one_iencN _) (by omega) (by simp; omega) ?_; intro v' w3 ho3 he3; have HO3 := Lib.hid ho3; have HE3 := Lib.hid (he3 w1 HEl.out (Nat.le_refl _)); clear ho3 he3)
        have hO3 : w3.ownsRow w1.heap.size 3 1 v' (zs.length + 4) ((zs ++ [0, 0, 0, 0]).flatMap ienc) := by rw [List.flatMap_append]; exact HO3.out
        obtain ⟨N, hNN, hN4⟩ : ∃ N, N = zs.length + 4 ∧ 4 ≤ N := ⟨_, rfl, by omega⟩
        rw [← hNN] at hO3
        clear hNN
        obtain ⟨Av, cv, rfl, hcv⟩ := own_form hO3
        obtain ⟨-, -, hr3⟩ := Rd.of_own hO3
        obtain ⟨g3, o3, rfl, hg3, hc3⟩ := hr3 (by omega)
        have hc4 : ∀ j, j < 4 → w3.cell? ⟨g3, o3 + j, none⟩ = some (.int .i64 ((zs ++ [0, 0, 0, 0]).getD j 0)) := fun j hj => hc3 j _ (by
          rw [ienc_map, List.getElem?_map, List.getD_eq_getElem?_getD, List.getElem?_eq_getElem (by simp; omega)]; rfl)
        have A0 := nums_at hN.out hzl 0 (by omega)
        have r0 := hc4 0 (by omega)
        obtain ⟨n0, hn0⟩ : ∃ n, n = (zs ++ [0, 0, 0, 0]).getD 0 0 := ⟨_, rfl⟩
        rw [← hn0] at A0 r0
        have A1 := nums_at hN.out hzl 1 (by omega)
        have r1 := hc4 1 (by omega)
        obtain ⟨n1, hn1⟩ : ∃ n, n = (zs ++ [0, 0, 0, 0]).getD 1 0 := ⟨_, rfl⟩
        rw [← hn1] at A1 r1
        have A2 := nums_at hN.out hzl 2 (by omega)
        have r2 := hc4 2 (by omega)
        obtain ⟨n2, hn2⟩ : ∃ n, n = (zs ++ [0, 0, 0, 0]).getD 2 0 := ⟨_, rfl⟩
        rw [← hn2] at A2 r2
        have A3 := nums_at hN.out hzl 3 (by omega)
        have r3 := hc4 3 (by omega)
        obtain ⟨n3, hn3⟩ : ∃ n, n = (zs ++ [0, 0, 0, 0]).getD 3 0 := ⟨_, rfl⟩
        rw [← hn3] at A3 r3
        rw [Nat.add_zero] at r0
        have HA := Lib.hid (fun (a' : GAct) (ha : acOk a' = true) (he : fs = actW a') => act_nums ha he A0 A1 A2 A3)
        have HR := Lib.hid (And.intro r0 (And.intro r1 (And.intro r2 r3)))
        have hs3 := HE3.out.size
        clear hc3 hc4 hr3 hO3 A0 A1 A2 A3 hn0 hn1 hn2 hn3 r0 r1 r2 r3
        go_loopw [9] (fun i wr => ∃ k : Nat, 1 ≤ k ∧ k ≤ 6 ∧ i = .int .i64 k ∧ Hid (∀ q : Nat, 1 ≤ q → q < k → ¬ (acOk ⟨q, n0, n1, n2, n3⟩ = true ∧ fs = actW ⟨q, n0, n1, n2, n3⟩)) ∧ Ext w3 wr) (fun i _ => 6 - (intOf i).toNat)
        case atStart => exact ⟨1, Nat.le_refl _, by omega, rfl, Lib.hid (fun q h1 h2 => absurd h2 (by omega)), Ext.refl _⟩
        case round =>
          obtain ⟨k, hk1, hk6, rfl, hno, hb⟩ := hrel
          have hBr := hB1.keep (HE3.out.trans hb)
          have HBR := Lib.hid hBr
          have HEr := Lib.hid (HE1.out.trans (HE3.out.trans hb))
          have HEb := Lib.hid hb
          have hsr := hb.size
          have lr : w.heap.size < wr.heap.size := by omega
          have mr : wr.heap.size ≠ w.heap.size := by omega
          by_cases hle : k ≤ 5
          case neg =>
            have d0 : wr.cell? ⟨w.heap.size, 0, none⟩ = some (.int .i64 0) := hBr.cell 0
            have d1 : wr.cell? ⟨w.heap.size, 1, none⟩ = some (.int .i64 0) := hBr.cell 1
            have d2 : wr.cell? ⟨w.heap.size, 2, none⟩ = some (.int .i64 0) := hBr.cell 2
            have d3 : wr.cell? ⟨w.heap.size, 3, none⟩ = some (.int .i64 0) := hBr.cell 3
            have d4 : wr.cell? ⟨w.heap.size, 4, none⟩ = some (.int .i64 0) := hBr.cell 4
            have dz : ∀ o, wr.frozen? ⟨w.heap.size, o, none⟩ = false := fun o => hBr.free o
            have HN : Hid (∀ a', spOk x = true → acOk a' = true → fieldsOf x ≠ actW a') := fun a' _ ha he => by
              have he' : fs = actW a' := Hfs.out.trans he
              have h1 := HA.out a' ha he'
              have h2 := (ac_cases ha).1
              rcases h2 with h2 | h2 | h2 | h2 | h2
              · exact hno.out 1 (by omega) (by omega) (by rw [h2] at h1; rw [h1] at ha he'; exact ⟨ha, he'⟩)
              · exact hno.out 2 (by omega) (by omega) (by rw [h2] at h1; rw [h1] at ha he'; exact ⟨ha, he'⟩)
              · exact hno.out 3 (by omega) (by omega) (by rw [h2] at h1; rw [h1] at ha he'; exact ⟨ha, he'⟩)
              · exact hno.out 4 (by omega) (by omega) (by rw [h2] at h1; rw [h1] at ha he'; exact ⟨ha, he'⟩)
              · exact hno.out 5 (by omega) (by omega) (by rw [h2] at h1; rw [h1] at ha he'; exact ⟨ha, he'⟩)
            clear hb hBr
            go_wp2_with fail
            obtain ⟨WF, hWF⟩ : ∃ WF, WF = set5 wr w.heap.size (.int .i64 0) (.int .i64 0) (.int .i64 0) (.int .i64 0) (.int .i64 0) := ⟨_, rfl⟩
            have FB := set5_blk HBR.out (.int .i64 0) (.int .i64 0) (.int .i64 0) (.int .i64 0) (.int .i64 0)
            have FE := set5_ext HEr.out (Nat.le_refl _) (.int .i64 0) (.int .i64 0) (.int .i64 0) (.int .i64 0) (.int .i64 0)
            rw [← hWF] at FB FE
            unfold set5 at hWF
            rw [← hWF]
            clear hWF
            have y0 := FB.cell 0
            have y1 := FB.cell 1
            have y2 := FB.cell 2
            have y3 := FB.cell 3
            have y4 := FB.cell 4
            refine bodyPost_ret (v := .tuple #[.agg #[.int .i64 0, .int .i64 0, .int .i64 0, .int .i64 0, .int .i64 0], .bool false]) (by simp [results, Tryd.results21, go_sem, y0, y1, y2, y3, y4]) rfl (pa_none HN.out FE)
          case pos =>
            have s0 := (hb.cellAt g3 hg3 o3).trans HR.out.1
            have s1 := (hb.cellAt g3 hg3 (o3 + 1)).trans HR.out.2.1
            have s2 := (hb.cellAt g3 hg3 (o3 + 2)).trans HR.out.2.2.1
            have s3 := (hb.cellAt g3 hg3 (o3 + 3)).trans HR.out.2.2.2
            have hg3r : g3 < wr.heap.size := by omega
            clear hb hBr
            have i0 : (0 : Int) < N := by omega
            have i1 : (1 : Int) < N := by omega
            have i2 : (2 : Int) < N := by omega
            have i3 : (3 : Int) < N := by omega
            have j0 : 0 < N := by omega
            have j1 : 1 < N := by omega
            have j2 : 2 < N := by omega
            have j3 : 3 < N := by omega
            have e1 : (1 : Int) ≤ N := by omega
            go_wp2_with fail
            have mg3 : wr.heap.size ≠ g3 := by omega
            go_region
            obtain ⟨W4, hW4⟩ : ∃ W4, W4 = (wr.alloc (.cells #[.int .i64 (k : Int), .int .i64 n0, .int .i64 n1, .int .i64 n2, .int .i64 n3] 32)).drew := ⟨_, rfl⟩
            have hE4 : Ext wr W4 := by rw [hW4]; exact ((Ext.refl wr).alloc _).drew
            have hB4 : Blk W4 wr.heap.size 32 #[.int .i64 (k : Int), .int .i64 n0, .int .i64 n1, .int .i64 n2, .int .i64 n3] := by rw [hW4]; exact (Blk.new _ _ _).drew
            rw [← hW4]
            clear hW4 s0 s1 s2 s3
            have b0 : W4.cell? ⟨wr.heap.size, 0, none⟩ = some (.int .i64 (k : Int)) := hB4.cell 0
            have b1 : W4.cell? ⟨wr.heap.size, 1, none⟩ = some (.int .i64 n0) := hB4.cell 1
            have b2 : W4.cell? ⟨wr.heap.size, 2, none⟩ = some (.int .i64 n1) := hB4.cell 2
            have b3 : W4.cell? ⟨wr.heap.size, 3, none⟩ = some (.int .i64 n2) := hB4.cell 3
            have b4 : W4.cell? ⟨wr.heap.size, 4, none⟩ = some (.int .i64 n3) := hB4.cell 4
            have cF := Lib.hid (spec_FormatAct (⟨(k : Int), n0, n1, n2, n3⟩ : GAct) W4)
            have HE4 := Lib.hid hE4
            have HB4 := Lib.hid hB4
            clear hE4 hB4
            have step : ∀ (w5 : World), Ext W4 w5 → ¬ (acOk (⟨(k : Int), n0, n1, n2, n3⟩ : GAct) = true ∧ fs = actW (⟨(k : Int), n0, n1, n2, n3⟩ : GAct)) → Hid (∀ q : Nat, 1 ≤ q → q < k + 1 → ¬ (acOk ⟨(q : Int), n0, n1, n2, n3⟩ = true ∧ fs = actW ⟨(q : Int), n0, n1, n2, n3⟩)) ∧ Hid (Ext w3 w5) := fun w5 e hk =>
              ⟨no_snoc (p := fun q : Nat => acOk ⟨(q : Int), n0, n1, n2, n3⟩ = true ∧ fs = actW ⟨(q : Int), n0, n1, n2, n3⟩) hno.out hk, HEb.out.trans (HE4.out.trans e)⟩
            have HS := Lib.hid step
            clear step
            cases hok2 : acOk (⟨(k : Int), n0, n1, n2, n3⟩ : GAct)
            case false =>
              rw [hok2] at cF
              have hbad : Hid (¬ (acOk (⟨(k : Int), n0, n1, n2, n3⟩ : GAct) = true ∧ fs = actW (⟨(k : Int), n0, n1, n2, n3⟩ : GAct))) := fun h => by rw [hok2] at h; cases h.1
              clear hok2
              go_wp2_with (go_at_call 13; refine cF.out.mono ?_; rintro e w5 ⟨rfl, hb5⟩; have HB5 := Lib.hid hb5; clear hb5)
              go_roundw
              case rel => exact ⟨k + 1, by omega, by omega, by go_num, (HS.out _ HB5.out hbad.out).1, (HS.out _ HB5.out hbad.out).2.out⟩
              case measure => simp [intOf] <;> omega
            case true =>
              rw [hok2] at cF
              obtain ⟨T2, hT2⟩ : ∃ T2, T2 = actT (⟨(k : Int), n0, n1, n2, n3⟩ : GAct) := ⟨_, rfl⟩
              rw [← hT2] at cF
              have HT2 := Lib.hid hT2
              have HO2 := Lib.hid hok2
              clear hT2 hok2
              cases hq : (T2.toList == T.toList)
              case false =>
                have hbad : Hid (¬ (acOk (⟨(k : Int), n0, n1, n2, n3⟩ : GAct) = true ∧ fs = actW (⟨(k : Int), n0, n1, n2, n3⟩ : GAct))) := fun h => bytes_ne hq (by rw [HT2.out, actT_jb HO2.out, HJf.out, ← h.2])
                go_wp2_with (go_at_call 13; refine cF.out.mono ?_; rintro e w5 ⟨rfl, hb5⟩; have HB5 := Lib.hid hb5; clear hb5)
                go_roundw
                case rel => exact ⟨k + 1, by omega, by omega, by go_num, (HS.out _ HB5.out hbad.out).1, (HS.out _ HB5.out hbad.out).2.out⟩
                case measure => simp [intOf] <;> omega
              case true =>
                have hfin : Hid (fieldsOf x = actW (⟨(k : Int), n0, n1, n2, n3⟩ : GAct)) := by
                  unfold Hid
                  rw [← Hfs.out]
                  exact act_words HO2.out Hfg.out (fun h => by rw [h] at hm1; simp at hm1) (by rw [← HT2.out, bytes_eq hq, HJf.out])
                go_wp2_with (go_at_call 13; refine cF.out.mono ?_; rintro e w5 ⟨rfl, hb5⟩; have HB5 := Lib.hid hb5; have z5 := hb5.size; have x0 := (hb5.cellAt wr.heap.size HB4.out.lt 0).trans b0; have x1 := (hb5.cellAt wr.heap.size HB4.out.lt 1).trans b1; have x2 := (hb5.cellAt wr.heap.size HB4.out.lt 2).trans b2; have x3 := (hb5.cellAt wr.heap.size HB4.out.lt 3).trans b3; have x4 := (hb5.cellAt wr.heap.size HB4.out.lt 4).trans b4; have D5 := Lib.hid (HBR.out.keep (HE4.out.trans hb5)); have d0 := D5.out.cell 0; have d1 := D5.out.cell 1; have d2 := D5.out.cell 2; have d3 := D5.out.cell 3; have d4 := D5.out.cell 4; have dz : ∀ o, w5.frozen? ⟨w.heap.size, o, none⟩ = false := fun o => D5.out.free o; clear hb5)
                obtain ⟨WF, hWF⟩ : ∃ WF, WF = set5 w5 w.heap.size (.int .i64 (k : Int)) (.int .i64 n0) (.int .i64 n1) (.int .i64 n2) (.int .i64 n3) := ⟨_, rfl⟩
                have FB := set5_blk D5.out (.int .i64 (k : Int)) (.int .i64 n0) (.int .i64 n1) (.int .i64 n2) (.int .i64 n3)
                have FE := set5_ext (HEr.out.trans (HE4.out.trans HB5.out)) (Nat.le_refl _) (.int .i64 (k : Int)) (.int .i64 n0) (.int .i64 n1) (.int .i64 n2) (.int .i64 n3)
                rw [← hWF] at FB FE
                unfold set5 at hWF
                rw [← hWF]
                clear hWF
                have y0 := FB.cell 0
                have y1 := FB.cell 1
                have y2 := FB.cell 2
                have y3 := FB.cell 3
                have y4 := FB.cell 4
                refine bodyPost_ret (v := .tuple #[.agg #[.int .i64 (k : Int), .int .i64 n0, .int .i64 n1, .int .i64 n2, .int .i64 n3], .bool true]) (by simp [results, Tryd.results21, go_sem, y0, y1, y2, y3, y4]) rfl (pa_some (⟨(k : Int), n0, n1, n2, n3⟩ : GAct) HOK.out HO2.out hfin.out FE)
end Go.Proofs.YtcmbjkidgemdaaaDoor
