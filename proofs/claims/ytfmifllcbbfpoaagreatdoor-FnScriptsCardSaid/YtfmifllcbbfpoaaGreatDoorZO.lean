/- Texts of one proof, laid one behind the other (SPd, TB, TU); no condition but what stands at each theorem. -/
import Derived.Test.YtfmifllcbbfpoaaGreatDoorRows
import Derived.Lib.ItoaMem
import Derived.Lib.LaidTab
import Derived.LaidMore
import Derived.LaidSub
import Derived.Test.YtfmifllcbbfpoaaGreatDoorZH
import Derived.Test.YtfmifllcbbfpoaaGreatDoorZK
import Derived.Test.YtfmifllcbbfpoaaGreatDoorZL
import Derived.Test.YtfmifllcbbfpoaaGreatDoorZN
/- RunScript of the program; no condition but what stands at each theorem. -/
namespace Go.Proofs.YtfmifllcbbfpoaaGreatDoor
set_option linter.unusedSimpArgs false
set_option linter.unusedVariables false
open Go.RowKit Go.Sort
theorem sv_sencR (l : List ByteArray) : sv l = l.flatMap senc := by
  induction l with
  | nil => rfl
  | cons a l ih => rw [List.flatMap_cons, ← ih]; rfl
/-- A list of lines, and whether. -/
def ScrPost (x : ByteArray) (w : World) (e : Ending) (w' : World) : Prop :=
  ∃ v, e = .returned (.tuple #[v, .bool (scriptB x)]) ∧ Ext w w' ∧ w'.ownsRow w.heap.size 9 1 v (scriptL x).length (sv (scriptL x))
theorem scr_no {x : ByteArray} {w w' : World} {v : Value} (h : scriptO x = none) (e : Ext w w') (ho : w'.ownsRow w.heap.size 9 1 v 0 []) : ScrPost x w (.returned (.tuple #[v, .bool false])) w' := by
  have h1 : scriptL x = [] := by unfold scriptL; rw [h]
  have h2 : scriptB x = false := by unfold scriptB; rw [h]; rfl
  exact ⟨v, by rw [h2], e, by rw [h1]; exact ho⟩
theorem scr_yes {x : ByteArray} {w w' : World} {v : Value} {acc : List GAct} {n : Nat} (h : scriptO x = some acc) (hn : (outL acc).length = n) (e : Ext w w') (ho : w'.ownsRow w.heap.size 9 1 v n (sv (outL acc))) : ScrPost x w (.returned (.tuple #[v, .bool true])) w' := by
  have h1 : scriptL x = outL acc := by unfold scriptL; rw [h]
  have h2 : scriptB x = true := by unfold scriptB; rw [h]; rfl
  exact ⟨v, by rw [h2], e, by rw [h1, hn]; exact ho⟩
theorem sc_long2 {x : ByteArray} (h : ¬ x.size ≤ 20000) : scriptO x = none := by unfold scriptO; rw [if_neg h]
theorem sc_none {x : ByteArray} (hr : scR (linesB x) [] = none) : scriptO x = none := by
  unfold scriptO
  split
  · rw [hr]; rfl
  · rfl
theorem sc_many {x : ByteArray} {acc : List GAct} (hr : scR (linesB x) [] = some acc) (h : ¬ acc.length ≤ 40) : scriptO x = none := by
  unfold scriptO
  split
  · rw [hr]; show (if acc.length ≤ 40 then some acc else none) = none; rw [if_neg h]
  · rfl
theorem sc_is {x : ByteArray} {acc : List GAct} (hl : x.size ≤ 20000) (hr : scR (linesB x) [] = some acc) (h : acc.length ≤ 40) : scriptO x = some acc := by
  unfold scriptO
  rw [if_pos hl, hr]; show (if acc.length ≤ 40 then some acc else none) = some acc; rw [if_pos h]
theorem lines_bas (x : ByteArray) : linesB x = bas (cuts 10 x.data.toList) := rfl
theorem lines_len {x y : ByteArray} (h : y ∈ linesB x) : y.size ≤ x.size := by
  unfold linesB at h
  obtain ⟨l, hl, rfl⟩ := List.mem_map.1 h
  have := cuts_len 10 x.data.toList l hl
  rw [← toList_size, ← toList_size]
  simpa using this
theorem cuts_count (c : UInt8) : ∀ (L : List UInt8), (cuts c L).length ≤ L.length + 1
  | [] => by simp [cuts]
  | b :: r => by
    have := cuts_count c r
    by_cases h : b = c
    · subst h
      rw [cuts_hit]
      simp only [List.length_cons]
      omega
    · cases hr : cuts c r with
      | nil => exact absurd hr (cuts_ne c r)
      | cons x t =>
        rw [cuts_go h hr]
        rw [hr] at this
        simp only [List.length_cons] at this ⊢
        omega
theorem lines_count (x : ByteArray) : (linesB x).length ≤ x.size + 1 := by
  unfold linesB
  rw [List.length_map, ← toList_size]
  exact cuts_count 10 _
theorem step_blank {xs : List ByteArray} {k : Nat} {y : ByteArray} {acc : List GAct} (hy : xs[k]? = some y) (hb : blankB y = true) : scR (xs.drop k) acc = scR (xs.drop (k + 1)) acc := by
  rw [drop_cons hy, scR, if_pos hb]
theorem step_bad {xs : List ByteArray} {k : Nat} {y : ByteArray} {acc : List GAct} {a : GAct} (hy : xs[k]? = some y) (hb : blankB y = false) (hp : parseA y = (a, false)) : scR (xs.drop k) acc = none := by
  rw [drop_cons hy, scR, if_neg (by rw [hb]; decide), hp]; rfl
theorem step_act {xs : List ByteArray} {k : Nat} {y : ByteArray} {acc : List GAct} {a : GAct} (hy : xs[k]? = some y) (hb : blankB y = false) (hp : parseA y = (a, true)) : scR (xs.drop k) acc = scR (xs.drop (k + 1)) (acc ++ [a]) := by
  rw [drop_cons hy, scR, if_neg (by rw [hb]; decide), hp]; rfl
theorem blank_no {y : ByteArray} (h : spOk y = false) : blankB y = false := by unfold blankB; rw [h]; rfl
theorem blank_is {y : ByteArray} (h : spOk y = true) (n : Nat) (hn : (fieldsOf y).length = n) : blankB y = decide (n = 0) := by unfold blankB; rw [h, hn]; rfl
theorem act_val {m : GMuseum} (h : museumB m = true) (a : GAct) : -1 ≤ actN m a ∧ actN m a ≤ 1000000 := by
  have hb : ∀ b : Bool, -1 ≤ b01 b ∧ b01 b ≤ 1000000 := fun b => by cases b <;> decide
  unfold actN
  repeat' split
  all_goals first | exact hb _ | omega | skip
  rename_i h5
  have hp := (museumB_parts.1 h).2.1
  unfold placesB at hp
  simp only [Bool.and_eq_true] at hp
  have h6 := halls_bd hp.2
  rw [List.getD_eq_getElem?_getD]
  cases hg : m.ps[a.a.toNat]? with
  | none => simp
  | some z =>
    have := h6 z (List.mem_of_getElem? hg)
    simp only [Option.getD_some]
    omega
theorem run_vals : ∀ (acts : List GAct) {m : GMuseum} (l : List Int), museumB m = true → (∀ z ∈ l, -1 ≤ z ∧ z ≤ 1000000) → ∀ z ∈ (runF m acts l).2, -1 ≤ z ∧ z ≤ 1000000
  | [], m, l, _, hl => hl
  | a :: r, m, l, h, hl => run_vals r _ (act_ok h a) (fun z hz => by
    rcases List.mem_append.1 hz with hz | hz
    · exact hl z hz
    · rw [List.mem_singleton] at hz; subst hz; exact act_val h a)
theorem runL_vals (m : GMuseum) (acts : List GAct) : ∀ z ∈ runL m acts, -1 ≤ z ∧ z ≤ 1000000 := by
  unfold runL
  split
  · rename_i h
    unfold runB at h
    simp only [Bool.and_eq_true] at h
    exact run_vals acts [] h.1 (fun z hz => by cases hz)
  · intro z hz; cases hz
theorem runL_lenR (m : GMuseum) (xs : List GAct) : (runL m xs).length ≤ 40 := by
  unfold runL
  split
  · rename_i h
    unfold runB at h
    simp only [Bool.and_eq_true, decide_eq_true_eq] at h
    rw [run_len]
    simpa using h.2
  · simp
theorem fmtL_lenR (m : GMuseum) : (fmtL m).length ≤ 33 := by
  unfold fmtL
  split
  · rename_i h
    have := sealed_len (museumB_parts.1 h).2.2.2.2.2.2.1
    simp; omega
  · simp
theorem sv_app (a b : List ByteArray) : sv (a ++ b) = sv a ++ sv b := by simp [sv]
theorem one_GActR (x : GAct) : ∀ u ∈ x.enc, u.oneCell' = true := by
  intro u hu
  simp [GAct.enc] at hu
  rcases hu with rfl | rfl | rfl | rfl | rfl <;> rfl
theorem ei_ActR : EI Tryz.prog 31 37 5 := ei_of Tryz.underlying31 (by omega) (by kernel_rfl)
theorem one_senc (l : List ByteArray) : ∀ u ∈ sv l, u.oneCell' = true := by
  intro u hu
  obtain ⟨s, _, rfl⟩ := List.mem_map.1 hu
  rfl
theorem own_nilS {w : World} {base : Nat} {e : TypeId} {m n n' c : Nat} {A : Option Addr} {L : List Value} (h : w.ownsRow base e m (.slice A n' c) n L) : A = none → c = 0 := own_nilM h
set_option maxRecDepth 100000 in
set_option maxHeartbeats 4000000 in
theorem impl_RunScript (x : ByteArray) (w : World) (hx : x.size ≤ 1048576) (htab : Hid (Lib.TabIs Tryz.prog w "internal/strconv.uint64pow10" .u64 Lib.pow10Tab)) (hM : Hid (∃ k, w.cell? ⟨0, 0, none⟩ = some (.int .i64 k))) :
    Calls Tryz.prog 31 #[.string x] w (ScrPost x w) := by
  by_cases hlen : x.size ≤ 20000
  case neg =>
    have HF := Lib.hid (sc_long2 hlen)
    have hl2 : (20000 : Int) < (x.size : Int) := by omega
    clear hlen
    go_enter Tryz.func31, Tryz.ntmps31
    go_wp2_with fail
    go_ret2
    exact scr_no HF.out (Ext.refl _) (World.ownsRow_nil _ _ _ _)
  have hl2 : ¬ (20000 : Int) < (x.size : Int) := by omega
  have Hlen := Lib.hid hlen
  obtain ⟨wa, hwa⟩ : ∃ wa, wa = w.alloc (.cells #[] 37) := ⟨_, rfl⟩
  have hEa : Ext w wa := by rw [hwa]; exact (Ext.refl w).alloc _
  have hsa : wa.heap.size = w.heap.size + 1 := by rw [hwa]; simp
  have HOa : Hid (wa.ownsRow w.heap.size 37 5 (.slice (some ⟨w.heap.size, 0, none⟩) 0 0) 0 []) := Lib.hid (by rw [hwa]; exact own_empty w w.heap.size 37 5 (Nat.le_refl _))
  have Hwa := Lib.hid hwa
  have HEa := Lib.hid hEa
  have HTB := Lib.hid (tab_ext htab.out hEa)
  have HMX := Lib.hid (max_ext hM.out hEa)
  obtain ⟨mm, hm1⟩ := HMX.out
  have cS := Lib.hid (Tryz.strings_Split x ⟨#[10]⟩ mm wa (by omega) hm1 (by decide))
  clear hwa hEa hlen hm1
  go_enter Tryz.func31, Tryz.ntmps31
  go_wp2_with fail
  rw [← Hwa.out]
  refine cS.out.mono ?_
  rintro e w1 ⟨rfl, hw1⟩
  have hbs := bas_of (splitB_cuts 10 x)
  have hfn : Lib.countB x ⟨#[10]⟩ + 1 = (linesB x).length := by rw [← Lib.splitB_all ⟨#[10]⟩ (by decide) 0 _ x rfl, hbs, lines_bas]
  rw [hfn]
  rw [hbs, ← lines_bas] at hw1
  have hb1 : Ext wa w1 := by rw [hw1]; exact (Ext.refl _).alloc _
  obtain ⟨LC, hLC⟩ : ∃ LC : Array Value, LC = (sv (linesB x)).toArray := ⟨_, rfl⟩
  have hL1 : Blk w1 wa.heap.size 9 LC := by rw [hw1, hLC]; exact Blk.new _ _ _
  obtain ⟨gl, hgl⟩ : ∃ gl, gl = wa.heap.size := ⟨_, rfl⟩
  have hglw : gl = w.heap.size + 1 := by omega
  rw [← hgl] at hL1 ⊢
  have HL1 := Lib.hid hL1
  have HLC := Lib.hid hLC
  have HGL := Lib.hid hglw
  clear hgl hL1 hLC hglw
  obtain ⟨n, hn⟩ : ∃ n, n = (linesB x).length := ⟨_, rfl⟩
  have HN := Lib.hid hn
  rw [← hn]
  have HE1 := Lib.hid hb1
  have HO1 := Lib.hid (own_keep HOa.out hb1)
  have hnb : n ≤ 20001 := by (have := lines_count x; have := HN.out; have := Hlen.out; omega)
  have HE1w := Lib.hid (HEa.out.trans hb1)
  clear hn hw1 hb1 hbs hfn cS
  have cSp := Lib.hid (fun y W (h : y.size ≤ 1048576) => impl_SplitFields y W h)
  go_wp2_with fail
  go_loopw [4, 23] (fun o i wr => ∃ (k : Nat) (acc : List GAct), k ≤ n ∧ i = .int .i64 k ∧ acc.length ≤ k ∧ Hid (scR (linesB x) [] = scR ((linesB x).drop k) acc) ∧ Hid (wr.ownsRow w.heap.size 37 5 o acc.length (acc.flatMap GAct.enc)) ∧ Hid (Blk wr gl 9 LC) ∧ Hid (∀ g, o.ownBlock = some g → g ≠ gl) ∧ Hid (Ext w wr)) (fun _ i _ => n - (intOf i).toNat)
  case atStart => exact ⟨0, [], Nat.zero_le _, rfl, Nat.le_refl _, by unfold Hid; rw [List.drop_zero], HO1, HL1, Lib.hid (fun g hg => (by have e : w.heap.size = g := (by simpa [Value.ownBlock] using hg); have := HGL.out; omega)), HE1w⟩
  case round =>
    obtain ⟨k, acc, hk, rfl, hak, hz, hown, hL, hpo, hb⟩ := hrel
    by_cases hlt : k < n
    · obtain ⟨y, hyk0⟩ : ∃ y, (linesB x)[k]? = some y := ⟨_, List.getElem?_eq_getElem (by rw [← HN.out]; exact hlt)⟩
      have p0 : wr.cell? ⟨gl, k, none⟩ = some (.string y) := by rw [hL.out.cell, HLC.out]; simp [sv, hyk0]
      have hyk := Lib.hid hyk0
      have hys : y.size ≤ 1048576 := by (have := lines_len (List.mem_of_getElem? hyk0); omega)
      have cPA := Lib.hid (fun W (he : Ext w W) => impl_ParseAct y W hys (Lib.hid (tab_ext htab.out he)))
      have cSp := Lib.hid (impl_SplitFields y wr hys)
      clear hyk0
      go_wp2_with (go_at_call 74; refine (fun h : Hid _ => h.out) ?_)
      unfold Hid
      refine cSp.out.mono ?_
      rintro e w2 ⟨v, rfl, he2, hv⟩
      have HE2 := Lib.hid (hb.out.trans he2)
      have HL2 := Lib.hid (hL.out.keep he2)
      have HO2 := Lib.hid (own_keep hown.out he2)
      clear he2 p0
      cases hsp : spOk y
      case false =>
        have HNB := Lib.hid (blank_no hsp)
        clear hsp hv
        go_wp2_with (go_at_call 75; refine (fun h : Hid _ => h.out) ?_)
        unfold Hid
        refine (cPA.out w2 HE2.out).mono ?_
        rintro e w3 ⟨a, pb, rfl, he3, hpa⟩
        have hpe := parseA_of hpa
        obtain ⟨w4, hw4⟩ : ∃ w4, w4 = w3.alloc (.cells #[.int .i64 a.k, .int .i64 a.a, .int .i64 a.b, .int .i64 a.c, .int .i64 a.d] 37) := ⟨_, rfl⟩
        have he34 : Ext w2 w4 := by rw [hw4]; exact he3.alloc _
        have HE4 := Lib.hid (HE2.out.trans he34)
        have HO4 := Lib.hid (own_keep HO2.out he34)
        have HL4 := Lib.hid (HL2.out.keep he34)
        have HW4 := Lib.hid hw4
        clear he3 he34 hpa hw4
        cases pb
        case false =>
          have HF := Lib.hid (sc_none (x := x) (by rw [hz.out]; exact step_bad hyk.out HNB.out hpe))
          clear hpe
          go_wp2_with fail
          rw [← HW4.out]
          go_ret2
          exact scr_no HF.out HE4.out (World.ownsRow_nil _ _ _ _)
        case true =>
          have HZ : Hid (scR (linesB x) [] = scR ((linesB x).drop (k + 1)) (acc ++ [a])) := Lib.hid (by rw [hz.out]; exact step_act hyk.out HNB.out hpe)
          clear hpe
          go_wp2_with (at_builtin; refine (fun h : Hid _ => h.out) ?_)
          unfold Hid
          rw [← HW4.out]
          refine append1W ei_ActR rfl _ _ rfl w.heap.size w4 _ _ acc.length _ (by rfl) HO4.out a.enc (by rw [HW4.out, heap_size_allocN]; rfl) rfl (one_GActR a) (by omega) HE4.out.size ?_
          intro v' w5 ho5 hg5 hv5
          have HO5 := Lib.hid ho5
          have HL5 : Hid (Blk w5 gl 9 LC) := Lib.hid ((hg5.block gl HL4.out.lt (fun e => hpo.out _ e.symm rfl)).trans HL4.out)
          have HE5 := Lib.hid (HE4.out.grown hg5 (fun g hg => (HO4.out.lt g hg).1))
          have HP5 : Hid (∀ g, v'.ownBlock = some g → g ≠ gl) := Lib.hid (fun g hg => by
            rcases hv5 g hg with h | h
            · exact hpo.out g h
            · have := HL4.out.lt; omega)
          clear ho5 hg5 hv5
          go_wp2_with fail
          go_roundw
          case rel => exact ⟨k + 1, acc ++ [a], by omega, by go_num, by simp; omega, HZ, by unfold Hid; rw [List.length_append, List.flatMap_append]; simpa using HO5.out, HL5, HP5, HE5⟩
          case measure => simp [intOf]; omega
      case true =>
        have hv1 := hv hsp
        obtain ⟨Av, cv, rfl, -⟩ := own_form hv1
        obtain ⟨nf, hnf⟩ : ∃ nf, nf = (fieldsOf y).length := ⟨_, rfl⟩
        have HBl := Lib.hid (blank_is hsp nf hnf.symm)
        rw [← hnf]
        clear hv hv1 hsp hnf
        by_cases h0 : nf = 0
        case pos =>
          have f0 : ((nf : Int) == 0) = true := by simp [h0]
          have HZ : Hid (scR (linesB x) [] = scR ((linesB x).drop (k + 1)) acc) := Lib.hid (by rw [hz.out]; exact step_blank hyk.out (by rw [HBl.out, decide_eq_true h0]))
          clear h0
          go_wp2_with fail
          go_roundw
          case rel => exact ⟨k + 1, acc, by omega, by go_num, by omega, HZ, HO2, HL2, hpo, HE2⟩
          case measure => simp [intOf]; omega
        case neg =>
          have f0 : ((nf : Int) == 0) = false := by rw [beq_eq_false_iff_ne]; omega
          have HNB := Lib.hid (HBl.out.trans (decide_eq_false h0))
          clear h0
          go_wp2_with (go_at_call 75; refine (fun h : Hid _ => h.out) ?_)
          unfold Hid
          refine (cPA.out w2 HE2.out).mono ?_
          rintro e w3 ⟨a, pb, rfl, he3, hpa⟩
          have hpe := parseA_of hpa
          obtain ⟨w4, hw4⟩ : ∃ w4, w4 = w3.alloc (.cells #[.int .i64 a.k, .int .i64 a.a, .int .i64 a.b, .int .i64 a.c, .int .i64 a.d] 37) := ⟨_, rfl⟩
          have he34 : Ext w2 w4 := by rw [hw4]; exact he3.alloc _
          have HE4 := Lib.hid (HE2.out.trans he34)
          have HO4 := Lib.hid (own_keep HO2.out he34)
          have HL4 := Lib.hid (HL2.out.keep he34)
          have HW4 := Lib.hid hw4
          clear he3 he34 hpa hw4
          cases pb
          case false =>
            have HF := Lib.hid (sc_none (x := x) (by rw [hz.out]; exact step_bad hyk.out HNB.out hpe))
            clear hpe
            go_wp2_with fail
            rw [← HW4.out]
            go_ret2
            exact scr_no HF.out HE4.out (World.ownsRow_nil _ _ _ _)
          case true =>
            have HZ : Hid (scR (linesB x) [] = scR ((linesB x).drop (k + 1)) (acc ++ [a])) := Lib.hid (by rw [hz.out]; exact step_act hyk.out HNB.out hpe)
            clear hpe
            go_wp2_with (at_builtin; refine (fun h : Hid _ => h.out) ?_)
            unfold Hid
            rw [← HW4.out]
            refine append1W ei_ActR rfl _ _ rfl w.heap.size w4 _ _ acc.length _ (by rfl) HO4.out a.enc (by rw [HW4.out, heap_size_allocN]; rfl) rfl (one_GActR a) (by omega) HE4.out.size ?_
            intro v' w5 ho5 hg5 hv5
            have HO5 := Lib.hid ho5
            have HL5 : Hid (Blk w5 gl 9 LC) := Lib.hid ((hg5.block gl HL4.out.lt (fun e => hpo.out _ e.symm rfl)).trans HL4.out)
            have HE5 := Lib.hid (HE4.out.grown hg5 (fun g hg => (HO4.out.lt g hg).1))
            have HP5 : Hid (∀ g, v'.ownBlock = some g → g ≠ gl) := Lib.hid (fun g hg => by
              rcases hv5 g hg with h | h
              · exact hpo.out g h
              · have := HL4.out.lt; omega)
            clear ho5 hg5 hv5
            go_wp2_with fail
            go_roundw
            case rel => exact ⟨k + 1, acc ++ [a], by omega, by go_num, by simp; omega, HZ, by unfold Hid; rw [List.length_append, List.flatMap_append]; simpa using HO5.out, HL5, HP5, HE5⟩
            case measure => simp [intOf]; omega
    · obtain rfl : n = k := by omega
      have HS : Hid (scR (linesB x) [] = some acc) := Lib.hid (by rw [hz.out, drop_nil (by rw [← HN.out]; omega)]; rfl)
      by_cases h40 : acc.length ≤ 40
      case neg =>
        have HF := Lib.hid (sc_many HS.out h40)
        have h40' : (40 : Int) < (acc.length : Int) := by omega
        obtain ⟨Ao, co, rfl, -⟩ := own_form hown.out
        clear h40
        go_wp2_with fail
        go_ret2
        exact scr_no HF.out hb.out (World.ownsRow_nil _ _ _ _)
      have HF := Lib.hid (sc_is Hlen.out HS.out h40)
      have h40' : ¬ (40 : Int) < (acc.length : Int) := by omega
      obtain ⟨Ao, co, rfl, -⟩ := own_form hown.out
      clear h40
      go_wp2_with (go_at_call 27; refine (fun h : Hid _ => h.out) ?_)
      unfold Hid
      refine (impl_SampleMuseum wr).mono ?_
      rintro e w2 ⟨v1, rfl, he2, ho2⟩
      have HE2 := Lib.hid (hb.out.trans he2)
      have cR := Lib.hid (impl_RunActs v1 sampleM Ao acc.length co acc w2 ho2.rd (sample_fit ho2) (Rd.of_own (own_keep hown.out he2)) (Lib.hid (max_ext hM.out HE2.out)))
      clear he2 ho2
      go_wp2_with (go_at_call 26; refine (fun h : Hid _ => h.out) ?_)
      unfold Hid
      refine cR.out.mono ?_
      rintro e w3 ⟨v2, o2, hev, he3, hm3, ho3, -, -⟩
      obtain ⟨Hh2, ⟨A02, n02, c02⟩, ⟨A12, n12, c12⟩, ⟨A22, n22, c22⟩, ⟨A32, n32, c32⟩, day2, ⟨A42, n42, c42⟩⟩ := v2
      simp only [MV.val, MV.cells] at hev
      subst hev
      have hvals := Lib.hid (runL_vals sampleM acc)
      obtain ⟨NL, hNL⟩ : ∃ NL, NL = runL sampleM acc := ⟨_, rfl⟩
      rw [← hNL] at ho3 hvals
      have HNL := Lib.hid hNL
      clear hNL
      have hNL40 : NL.length ≤ 40 := by (have := runL_lenR sampleM acc; rw [← HNL.out] at this; exact this)
      obtain ⟨Aq, cq, rfl, -⟩ := own_form ho3
      obtain ⟨w4, hw4⟩ : ∃ w4, w4 = w3.alloc (.cells #[.int .i64 Hh2, .slice A02 n02 c02, .slice A12 n12 c12, .slice A22 n22 c22, .slice A32 n32 c32, .int .i64 day2, .slice A42 n42 c42] 30) := ⟨_, rfl⟩
      have he4 : Ext w3 w4 := by rw [hw4]; exact (Ext.refl _).alloc _
      have HB4 : Hid (Blk w4 w3.heap.size 30 #[.int .i64 Hh2, .slice A02 n02 c02, .slice A12 n12 c12, .slice A22 n22 c22, .slice A32 n32 c32, .int .i64 day2, .slice A42 n42 c42]) := Lib.hid (by rw [hw4]; exact Blk.new _ _ _)
      have HM4 := Lib.hid (hm3.rd.keep he4)
      have HN4 := Lib.hid ((Rd.of_own ho3).keep he4)
      have hnl := HN4.out.2.1
      obtain ⟨w5, hw5⟩ : ∃ w5, w5 = w4.alloc (.cells #[] 9) := ⟨_, rfl⟩
      have he5 : Ext w4 w5 := by rw [hw5]; exact (Ext.refl _).alloc _
      have HE4 := Lib.hid (HE2.out.trans (he3.trans he4))
      have HE45 := Lib.hid he5
      have hw34 : w4.heap.size = w3.heap.size + 1 := by rw [hw4]; simp
      have HO5 : Hid (w5.ownsRow w4.heap.size 9 1 (.slice (some ⟨w3.heap.size + 1, 0, none⟩) 0 0) 0 []) := Lib.hid (by rw [← hw34, hw5]; exact own_empty w4 w4.heap.size 9 1 (Nat.le_refl _))
      have HW5 : Hid (w5 = (w3.alloc (.cells #[.int .i64 Hh2, .slice A02 n02 c02, .slice A12 n12 c12, .slice A22 n22 c22, .slice A32 n32 c32, .int .i64 day2, .slice A42 n42 c42] 30)).alloc (.cells #[] 9)) := Lib.hid (by rw [hw5, hw4])
      clear hw4 hw5 he3 he4 he5 hm3 ho3 hw34
      go_wp2_with fail
      rw [← HW5.out]
      go_loopw [13, 62] (fun o i wr => ∃ (k : Nat), k ≤ NL.length ∧ i = .int .i64 k ∧ Hid (wr.ownsRow w4.heap.size 9 1 o k (sv ((NL.take k).map itext))) ∧ Hid (Ext w4 wr)) (fun _ i _ => NL.length - (intOf i).toNat)
      case atStart => exact ⟨0, Nat.zero_le _, rfl, HO5, HE45⟩
      case round =>
        obtain ⟨k, hk, rfl, hown2, hb2⟩ := hrel
        by_cases hlt : k < NL.length
        · obtain ⟨bq, oq, z, hAq, hbq, hzk, p0⟩ := ienc_at (HN4.out.keep hb2.out) hlt
          subst hAq
          obtain ⟨hz0, hz1⟩ := hvals.out z (List.mem_of_getElem? hzk)
          have HT : Hid (sv ((NL.take (k + 1)).map itext) = sv ((NL.take k).map itext) ++ [.string (itext z)]) := Lib.hid (by rw [take_snoc hzk, List.map_append]; exact sv_snoc _ _)
          have hF := Lib.hid (impl_FormatInt z (by omega) (by omega) wr (Lib.hid (tab_ext htab.out (HE4.out.trans hb2.out))))
          obtain ⟨T, hTT⟩ : ∃ T, T = itext z := ⟨_, rfl⟩
          rw [← hTT] at HT hF
          clear hzk hTT
          go_wp2_with (go_at_call 32; refine (fun h : Hid _ => h.out) ?_)
          unfold Hid
          refine hF.out.mono ?_
          rintro e w6 ⟨rfl, he6⟩
          have HE6 := Lib.hid (hb2.out.trans he6)
          have HO6 := Lib.hid (own_keep hown2.out he6)
          clear he6 p0
          go_wp2_with (at_builtin; refine (fun h : Hid _ => h.out) ?_)
          unfold Hid
          refine append1 ei_SF rfl _ _ rfl w4.heap.size w6 _ _ k _ (by rfl) HO6.out [.string T] (by rfl) rfl (one_strF _) (by omega) HE6.out.size ?_
          intro v' w7 ho7 he7
          have HO7 := Lib.hid ho7
          have HE7 := Lib.hid (he7 w4 HE6.out (Nat.le_refl _))
          clear ho7 he7
          go_wp2_with fail
          go_roundw
          case rel => exact ⟨k + 1, by omega, by go_num, by unfold Hid; rw [HT.out]; exact HO7.out, HE7⟩
          case measure => simp [intOf]; omega
        · obtain ⟨kk, hkk⟩ : ∃ kk, kk = NL.length := ⟨_, rfl⟩
          obtain rfl : kk = k := by omega
          rw [List.take_of_length_le (by omega)] at hown2
          have HKK := Lib.hid hkk
          have hl40 : kk ≤ 40 := by omega
          have hb3 := HB4.out.keep hb2.out
          have y0 := hb3.cellAt (i := 0) (by simp)
          have y1 := hb3.cellAt (i := 1) (by simp)
          have y2 := hb3.cellAt (i := 2) (by simp)
          have y3 := hb3.cellAt (i := 3) (by simp)
          have y4 := hb3.cellAt (i := 4) (by simp)
          have y5 := hb3.cellAt (i := 5) (by simp)
          have y6 := hb3.cellAt (i := 6) (by simp)
          simp at y0 y1 y2 y3 y4 y5 y6
          have cF := Lib.hid (impl_FormatMuseum _ (runM sampleM acc) wr (HM4.out.keep hb2.out) (Lib.hid (tab_ext htab.out (HE4.out.trans hb2.out))))
          have hf33 := fmtL_lenR (runM sampleM acc)
          clear hkk hb3
          go_wp2_with (go_at_call 33; refine (fun h : Hid _ => h.out) ?_)
          unfold Hid
          refine cF.out.mono ?_
          rintro e w6 ⟨vf, rfl, he6, hof⟩
          obtain ⟨Af, cf, rfl, -⟩ := own_form hof
          have HE6 := Lib.hid (hb2.out.trans he6)
          have HO6 := Lib.hid (own_keep hown2.out he6)
          have HOF := Lib.hid hof
          clear he6 hof y0 y1 y2 y3 y4 y5 y6
          go_wp2_with (at_builtin; refine (fun h : Hid _ => h.out) ?_)
          unfold Hid
          refine appendRd ei_SF rfl _ _ rfl w4.heap.size w6 _ kk _ (by rfl) HO6.out Af (fmtL (runM sampleM acc)).length cf (sv (fmtL (runM sampleM acc))) (by rfl) (Rd.of_own HOF.out) (own_nilS HOF.out) (one_senc _) (by omega) HE6.out.size ?_
          intro v' w7 ho7 he7
          have HO7 := Lib.hid ho7
          have HE7 := Lib.hid (he7 w4 HE6.out (Nat.le_refl _))
          clear ho7 he7
          go_wp2_with fail
          go_ret2
          refine scr_yes HF.out (n := kk + (fmtL (runM sampleM acc)).length) (by unfold outL; rw [List.length_append, List.length_map, HKK.out, HNL.out]) (HE4.out.trans HE7.out) (own_weak (base := w4.heap.size) ?_ HE4.out.size)
          unfold outL
          rw [sv_app, ← HNL.out]
          exact HO7.out
end Go.Proofs.YtfmifllcbbfpoaaGreatDoor
/- What a row that lists the tables gives: the powers of ten stand; no condition. -/
namespace Go.Proofs.YtfmifllcbbfpoaaGreatDoor
set_option linter.unusedSimpArgs false
set_option linter.unusedVariables false
open Go.RowKit
theorem tab_laid {W : World} (h : laidMetH Tryz.prog [("math/bits.deBruijn32tab", Rows.laid_math_bits_deBruijn32tab), ("math/bits.deBruijn64tab", Rows.laid_math_bits_deBruijn64tab), ("internal/strconv.uint64pow10", Rows.laid_internal_strconv_uint64pow10)] W) :
    Lib.TabIs Tryz.prog W "internal/strconv.uint64pow10" .u64 Lib.pow10Tab := by
  rw [MakeChecks.laidMetH_plain _ _ _ (by kernel_rfl)] at h
  obtain ⟨ps, ⟨g0, t0, cs0, f0, p0, q0, hg0, ht0, hv0, hd0, ⟨g1, t1, cs1, f1, p1, q1, hg1, ht1, hv1, hd1, ⟨g2, t2, cs2, f2, p2, q2, hg2, ht2, hv2, hd2, _, _⟩, _⟩, _⟩, _, _⟩ := h
  have hgt : (Tryz.prog.globals[g2]?).map (·.type) = some 156 := by
    have : (Tryz.prog.globalNamed "internal/strconv.uint64pow10").bind (fun g => (Tryz.prog.globals[g]?).map (·.type)) = some 156 := by kernel_rfl
    rw [hg2] at this
    exact this
  obtain rfl := Option.some.inj (hgt.symm.trans ht2)
  rw [show (Rows.laid_internal_strconv_uint64pow10 : DataW Unit) = Lib.tabData .u64 Lib.pow10Tab by kernel_rfl] at hd2
  unfold Lib.TabIs
  rw [hv2, ← Lib.cells_of_tab (n := 20) Tryz.underlying156 Tryz.underlying145 (by kernel_rfl) (by kernel_rfl) hd2]
end Go.Proofs.YtfmifllcbbfpoaaGreatDoor
/- What a row that lists five tables gives: the powers of ten stand; no condition. -/
namespace Go.Proofs.YtfmifllcbbfpoaaGreatDoor
set_option linter.unusedSimpArgs false
set_option linter.unusedVariables false
open Go.RowKit
theorem tab_laid5 {W : World} (h : laidMetH Tryz.prog [("math/bits.deBruijn32tab", Rows.laid_math_bits_deBruijn32tab), ("math/bits.deBruijn64tab", Rows.laid_math_bits_deBruijn64tab), ("internal/strconv.uint64pow10", Rows.laid_internal_strconv_uint64pow10), ("unicode/utf8.acceptRanges", Rows.laid_unicode_utf8_acceptRanges), ("unicode/utf8.first", Rows.laid_unicode_utf8_first)] W) :
    Lib.TabIs Tryz.prog W "internal/strconv.uint64pow10" .u64 Lib.pow10Tab := by
  have h2 := h.filter (fun x => ["math/bits.deBruijn32tab", "math/bits.deBruijn64tab", "internal/strconv.uint64pow10"].contains x.1)
  exact tab_laid h2
end Go.Proofs.YtfmifllcbbfpoaaGreatDoor
