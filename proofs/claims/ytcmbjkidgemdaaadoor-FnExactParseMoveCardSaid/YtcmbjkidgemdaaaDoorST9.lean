/- SplitFields of both sides; no condition but what stands at each theorem. -/
import Derived.Test.YtcmbjkidgemdaaaDoorST7
import Derived.Test.YtcmbjkidgemdaaaDoorST3
namespace Go.Proofs.YtcmbjkidgemdaaaDoor
set_option linter.unusedSimpArgs false
set_option linter.unusedVariables false
open Go.RowKit Go.Sort
/-- The words of a list that is closed by a blank; the first word goes on from what was read. -/
def wds : List UInt8 → List UInt8 → List (List UInt8)
  | _, [] => []
  | cur, b :: r => if b = 32 then (if cur = [] then wds [] r else cur :: wds [] r) else wds (cur ++ [b]) r
def fieldsOf (x : ByteArray) : List (List UInt8) := wds [] (x.data.toList ++ [32])
def prB (x : ByteArray) : Bool := x.data.toList.all fun b => decide (32 ≤ b.toNat) && decide (b.toNat ≤ 126)
def spOk (x : ByteArray) : Bool := (decide (x.size ≤ 600) && prB x) && decide ((fieldsOf x).length ≤ 24)
def sval (W : List (List UInt8)) : List Value := W.map fun l => .string ⟨l.toArray⟩
def SplitPost (x : ByteArray) (w : World) (e : Ending) (w' : World) : Prop :=
  ∃ v, e = .returned (.tuple #[v, .bool (spOk x)]) ∧ Ext w w' ∧ (spOk x = true → w'.ownsRow w.heap.size 9 1 v (fieldsOf x).length (sval (fieldsOf x)))
theorem wd_nil (cur : List UInt8) : wds cur [] = [] := rfl
theorem wd_ne {b : UInt8} (h : b ≠ 32) (cur r : List UInt8) : wds cur (b :: r) = wds (cur ++ [b]) r := by rw [wds, if_neg h]
theorem wd_e (r : List UInt8) : wds [] (32 :: r) = wds [] r := by rw [wds, if_pos rfl, if_pos rfl]
theorem wd_n {cur : List UInt8} (h : cur ≠ []) (r : List UInt8) : wds cur (32 :: r) = cur :: wds [] r := by rw [wds, if_pos rfl, if_neg h]
theorem cur_snoc {L : List UInt8} {s k : Nat} {b : UInt8} (h : L[k]? = some b) (hs : s ≤ k) : (L.drop s).take (k - s) ++ [b] = (L.drop s).take (k + 1 - s) := by
  rw [show k + 1 - s = (k - s) + 1 by omega, List.take_add_one, List.getElem?_drop, show s + (k - s) = k by omega, h]; rfl
theorem cur_ne {L : List UInt8} {s k : Nat} (hs : s < k) (hk : k ≤ L.length) : (L.drop s).take (k - s) ≠ [] := by
  intro h
  have := congrArg List.length h
  rw [List.length_take, List.length_drop] at this
  simp at this; omega
theorem cur_nil (L : List UInt8) (k : Nat) : (L.drop k).take (k - k) = [] := by simp
theorem ext_bs (x : ByteArray) (s k : Nat) : x.extract s k = ⟨((x.data.toList.drop s).take (k - s)).toArray⟩ := by
  have := ByteArray.extract_mk x.data.toList s k
  simpa using this
theorem dropB {L : List UInt8} {k : Nat} {b : UInt8} (h : L[k]? = some b) : (L ++ [32]).drop k = b :: (L ++ [32]).drop (k + 1) :=
  drop_cons (by rw [List.getElem?_append_left (List.getElem?_eq_some_iff.1 h).1]; exact h)
theorem dropE (L : List UInt8) : (L ++ [32]).drop L.length = 32 :: (L ++ [32]).drop (L.length + 1) :=
  drop_cons (by simp)
theorem sval_snoc (W : List (List UInt8)) (l : List UInt8) : sval (W ++ [l]) = sval W ++ [.string ⟨l.toArray⟩] := by simp [sval]
theorem toList_size (x : ByteArray) : x.data.toList.length = x.size := by rw [Array.length_toList]; rfl
theorem sp_long {x : ByteArray} (h : 600 < x.size) : spOk x = false := by
  unfold spOk; rw [show decide (x.size ≤ 600) = false by simp; omega]; rfl
theorem sp_many {x : ByteArray} (h : 24 < (fieldsOf x).length) : spOk x = false := by
  unfold spOk; rw [show decide ((fieldsOf x).length ≤ 24) = false by simp; omega, Bool.and_false]
theorem sp_bad {x : ByteArray} {k : Nat} (hk : k < x.size) (h : x[k].toNat < 32 ∨ 126 < x[k].toNat) : spOk x = false := by
  have hp : prB x = false := by
    rw [Bool.eq_false_iff]
    intro ha
    unfold prB at ha
    rw [List.all_eq_true] at ha
    have := ha x[k] (List.mem_of_getElem? (byte_at x k hk))
    simp at this
    omega
  unfold spOk; rw [hp, Bool.and_false]; rfl
theorem sp_good {x : ByteArray} (h : x.size ≤ 600) (hp : ∀ k (hk : k < x.size), ¬ (x[k].toNat < 32 ∨ 126 < x[k].toNat)) (hn : (fieldsOf x).length ≤ 24) : spOk x = true := by
  have h1 : prB x = true := by
    unfold prB
    rw [List.all_eq_true]
    intro b hb
    obtain ⟨k, hk⟩ := List.getElem?_of_mem hb
    have hl : k < x.size := by rw [← toList_size]; exact (List.getElem?_eq_some_iff.1 hk).1
    rw [byte_at x k hl] at hk
    have := hp k hl
    injection hk with hk
    subst hk
    simp; omega
  unfold spOk; rw [h1]; simp; omega
set_option maxRecDepth 100000 in
set_option maxHeartbeats 4000000 in
theorem spec_SplitFields (x : ByteArray) (w : World) (hx : x.size ≤ 1048576) : Calls Tryd.prog 42 #[.string x] w (SplitPost x w) := by
  have Hbad := Lib.hid (fun (v : Value) (w' : World) (e : Ext w w') (h : spOk x = false) => (show SplitPost x w (.returned (.tuple #[v, .bool false])) w' from ⟨v, by rw [h], e, fun h' => by rw [h] at h'; cases h'⟩))
  have Ho0 := Lib.hid (own_empty w w.heap.size 9 1 (Nat.le_refl _))
  by_cases h600 : 600 < x.size
  · have h600i : (600 : Int) < x.size := by omega
    have HN := Lib.hid (sp_long h600)
    go_enter Tryd.func42, Tryd.ntmps42
    go_wp2_with fail
    exact bodyPost_ret (v := .tuple #[.slice (some ⟨w.heap.size, 0, none⟩) 0 0, .bool false]) (by simp [results, Tryd.results42, go_sem, *]) rfl (Hbad.out _ _ ((Ext.refl w).alloc _) HN.out)
  have h600i : (x.size : Int) ≤ 600 := by omega
  obtain ⟨L, hL⟩ : ∃ L, L = x.data.toList := ⟨_, rfl⟩
  have HL := Lib.hid hL
  have hLl : L.length = x.size := by rw [hL]; exact toList_size x
  clear hL
  go_enter Tryd.func42, Tryd.ntmps42
  go_wp2_with fail
  go_loopw [4, 5, 6] (fun v st i wr => ∃ (k s : Nat) (W : List (List UInt8)), k ≤ x.size + 1 ∧ s ≤ k ∧ i = .int .i64 k ∧ st = .int .i64 s ∧ Hid (wr.ownsRow w.heap.size 9 1 v W.length (sval W)) ∧ W.length ≤ k ∧ Hid (wds [] (L ++ [32]) = W ++ wds ((L.drop s).take (k - s)) ((L ++ [32]).drop k)) ∧ Hid (∀ j (hj : j < x.size), j < k → ¬ (x[j].toNat < 32 ∨ 126 < x[j].toNat)) ∧ Ext w wr) (fun _ _ i _ => x.size + 1 - (intOf i).toNat)
  case atStart => exact ⟨0, 0, [], by omega, Nat.le_refl _, rfl, rfl, Ho0, Nat.le_refl _, rfl, Lib.hid (fun j _ h => absurd h (by omega)), (Ext.refl _).alloc _⟩
  case round =>
    obtain ⟨k, s, W, hk, hs, rfl, rfl, hown, hWl, hz, hpr, hb⟩ := hrel
    have HB := Lib.hid hb
    have hsw := hb.size
    clear hb
    obtain ⟨A, c', rfl, hnc⟩ := own_form hown.out
    by_cases hle : k ≤ x.size
    · by_cases hlt : k < x.size
      · have hlti : (k : Int) < x.size := by omega
        have hLk : L[k]? = some x[k] := by rw [HL.out]; exact byte_at x k hlt
        by_cases hbad : x[k].toNat < 32 ∨ 126 < x[k].toNat
        · have HN := Lib.hid (sp_bad hlt hbad)
          rcases hbad with hd | hd
          · go_wp2_with fail
            exact bodyPost_ret (v := .tuple #[.slice (some ⟨wr.heap.size, 0, none⟩) 0 0, .bool false]) (by simp [results, Tryd.results42, go_sem, *]) rfl (Hbad.out _ _ (HB.out.alloc _) HN.out)
          · have hd2 : ¬ x[k].toNat < 32 := by omega
            go_wp2_with fail
            exact bodyPost_ret (v := .tuple #[.slice (some ⟨wr.heap.size, 0, none⟩) 0 0, .bool false]) (by simp [results, Tryd.results42, go_sem, *]) rfl (Hbad.out _ _ (HB.out.alloc _) HN.out)
        · have HPR : Hid (∀ j (hj : j < x.size), j < k + 1 → ¬ (x[j].toNat < 32 ∨ 126 < x[j].toNat)) := fun j hj h => by
            by_cases h2 : j < k
            · exact hpr.out j hj h2
            · obtain rfl : j = k := by omega
              exact hbad
          have hd1 : ¬ x[k].toNat < 32 := by omega
          have hd2 : ¬ 126 < x[k].toNat := by omega
          by_cases h32 : x[k].toNat = 32
          · have hb32 : x[k] = 32 := UInt8.toNat_inj.1 h32
            have h32i : ((x[k].toNat : Int) == 32) = true := by simp [h32]
            have HD : Hid ((L ++ [32]).drop k = 32 :: (L ++ [32]).drop (k + 1)) := by unfold Hid; rw [dropB hLk, hb32]
            by_cases hsk : s < k
            · have hski : (s : Int) < (k : Nat) := by omega
              have HZ : Hid (wds [] (L ++ [32]) = (W ++ [(L.drop s).take (k - s)]) ++ wds ((L.drop (k + 1)).take (k + 1 - (k + 1))) ((L ++ [32]).drop (k + 1))) := by
                unfold Hid; rw [hz.out, HD.out, wd_n (cur_ne hsk (by omega)), cur_nil]; simp
              have HT : Hid (x.extract s k = ⟨((L.drop s).take (k - s)).toArray⟩) := by unfold Hid; rw [ext_bs, HL.out]
              clear hLk hb32
              go_wp2_with (at_builtin; refine (fun h : Hid _ => h.out) ?_)
              unfold Hid
              refine append1 ei_S rfl _ _ rfl w.heap.size wr _ _ W.length _ (by rfl) hown.out [.string (x.extract s k)] (by rfl) rfl (one_str1 _) (by omega) (by omega) ?_
              intro v' w2 ho2 he2
              have HO2 := Lib.hid ho2
              have HE2 := Lib.hid (he2 w HB.out (Nat.le_refl _))
              clear ho2 he2
              go_wp2_with fail
              go_roundw
              case rel => exact ⟨k + 1, k + 1, W ++ [(L.drop s).take (k - s)], by omega, Nat.le_refl _, by go_num, by go_num, by (unfold Hid; rw [sval_snoc, ← HT.out, List.length_append]; exact HO2.out), by simp; omega, HZ, HPR, HE2.out⟩
              case measure => simp [intOf] <;> omega
            · obtain rfl : s = k := by omega
              have HZ : Hid (wds [] (L ++ [32]) = W ++ wds ((L.drop (s + 1)).take (s + 1 - (s + 1))) ((L ++ [32]).drop (s + 1))) := by
                unfold Hid; rw [hz.out, HD.out, cur_nil, wd_e, cur_nil]
              clear hLk hb32
              go_wp2_with fail
              go_roundw
              case rel => exact ⟨s + 1, s + 1, W, by omega, Nat.le_refl _, by go_num, by go_num, hown, by omega, HZ, HPR, HB.out⟩
              case measure => simp [intOf] <;> omega
          · have h32i : ((x[k].toNat : Int) == 32) = false := beq_false_of_ne (show (x[k].toNat : Int) ≠ 32 by omega)
            have HZ : Hid (wds [] (L ++ [32]) = W ++ wds ((L.drop s).take (k + 1 - s)) ((L ++ [32]).drop (k + 1))) := by
              unfold Hid; rw [hz.out, dropB hLk, wd_ne (fun e => h32 (by rw [e]; rfl)), cur_snoc hLk hs]
            clear hLk
            go_wp2_with fail
            go_roundw
            case rel => exact ⟨k + 1, s, W, by omega, by omega, by go_num, by rfl, hown, by omega, HZ, HPR, HB.out⟩
            case measure => simp [intOf]; omega
      · obtain rfl : k = x.size := by omega
        have HPR : Hid (∀ j (hj : j < x.size), j < x.size + 1 → ¬ (x[j].toNat < 32 ∨ 126 < x[j].toNat)) := fun j hj _ => hpr.out j hj hj
        have HD : Hid ((L ++ [32]).drop x.size = 32 :: (L ++ [32]).drop (x.size + 1)) := by unfold Hid; rw [← hLl]; exact dropE L
        by_cases hsk : s < x.size
        · have hski : (s : Int) < (x.size : Nat) := by omega
          have HZ : Hid (wds [] (L ++ [32]) = (W ++ [(L.drop s).take (x.size - s)]) ++ wds ((L.drop (x.size + 1)).take (x.size + 1 - (x.size + 1))) ((L ++ [32]).drop (x.size + 1))) := by
            unfold Hid; rw [hz.out, HD.out, wd_n (cur_ne hsk (by omega)), cur_nil]; simp
          have HT : Hid (x.extract s x.size = ⟨((L.drop s).take (x.size - s)).toArray⟩) := by unfold Hid; rw [ext_bs, HL.out]
          go_wp2_with (at_builtin; refine (fun h : Hid _ => h.out) ?_)
          unfold Hid
          refine append1 ei_S rfl _ _ rfl w.heap.size wr _ _ W.length _ (by rfl) hown.out [.string (x.extract s x.size)] (by rfl) rfl (one_str1 _) (by omega) (by omega) ?_
          intro v' w2 ho2 he2
          have HO2 := Lib.hid ho2
          have HE2 := Lib.hid (he2 w HB.out (Nat.le_refl _))
          clear ho2 he2
          go_wp2_with fail
          go_roundw
          case rel => exact ⟨x.size + 1, x.size + 1, W ++ [(L.drop s).take (x.size - s)], by omega, Nat.le_refl _, by go_num, by go_num, by (unfold Hid; rw [sval_snoc, ← HT.out, List.length_append]; exact HO2.out), by simp; omega, HZ, HPR, HE2.out⟩
          case measure => simp [intOf] <;> omega
        · obtain rfl : s = x.size := by omega
          have HZ : Hid (wds [] (L ++ [32]) = W ++ wds ((L.drop (x.size + 1)).take (x.size + 1 - (x.size + 1))) ((L ++ [32]).drop (x.size + 1))) := by
            unfold Hid; rw [hz.out, HD.out, cur_nil, wd_e, cur_nil]
          go_wp2_with fail
          go_roundw
          case rel => exact ⟨x.size + 1, x.size + 1, W, by omega, Nat.le_refl _, by go_num, by go_num, hown, by omega, HZ, HPR, HB.out⟩
          case measure => simp [intOf] <;> omega
    · obtain rfl : k = x.size + 1 := by omega
      have hF : fieldsOf x = W := by
        have h := hz.out
        have hd0 : (L ++ [32]).drop (x.size + 1) = [] := drop_nil (by rw [List.length_append, hLl]; exact Nat.le_refl _)
        rw [hd0, wd_nil, List.append_nil] at h
        unfold fieldsOf
        rw [← HL.out, h]
      by_cases h24 : 24 < W.length
      · have h24i : (24 : Int) < W.length := by omega
        have HN := Lib.hid (sp_many (x := x) (by rw [hF]; exact h24))
        clear hF
        go_wp2_with fail
        exact bodyPost_ret (v := .tuple #[.slice (some ⟨wr.heap.size, 0, none⟩) 0 0, .bool false]) (by simp [results, Tryd.results42, go_sem, *]) rfl (Hbad.out _ _ (HB.out.alloc _) HN.out)
      · have h24i : (W.length : Int) ≤ 24 := by omega
        have hok : spOk x = true := sp_good (by omega) (fun j hj => hpr.out j hj (by omega)) (by rw [hF]; omega)
        have HOK : Hid (SplitPost x w (.returned (.tuple #[.slice A W.length c', .bool true])) wr) := ⟨_, by rw [hok], HB.out, fun _ => by rw [hF]; exact hown.out⟩
        clear hF hok
        go_wp2_with fail
        exact bodyPost_ret (v := .tuple #[.slice A W.length c', .bool true]) (by simp [results, Tryd.results42, go_sem, *]) rfl HOK.out
end Go.Proofs.YtcmbjkidgemdaaaDoor
