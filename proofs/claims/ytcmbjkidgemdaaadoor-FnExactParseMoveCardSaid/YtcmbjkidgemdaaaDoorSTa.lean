/- The program's SplitFields; no condition but what stands at each theorem. -/
import Derived.Test.YtcmbjkidgemdaaaDoorST9
namespace Go.Proofs.YtcmbjkidgemdaaaDoor
set_option linter.unusedSimpArgs false
set_option linter.unusedVariables false
open Go.RowKit Go.Sort
set_option maxRecDepth 100000 in
set_option maxHeartbeats 4000000 in
theorem impl_SplitFields (x : ByteArray) (w : World) (hx : x.size ≤ 1048576) : Calls Tryd.prog 44 #[.string x] w (SplitPost x w) := by
  have Hbad := Lib.hid (fun (v : Value) (w' : World) (e : Ext w w') (h : spOk x = false) => (show SplitPost x w (.returned (.tuple #[v, .bool false])) w' from ⟨v, by rw [h], e, fun h' => by rw [h] at h'; cases h'⟩))
  have Ho0 := Lib.hid (own_empty w w.heap.size 9 1 (Nat.le_refl _))
  by_cases h600 : 600 < x.size
  · have h600i : (600 : Int) < x.size := by omega
    have HN := Lib.hid (sp_long h600)
    go_enter Tryd.func44, Tryd.ntmps44
    go_wp2_with fail
    exact bodyPost_ret (v := .tuple #[.slice none 0 0, .bool false]) (by simp [results, Tryd.results44, go_sem, *]) rfl (Hbad.out _ _ (Ext.refl w) HN.out)
  have h600i : (x.size : Int) ≤ 600 := by omega
  obtain ⟨L, hL⟩ : ∃ L, L = x.data.toList := ⟨_, rfl⟩
  have HL := Lib.hid hL
  have hLl : L.length = x.size := by rw [hL]; exact toList_size x
  clear hL
  go_enter Tryd.func44, Tryd.ntmps44
  go_wp2_with fail
  go_loop [4] (fun i => ∃ (k : Nat), k ≤ x.size ∧ i = .int .i64 k ∧ Hid (∀ j (hj : j < x.size), j < k → ¬ (x[j].toNat < 32 ∨ 126 < x[j].toNat))) (fun i => x.size - (intOf i).toNat)
  case atStart => exact ⟨0, by omega, rfl, Lib.hid (fun j _ h => absurd h (by omega))⟩
  case round =>
    obtain ⟨k, hk, rfl, hpr⟩ := hrel
    by_cases hlt : k < x.size
    · have hlti : (k : Int) < x.size := by omega
      by_cases hbad : x[k].toNat < 32 ∨ 126 < x[k].toNat
      · have HN := Lib.hid (sp_bad hlt hbad)
        rcases hbad with hd | hd
        · go_wp2_with fail
          exact bodyPost_ret (v := .tuple #[.slice none 0 0, .bool false]) (by simp [results, Tryd.results44, go_sem, *]) rfl (Hbad.out _ _ (Ext.refl w) HN.out)
        · have hd2 : ¬ x[k].toNat < 32 := by omega
          go_wp2_with fail
          exact bodyPost_ret (v := .tuple #[.slice none 0 0, .bool false]) (by simp [results, Tryd.results44, go_sem, *]) rfl (Hbad.out _ _ (Ext.refl w) HN.out)
      · have HPR : Hid (∀ j (hj : j < x.size), j < k + 1 → ¬ (x[j].toNat < 32 ∨ 126 < x[j].toNat)) := fun j hj h => by
          by_cases h2 : j < k
          · exact hpr.out j hj h2
          · obtain rfl : j = k := by omega
            exact hbad
        have hd1 : ¬ x[k].toNat < 32 := by omega
        have hd2 : ¬ 126 < x[k].toNat := by omega
        go_wp2_with fail
        go_round
        case rel => exact ⟨k + 1, by omega, by go_num, HPR⟩
        case measure => simp [intOf] <;> omega
    · obtain rfl : k = x.size := by omega
      go_wp2_with fail
      go_loopw [5, 6] (fun v i wr => ∃ (k : Nat) (W : List (List UInt8)), k ≤ x.size ∧ i = .int .i64 k ∧ Hid (wr.ownsRow w.heap.size 9 1 v W.length (sval W)) ∧ W.length ≤ k ∧ Hid (wds [] (L ++ [32]) = W ++ wds [] ((L ++ [32]).drop k)) ∧ Ext w wr) (fun _ i _ => x.size - (intOf i).toNat)
      case atStart => exact ⟨0, [], by omega, rfl, Ho0, Nat.le_refl _, rfl, (Ext.refl _).alloc _⟩
      case round =>
        obtain ⟨k, W, hk, rfl, hown, hWl, hz, hb⟩ := hrel
        have HB := Lib.hid hb
        have hsw := hb.size
        clear hb
        obtain ⟨A, c', rfl, hnc⟩ := own_form hown.out
        by_cases hlt : k < x.size
        · have hlti : (k : Int) < x.size := by omega
          have hLk : L[k]? = some x[k] := by rw [HL.out]; exact byte_at x k hlt
          by_cases h32 : x[k].toNat = 32
          · have hb32 : x[k] = 32 := UInt8.toNat_inj.1 h32
            have h32i : ((x[k].toNat : Int) == 32) = true := by simp [h32]
            have HZ : Hid (wds [] (L ++ [32]) = W ++ wds [] ((L ++ [32]).drop (k + 1))) := by unfold Hid; rw [hz.out, dropB hLk, hb32, wd_e]
            clear hLk hb32
            go_wp2_with fail
            go_roundw
            case rel => exact ⟨k + 1, W, by omega, by go_num, hown, by omega, HZ, HB.out⟩
            case measure => simp [intOf] <;> omega
          · have h32i : ((x[k].toNat : Int) == 32) = false := beq_false_of_ne (show (x[k].toNat : Int) ≠ 32 by omega)
            have hb32 := h32
            clear hLk
            go_wp2_with fail
            go_loop [6] (fun i => ∃ (j : Nat), k ≤ j ∧ j ≤ x.size ∧ i = .int .i64 j ∧ Hid (wds [] ((L ++ [32]).drop k) = wds ((L.drop k).take (j - k)) ((L ++ [32]).drop j))) (fun i => x.size - (intOf i).toNat)
            case atStart => exact ⟨k, Nat.le_refl _, hk, rfl, Lib.hid (by rw [cur_nil])⟩
            case round =>
              obtain ⟨j, hkj, hj, rfl, hq⟩ := hrel
              have key : ∀ (HD : Hid ((L ++ [32]).drop j = 32 :: (L ++ [32]).drop (j + 1))) (hjk : k < j), Hid (wds [] (L ++ [32]) = (W ++ [(L.drop k).take (j - k)]) ++ wds [] ((L ++ [32]).drop j)) := fun HD hjk => by
                unfold Hid; rw [hz.out, hq.out, HD.out, wd_n (cur_ne hjk (by omega)), wd_e]; simp
              by_cases hlj : j < x.size
              · have hLj : L[j]? = some x[j] := by rw [HL.out]; exact byte_at x j hlj
                by_cases h2 : x[j].toNat = 32
                · have hjb : x[j] = 32 := UInt8.toNat_inj.1 h2
                  have hjk : k < j := by
                    rcases Nat.lt_or_ge k j with h | h
                    · exact h
                    · obtain rfl : j = k := by omega
                      exact absurd h2 h32
                  have HZ := key (by unfold Hid; rw [dropB hLj, hjb]) hjk
                  have h2i : ((x[j].toNat : Int) == 32) = true := by simp [h2]
                  clear key hLj hjb
                  have HT : Hid (x.extract k j = ⟨((L.drop k).take (j - k)).toArray⟩) := by unfold Hid; rw [ext_bs, HL.out]
                  have hkji : (k : Int) ≤ (j : Nat) := by omega
                  go_wp2_with (at_builtin; refine (fun h : Hid _ => h.out) ?_)
                  unfold Hid
                  refine append1 ei_S rfl _ _ rfl w.heap.size wr _ _ W.length _ (by rfl) hown.out [.string (x.extract k j)] (by rfl) rfl (one_str1 _) (by omega) (by omega) ?_
                  intro v' w2 ho2 he2
                  have HO2 := Lib.hid ho2
                  have HE2 := Lib.hid (he2 w HB.out (Nat.le_refl _))
                  clear ho2 he2
                  go_wp2_with fail
                  go_roundw
                  case rel => exact ⟨j, W ++ [(L.drop k).take (j - k)], by omega, by go_num, by (unfold Hid; rw [sval_snoc, ← HT.out, List.length_append]; exact HO2.out), by simp; omega, HZ, HE2.out⟩
                  case measure => simp [intOf] <;> omega
                · have h2i : ((x[j].toNat : Int) == 32) = false := beq_false_of_ne (show (x[j].toNat : Int) ≠ 32 by omega)
                  have HQ : Hid (wds [] ((L ++ [32]).drop k) = wds ((L.drop k).take (j + 1 - k)) ((L ++ [32]).drop (j + 1))) := by
                    unfold Hid; rw [hq.out, dropB hLj, wd_ne (fun e => h2 (by rw [e]; rfl)), cur_snoc hLj hkj]
                  clear key hLj
                  go_wp2_with fail
                  go_round
                  case rel => exact ⟨j + 1, by omega, by omega, by go_num, HQ⟩
                  case measure => simp [intOf] <;> omega
              · obtain rfl : j = x.size := by omega
                have hjk : k < x.size := hlt
                have HZ := key (by unfold Hid; rw [← hLl]; exact dropE L) hjk
                clear key
                have HT : Hid (x.extract k x.size = ⟨((L.drop k).take (x.size - k)).toArray⟩) := by unfold Hid; rw [ext_bs, HL.out]
                have hkji : (k : Int) ≤ (x.size : Nat) := by omega
                go_wp2_with (at_builtin; refine (fun h : Hid _ => h.out) ?_)
                unfold Hid
                refine append1 ei_S rfl _ _ rfl w.heap.size wr _ _ W.length _ (by rfl) hown.out [.string (x.extract k x.size)] (by rfl) rfl (one_str1 _) (by omega) (by omega) ?_
                intro v' w2 ho2 he2
                have HO2 := Lib.hid ho2
                have HE2 := Lib.hid (he2 w HB.out (Nat.le_refl _))
                clear ho2 he2
                go_wp2_with fail
                go_roundw
                case rel => exact ⟨x.size, W ++ [(L.drop k).take (x.size - k)], by omega, by go_num, by (unfold Hid; rw [sval_snoc, ← HT.out, List.length_append]; exact HO2.out), by simp; omega, HZ, HE2.out⟩
                case measure => simp [intOf] <;> omega
        · obtain rfl : k = x.size := by omega
          have hF : fieldsOf x = W := by
            have h := hz.out
            have hd0 : (L ++ [32]).drop x.size = [32] := by rw [← hLl]; simp
            rw [hd0, wd_e, wd_nil, List.append_nil] at h
            unfold fieldsOf
            rw [← HL.out, h]
          by_cases h24 : 24 < W.length
          · have h24i : (24 : Int) < W.length := by omega
            have HN := Lib.hid (sp_many (x := x) (by rw [hF]; exact h24))
            clear hF
            go_wp2_with fail
            exact bodyPost_ret (v := .tuple #[.slice none 0 0, .bool false]) (by simp [results, Tryd.results44, go_sem, *]) rfl (Hbad.out _ _ HB.out HN.out)
          · have h24i : (W.length : Int) ≤ 24 := by omega
            have hok : spOk x = true := sp_good (by omega) (fun j hj => hpr.out j hj (by omega)) (by rw [hF]; omega)
            have HOK : Hid (SplitPost x w (.returned (.tuple #[.slice A W.length c', .bool true])) wr) := ⟨_, by rw [hok], HB.out, fun _ => by rw [hF]; exact hown.out⟩
            clear hF hok
            go_wp2_with fail
            exact bodyPost_ret (v := .tuple #[.slice A W.length c', .bool true]) (by simp [results, Tryd.results44, go_sem, *]) rfl HOK.out
end Go.Proofs.YtcmbjkidgemdaaaDoor
