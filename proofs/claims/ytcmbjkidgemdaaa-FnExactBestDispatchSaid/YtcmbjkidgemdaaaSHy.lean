/- Contracts of slices.Index, Contains and Clone on ints, of distance, canDispatch and l31Valid; no condition but what stands at each theorem. -/
import Derived.Test.YtcmbjkidgemdaaaSHi
import Derived.Test.YtcmbjkidgemdaaaMB
import Derived.Test.YtcmbjkidgemdaaaMD
import Derived.Test.YtcmbjkidgemdaaaKG
import Derived.Deep.AppendLies
import Derived.Lib.SliceRun
namespace Go.Proofs.Ytcmbjkidgemdaaa
set_option linter.unusedSimpArgs false
set_option linter.unusedVariables false
open Go.RowKit Go.Sort
theorem step_app1 {P : Program} {ops : Array Oper} {o : Oper} {a : Act} {K : Act → World → Prop} {Q : Exit → Act → World → Prop} {E : Prop} {t e : TypeId} (hE : EI P t e 1) (hgd : o.guard = none) (s x : Operand)
    (ho : o.op = .call { callee := .builtin .append, args := #[s, x], argTypes := #[t, t] }) (base : Nat) (W : World) (v : Value) (n : Nat) (xs : List Value) (hs : a.eval s = v) (hown : W.ownsRow base e 1 v n xs)
    (q : Nat) (u : Value) (hx : a.eval x = .slice (some ⟨q, 0, none⟩) 1 1) (hq : W.cell? ⟨q, 0, none⟩ = some u) (h1 : u.oneCell' = true) (hn : n ≤ 1073741824) (hbase : base ≤ W.heap.size)
    (h : ∀ g cap w1, w1.ownsRow base e 1 (.slice (some ⟨g, 0, none⟩) (n + 1) cap) (n + 1) (xs ++ [u]) → (∀ b, Ext b W → b.heap.size ≤ base → Ext b w1) → K (a.put o.dst (.slice (some ⟨g, 0, none⟩) (n + 1) cap)) w1) :
    if Region.wanted o (yielded ops a.tmps) = true then Oper.wp P o a W K Q else E := by
  obtain ⟨i, z, hu, hi, hz, hsz, hby, hzs, h0⟩ := hE
  refine step_append_lies W hgd s x t ho base e i z 1 i.bytes hu hi hz hsz rfl hzs h0 v n xs hs hown ⟨q, 0, none⟩ 1 1 [u] hx rfl ?_ (by intro y hy; simp at hy; subst hy; exact h1) (by omega) (by unfold maxLen; omega) ?_ hbase _ rfl ?_
  · intro j y hy
    cases j with
    | zero => simp at hy; subst hy; rw [add_none]; exact hq
    | succ j => simp at hy
  · have := Nat.mul_le_mul_left (n + 1) hby
    omega
  · intro g cap w' ho' hg _ _
    exact h g cap w' ho' (fun b hb hbb => hb.grown hg (fun k hk => Nat.le_trans hbb (hown.lt k hk).1))
set_option maxRecDepth 100000 in
set_option maxHeartbeats 1000000 in
theorem shelf_IndexI (A : Option Addr) (n c : Nat) (xs : List Int) (z : Int) (w : World) (hx : Rd w 1 A n (xs.flatMap ienc)) :
    Calls Try.prog 111 #[.slice A n c, .int .i64 z] w fun e w' => ∃ r : Int, e = .returned (.int .i64 r) ∧ decide (0 ≤ r) = xs.contains z ∧ Ext w w' := by
  have hn := hx.2.1
  have hl := Lib.hid (hx.len ienc_len (by omega))
  have hx' := Lib.hid hx
  clear hx
  go_enter Try.func111, Try.ntmps111
  go_wp2_with fail
  go_loopw [8] (fun i wr => ∃ k : Nat, k ≤ n ∧ i = .int .i64 k ∧ Hid (xs.contains z = (xs.drop k).contains z) ∧ Ext w wr) (fun i _ => n - (intOf i).toNat)
  case atStart => exact ⟨0, Nat.zero_le _, rfl, rfl, Ext.refl _⟩
  case round =>
    obtain ⟨k, hk, rfl, hz, hb⟩ := hrel
    by_cases hlt : k < n
    · obtain ⟨b, off, x, rfl, hbs, hxk, h0⟩ := ienc_at (hx'.out.keep hb) hlt
      have HD := Lib.hid (drop_cons hxk)
      have HB := Lib.hid hb
      have i0 : (0 : Int) ≤ (k : Int) := by omega
      have i1 : (k : Int) < (n : Int) := by omega
      clear hxk hb
      cases ea : (z == x)
      · have ea' : (x == z) = false := by simp at ea ⊢; omega
        have hdo : Hid (((x :: xs.drop (k + 1)).contains z) = (xs.drop (k + 1)).contains z) := by unfold Hid; rw [List.contains_cons, ea]; rfl
        go_wp2_with fail
        go_roundw
        case rel => exact ⟨k + 1, by omega, by go_num, by unfold Hid; rw [hz.out, HD.out, hdo.out], HB.out⟩
        case measure => simp [intOf]; omega
      · have ea' : (x == z) = true := by simp at ea ⊢; omega
        have hdo : Hid (((x :: xs.drop (k + 1)).contains z) = true) := by unfold Hid; rw [List.contains_cons, ea]; rfl
        go_wp2_with fail
        go_ret
        exact ⟨k, rfl, by rw [hz.out, HD.out, hdo.out]; simp, HB.out⟩
    · obtain rfl : k = n := by omega
      go_wp2_with fail
      go_ret
      exact ⟨-1, rfl, by rw [hz.out, drop_nil (by rw [hl.out]; omega)]; rfl, hb⟩
theorem shelf_ContainsI (A : Option Addr) (n c : Nat) (xs : List Int) (z : Int) (w : World) (hx : Rd w 1 A n (xs.flatMap ienc)) :
    Calls Try.prog 100 #[.slice A n c, .int .i64 z] w fun e w' => e = .returned (.bool (xs.contains z)) ∧ Ext w w' := by
  have HC := Lib.hid (shelf_IndexI A n c xs z w hx)
  clear hx
  go_enter Try.func100, Try.ntmps100
  go_wp2_with fail
  refine HC.out.mono ?_
  rintro e w1 ⟨r, rfl, hr, he1⟩
  have HR := Lib.hid hr
  have HE1 := Lib.hid he1
  clear hr he1
  go_wp2_with fail
  go_ret
  exact ⟨ret_bool (by rw [← HR.out]), HE1.out⟩
theorem shelf_CloneI (A : Option Addr) (n c : Nat) (xs : List Int) (w : World) (hx : Rd w 1 A n (xs.flatMap ienc)) (hn : n ≤ 1048576) :
    Calls Try.prog 99 #[.slice A n c] w fun e w' => ∃ v, e = .returned v ∧ Ext w w' ∧ w'.ownsRow w.heap.size 3 1 v n (xs.flatMap ienc) := by
  have HX := Lib.hid hx
  clear hx
  cases A with
  | none =>
    have h0 : n = 0 := HX.out.none_len rfl
    subst h0
    have hnil : xs.flatMap ienc = [] := List.eq_nil_of_length_eq_zero (by have := HX.out.1; simpa using this)
    have HN := Lib.hid hnil
    clear hnil
    have hq := fun (w : World) => Lib.run_eql_slice_nil (P := Try.prog) w 33 3 none 0 c 0 0 Try.underlying33
    go_enter Try.func99, Try.ntmps99
    go_wp2_with fail
    go_ret
    exact ⟨_, rfl, Ext.refl _, by rw [HN.out]; exact World.ownsRow_nil _ _ _ _⟩
  | some ad =>
    have hq := fun (w : World) => Lib.run_eql_slice_nil (P := Try.prog) w 33 3 (some ad) n c 0 0 Try.underlying33
    go_enter Try.func99, Try.ntmps99
    go_wp2_with (at_builtin; refine (fun h : Hid _ => h.out) ?_)
    unfold Hid
    refine appendRdN ei_I rfl _ _ rfl w.heap.size _ _ 0 [] (by rfl) (own_empty w w.heap.size 3 1 (Nat.le_refl _)) (some ad) n c (xs.flatMap ienc) (by rfl) (HX.out.alloc _) (by intro h; cases h) (one_ienc _) (by omega) (by simp) (by intro h; cases h) ?_
    intro g c' w1
    rw [Nat.zero_add, List.nil_append]
    intro ho he
    have HO1 := Lib.hid ho
    have HE1 := Lib.hid (he w ((Ext.refl w).alloc _) (Nat.le_refl _))
    clear ho he
    go_wp2_with fail
    go_ret
    exact ⟨_, rfl, HE1.out, HO1.out⟩
theorem impl_distance (h : Nat) (A : Option Addr) (n c : Nat) (ds : List GDoor) (a b : Nat) (w : World) (hx : Rd w 2 A n (ds.flatMap GDoor.enc)) (hs : Hid (NoTwice ds)) (h1 : 1 ≤ h) (h7 : h ≤ 7) (hn12 : n ≤ 12) (ha : a < h) (hb : b < h) (hr : Hid (reachB ds h a b = true)) (hd : Hid (0 ≤ distB ds h a b ∧ distB ds h a b ≤ 6)) :
    Calls Try.prog 98 #[.agg #[.int .i64 h, .slice A n c], .int .i64 a, .int .i64 b] w fun e w' => e = .returned (.int .i64 (distB ds h a b)) ∧ Ext w w' := by
  obtain ⟨wb, hwb⟩ : ∃ wb, wb = w.alloc (.cells #[.int .i64 (h : Int), .slice A n c] 29) := ⟨_, rfl⟩
  obtain ⟨hE, hsb, k0, k1⟩ := box2 w _ _ _ wb hwb
  have HE := Lib.hid hE
  have Hwb := Lib.hid hwb
  have HC := Lib.hid (impl_wayIn h A n c ds a b wb (hx.keep hE) hs h1 h7 hn12 ha hb)
  clear hE hwb k0 k1 hsb hx
  go_enter Try.func98, Try.ntmps98
  go_wp2_with fail
  rw [← Hwb.out]
  refine HC.out.mono ?_
  rintro e w5 (⟨hf, rfl, he5⟩ | ⟨hf, g, c', rfl, he5⟩)
  · exfalso
    have := hr.out
    simp only [reachB, decide_eq_true_eq] at this
    omega
  · have HE5 := Lib.hid he5
    obtain ⟨z, hz⟩ : ∃ z : Nat, distB ds h a b = (z : Int) := Int.eq_ofNat_of_zero_le hd.out.1
    have hz6 : z ≤ 6 := by have := hd.out.2; omega
    have hz' : ((bfsAll ds h a).d.getD b 0).toNat = z := by
      have : (bfsAll ds h a).d.getD b 0 = (z : Int) := hz
      rw [this, Int.toNat_natCast]
    rw [hz']
    have HZ := Lib.hid hz
    clear hz hz' hf he5
    go_wp2_with fail
    go_ret
    exact ⟨ret_int (by first | rfl | (rw [HZ.out]; done) | (rw [HZ.out]; omega)), HE.out.trans HE5.out⟩
def validB (H : Int) (ds : List GDoor) (gs hs : List Int) : Bool := decide (hs.length ≤ gs.length) && (decide (gs.length ≤ 5) && (hallsB H ds gs && hallsB H ds hs))
set_option maxRecDepth 100000 in
set_option maxHeartbeats 2000000 in
theorem impl_canDispatch (H : Int) (A : Option Addr) (n c : Nat) (ds : List GDoor) (A1 : Option Addr) (n1 c1 : Nat) (gs : List Int) (A2 : Option Addr) (n2 c2 : Nat) (hs : List Int) (w : World) (hx : Rd w 2 A n (ds.flatMap GDoor.enc)) (hx1 : Rd w 1 A1 n1 (gs.flatMap ienc)) (hx2 : Rd w 1 A2 n2 (hs.flatMap ienc)) :
    Calls Try.prog 80 #[.agg #[.int .i64 H, .slice A n c], .slice A1 n1 c1, .slice A2 n2 c2] w fun e w' => e = .returned (.bool (validB H ds gs hs)) ∧ Ext w w' := by
  have hn1 := hx1.2.1
  have hn2 := hx2.2.1
  have hl1 := Lib.hid (hx1.len ienc_len (by omega))
  have hl2 := Lib.hid (hx2.len ienc_len (by omega))
  have hx2' := Lib.hid hx2
  clear hx2
  obtain ⟨wb, hwb⟩ : ∃ wb, wb = w.alloc (.cells #[.int .i64 H, .slice A n c] 29) := ⟨_, rfl⟩
  obtain ⟨hE, hsb, k0, k1⟩ := box2 w _ _ _ wb hwb
  have HE := Lib.hid hE
  have Hwb := Lib.hid hwb
  have Hk0 := Lib.hid k0
  have Hk1 := Lib.hid k1
  have hbl : w.heap.size < wb.heap.size := by omega
  have hxb := Lib.hid (hx.keep hE)
  have hxb1 := Lib.hid (hx1.keep hE)
  clear hE hx hx1 hsb k0 k1 hwb
  have hxb2 := Lib.hid (hx2'.out.keep HE.out)
  have cG := Lib.hid (fun w1 (he : Ext wb w1) => impl_hallsOk H A n c ds A1 n1 c1 gs w1 (hxb.out.keep he) (hxb1.out.keep he))
  have cH := Lib.hid (fun w1 (he : Ext wb w1) => impl_hallsOk H A n c ds A2 n2 c2 hs w1 (hxb.out.keep he) (hxb2.out.keep he))
  have HV : Hid (validB H ds gs hs = (decide (n2 ≤ n1) && (decide (n1 ≤ 5) && (hallsB H ds gs && hallsB H ds hs)))) := by unfold Hid validB; rw [hl1.out, hl2.out]
  by_cases q1 : n2 ≤ n1
  case neg =>
    rw [decide_eq_false q1] at HV
    go_enter Try.func80, Try.ntmps80
    go_wp2_with fail
    rw [← Hwb.out]
    go_ret
    exact ⟨ret_bool HV.out.symm, HE.out⟩
  rw [decide_eq_true q1] at HV
  by_cases q2 : n1 ≤ 5
  case neg =>
    rw [decide_eq_false q2] at HV
    go_enter Try.func80, Try.ntmps80
    go_wp2_with fail
    rw [← Hwb.out]
    go_ret
    exact ⟨ret_bool HV.out.symm, HE.out⟩
  rw [decide_eq_true q2] at HV
  have k0 := Hk0.out
  have k1 := Hk1.out
  cases hG : hallsB H ds gs
  case false =>
    rw [hG] at cG HV
    clear hG
    go_enter Try.func80, Try.ntmps80
    go_wp2_with fail
    rw [← Hwb.out]
    refine (cG.out wb (Ext.refl _)).mono ?_
    rintro e w1 ⟨rfl, he1⟩
    have HE1 := Lib.hid he1
    clear he1 k0 k1
    go_wp2_with fail
    go_ret
    exact ⟨ret_bool HV.out.symm, HE.out.trans HE1.out⟩
  case true =>
    rw [hG] at cG HV
    clear hG
    go_enter Try.func80, Try.ntmps80
    go_wp2_with fail
    rw [← Hwb.out]
    refine (cG.out wb (Ext.refl _)).mono ?_
    rintro e w1 ⟨rfl, he1⟩
    have HE1 := Lib.hid he1
    clear k0 k1
    have k0 := (he1.cellAt w.heap.size hbl 0).trans Hk0.out
    have k1 := (he1.cellAt w.heap.size hbl 1).trans Hk1.out
    clear he1
    go_wp2_with fail
    refine (cH.out w1 HE1.out).mono ?_
    rintro e w2 ⟨rfl, he2⟩
    have HE2 := Lib.hid (HE1.out.trans he2)
    clear he2 k0 k1
    go_wp2_with fail
    all_goals go_ret
    all_goals exact ⟨ret_bool (by rw [HV.out]; simp [*]), HE.out.trans HE2.out⟩
set_option maxRecDepth 100000 in
set_option maxHeartbeats 2000000 in
theorem spec_l31Valid (H : Int) (A : Option Addr) (n c : Nat) (ds : List GDoor) (A1 : Option Addr) (n1 c1 : Nat) (gs : List Int) (A2 : Option Addr) (n2 c2 : Nat) (hs : List Int) (w : World) (hx : Rd w 2 A n (ds.flatMap GDoor.enc)) (hx1 : Rd w 1 A1 n1 (gs.flatMap ienc)) (hx2 : Rd w 1 A2 n2 (hs.flatMap ienc)) :
    Calls Try.prog 78 #[.agg #[.int .i64 H, .slice A n c], .slice A1 n1 c1, .slice A2 n2 c2] w fun e w' => e = .returned (.bool (validB H ds gs hs)) ∧ Ext w w' := by
  have hn1 := hx1.2.1
  have hn2 := hx2.2.1
  have hl1 := Lib.hid (hx1.len ienc_len (by omega))
  have hl2 := Lib.hid (hx2.len ienc_len (by omega))
  have hx2' := Lib.hid hx2
  clear hx2
  obtain ⟨wb, hwb⟩ : ∃ wb, wb = w.alloc (.cells #[.int .i64 H, .slice A n c] 29) := ⟨_, rfl⟩
  obtain ⟨hE, hsb, k0, k1⟩ := box2 w _ _ _ wb hwb
  have HE := Lib.hid hE
  have Hwb := Lib.hid hwb
  have Hk0 := Lib.hid k0
  have Hk1 := Lib.hid k1
  have hbl : w.heap.size < wb.heap.size := by omega
  have hxb := Lib.hid (hx.keep hE)
  have hxb1 := Lib.hid (hx1.keep hE)
  clear hE hx hx1 hsb k0 k1 hwb
  have hxb2 := Lib.hid (hx2'.out.keep HE.out)
  have cG := Lib.hid (fun w1 (he : Ext wb w1) => spec_l31Halls H A n c ds A1 n1 c1 gs w1 (hxb.out.keep he) (hxb1.out.keep he))
  have cH := Lib.hid (fun w1 (he : Ext wb w1) => spec_l31Halls H A n c ds A2 n2 c2 hs w1 (hxb.out.keep he) (hxb2.out.keep he))
  have HV : Hid (validB H ds gs hs = (decide (n2 ≤ n1) && (decide (n1 ≤ 5) && (hallsB H ds gs && hallsB H ds hs)))) := by unfold Hid validB; rw [hl1.out, hl2.out]
  have k0 := Hk0.out
  have k1 := Hk1.out
  cases hG : hallsB H ds gs
  case false =>
    rw [hG] at cG HV
    clear hG
    go_enter Try.func78, Try.ntmps78
    go_wp2_with fail
    rw [← Hwb.out]
    refine (cG.out wb (Ext.refl _)).mono ?_
    rintro e w1 ⟨rfl, he1⟩
    have HE1 := Lib.hid he1
    clear he1 k0 k1
    go_wp2_with fail
    go_ret
    exact ⟨ret_bool (by rw [HV.out]; simp), HE.out.trans HE1.out⟩
  rw [hG] at cG HV
  clear hG
  cases hH : hallsB H ds hs
  case false =>
    rw [hH] at cH HV
    clear hH
    go_enter Try.func78, Try.ntmps78
    go_wp2_with fail
    rw [← Hwb.out]
    refine (cG.out wb (Ext.refl _)).mono ?_
    rintro e w1 ⟨rfl, he1⟩
    have HE1 := Lib.hid he1
    clear k0 k1
    have k0 := (he1.cellAt w.heap.size hbl 0).trans Hk0.out
    have k1 := (he1.cellAt w.heap.size hbl 1).trans Hk1.out
    clear he1
    go_wp2_with fail
    refine (cH.out w1 HE1.out).mono ?_
    rintro e w2 ⟨rfl, he2⟩
    have HE2 := Lib.hid (HE1.out.trans he2)
    clear he2 k0 k1
    go_wp2_with fail
    go_ret
    exact ⟨ret_bool (by rw [HV.out]; simp), HE.out.trans HE2.out⟩
  rw [hH] at cH HV
  clear hH
  go_enter Try.func78, Try.ntmps78
  go_wp2_with fail
  rw [← Hwb.out]
  refine (cG.out wb (Ext.refl _)).mono ?_
  rintro e w1 ⟨rfl, he1⟩
  have HE1 := Lib.hid he1
  clear k0 k1
  have k0 := (he1.cellAt w.heap.size hbl 0).trans Hk0.out
  have k1 := (he1.cellAt w.heap.size hbl 1).trans Hk1.out
  clear he1
  go_wp2_with fail
  refine (cH.out w1 HE1.out).mono ?_
  rintro e w2 ⟨rfl, he2⟩
  have HE2 := Lib.hid (HE1.out.trans he2)
  clear he2 k0 k1
  by_cases q1 : n2 ≤ n1
  all_goals by_cases q2 : n1 ≤ 5
  all_goals go_wp2_with fail
  all_goals go_ret
  all_goals exact ⟨ret_bool (by rw [HV.out]; first | (simp [q1, q2]; done) | (simp [q1, q2]; omega)), HE.out.trans HE2.out⟩
end Go.Proofs.Ytcmbjkidgemdaaa
