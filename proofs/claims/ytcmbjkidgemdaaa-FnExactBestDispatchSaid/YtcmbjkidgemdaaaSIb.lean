/- Contracts of both BestDispatch; no condition but what stands at each theorem. -/
import Derived.Test.YtcmbjkidgemdaaaSIa
import Derived.Test.YtcmbjkidgemdaaaSHs
namespace Go.Proofs.Ytcmbjkidgemdaaa
set_option linter.unusedSimpArgs false
set_option linter.unusedVariables false
open Go.RowKit Go.Sort
def bestD (H : Int) (ds : List GDoor) (gs hs : List Int) : List Int := if validB H ds gs hs then (dispR (dD ds H.toNat gs hs) gs.length hs.length []).1 else []
theorem validB_spec {H : Int} {ds : List GDoor} {gs hs : List Int} (h : validB H ds gs hs = true) : hs.length ≤ gs.length ∧ gs.length ≤ 5 ∧ houseB H ds = true ∧ DSet H.toNat ds gs hs := by
  simp only [validB, hallsB, Bool.and_eq_true, decide_eq_true_eq, List.all_eq_true] at h
  obtain ⟨h1, h2, ⟨h3, h4⟩, h5, -⟩ := h
  obtain ⟨q1, q7, q12, qT, -, qr⟩ := houseB_spec h4
  refine ⟨h1, h2, h4, by omega, by omega, q12, qT, qr, fun x hx => ?_, fun x hx => ?_⟩
  · have := hallB_spec q1 q7 (h3 x hx); omega
  · have := hallB_spec q1 q7 (h5 x hx); omega
theorem bestD_len (H : Int) (ds : List GDoor) (gs hs : List Int) : (bestD H ds gs hs).length ≤ 5 := by
  unfold bestD
  split
  · rename_i h
    obtain ⟨h1, h2, -⟩ := validB_spec h
    have := dispR_len (D := dD ds H.toNat gs hs) (n := gs.length) hs.length []
    simp at this
    omega
  · simp
set_option maxRecDepth 100000 in
set_option maxHeartbeats 2000000 in
theorem impl_BestDispatch (H : Int) (A : Option Addr) (n c : Nat) (ds : List GDoor) (A1 : Option Addr) (n1 c1 : Nat) (gs : List Int) (A2 : Option Addr) (n2 c2 : Nat) (hs : List Int) (w : World) (hx : Rd w 2 A n (ds.flatMap GDoor.enc)) (hx1 : Rd w 1 A1 n1 (gs.flatMap ienc)) (hx2 : Rd w 1 A2 n2 (hs.flatMap ienc)) :
    Calls Try.prog 41 #[.agg #[.int .i64 H, .slice A n c], .slice A1 n1 c1, .slice A2 n2 c2] w (OwnL (bestD H ds gs hs) w) := by
  have hl1 := Lib.hid (hx1.len ienc_len (by omega))
  have hl2 := Lib.hid (hx2.len ienc_len (by omega))
  have hx2' := Lib.hid hx2
  clear hx2
  obtain ⟨wb, hwb⟩ : ∃ wb, wb = w.alloc (.cells #[.int .i64 H, .slice A n c] 29) := ⟨_, rfl⟩
  obtain ⟨hE, hsb, k0, k1⟩ := box2 w _ _ _ wb hwb
  have HE := Lib.hid hE
  have Hwb := Lib.hid hwb
  have Hk0 := Lib.hid k0
  have Hk1 := Lib.hid k1
  have hbl : w.heap.size < wb.heap.size := by omega
  have hxb := Lib.hid (hx.keep hE)
  have hxb1 := Lib.hid (hx1.keep hE)
  clear hE hx hx1 hsb k0 k1 hwb
  have hxb2 := Lib.hid (hx2'.out.keep HE.out)
  have cV := Lib.hid (impl_canDispatch H A n c ds A1 n1 c1 gs A2 n2 c2 hs wb hxb.out hxb1.out hxb2.out)
  have k0 := Hk0.out
  have k1 := Hk1.out
  cases hV : validB H ds gs hs
  case false =>
    rw [hV] at cV
    have HF : Hid (bestD H ds gs hs = []) := by unfold Hid bestD; rw [hV]; rfl
    clear hV
    go_enter Try.func41, Try.ntmps41
    go_wp2_with fail
    rw [← Hwb.out]
    refine cV.out.mono ?_
    rintro e w1 ⟨rfl, he1⟩
    have HE1 := Lib.hid he1
    clear he1 k0 k1
    go_wp2_with fail
    go_ret
    exact ⟨_, rfl, HE.out.trans HE1.out, by rw [HF.out]; exact World.ownsRow_nil _ _ _ _⟩
  case true =>
    rw [hV] at cV
    have HF : Hid (bestD H ds gs hs = (dispR (dD ds H.toNat gs hs) n1 n2 []).1) := by unfold Hid bestD; rw [hV, hl1.out, hl2.out]; rfl
    obtain ⟨v1, v2, hB, hS⟩ := validB_spec hV
    rw [hl1.out, hl2.out] at v1
    rw [hl1.out] at v2
    obtain ⟨h, hh⟩ := Int.eq_ofNat_of_zero_le (show 0 ≤ H by have := (houseB_spec hB).1; omega)
    subst hh
    rw [Int.toNat_natCast] at hS HF
    have HS := Lib.hid hS
    have cK := Lib.hid (fun w1 (he : Ext wb w1) => impl_dispatch h A n c ds A1 n1 c1 gs A2 n2 c2 hs HS v2 v1 n2 [] none 0 0 w1 (hxb.out.keep he) (hxb1.out.keep he) (hxb2.out.keep he) (Rd.nil _ _) (by unfold Hid; intro x hx; simp at hx) (by omega))
    clear hV hB hS
    go_enter Try.func41, Try.ntmps41
    go_wp2_with fail
    rw [← Hwb.out]
    refine cV.out.mono ?_
    rintro e w1 ⟨rfl, he1⟩
    have HE1 := Lib.hid he1
    clear k0 k1
    have k0 := (he1.cellAt w.heap.size hbl 0).trans Hk0.out
    have k1 := (he1.cellAt w.heap.size hbl 1).trans Hk1.out
    clear he1
    go_wp2_with fail
    refine (cK.out w1 HE1.out).mono ?_
    rintro e w2 ⟨v2', rfl, he2, ho2⟩
    have HE2 := Lib.hid (HE.out.trans (HE1.out.trans he2))
    have HO2 := Lib.hid (own_weak ho2 (HE.out.trans HE1.out).size)
    clear he2 ho2 k0 k1
    go_wp2_with fail
    go_ret
    exact ⟨_, rfl, HE2.out, by rw [HF.out]; exact HO2.out⟩
set_option maxRecDepth 100000 in
set_option maxHeartbeats 2000000 in
theorem spec_BestDispatch (H : Int) (A : Option Addr) (n c : Nat) (ds : List GDoor) (A1 : Option Addr) (n1 c1 : Nat) (gs : List Int) (A2 : Option Addr) (n2 c2 : Nat) (hs : List Int) (w : World) (hx : Rd w 2 A n (ds.flatMap GDoor.enc)) (hx1 : Rd w 1 A1 n1 (gs.flatMap ienc)) (hx2 : Rd w 1 A2 n2 (hs.flatMap ienc)) (hc2 : n2 ≤ c2) :
    Calls Try.prog 40 #[.agg #[.int .i64 H, .slice A n c], .slice A1 n1 c1, .slice A2 n2 c2] w (OwnL (bestD H ds gs hs) w) := by
  have hl1 := Lib.hid (hx1.len ienc_len (by omega))
  have hl2 := Lib.hid (hx2.len ienc_len (by omega))
  have hx2' := Lib.hid hx2
  clear hx2
  obtain ⟨wb, hwb⟩ : ∃ wb, wb = w.alloc (.cells #[.int .i64 H, .slice A n c] 29) := ⟨_, rfl⟩
  obtain ⟨hE, hsb, k0, k1⟩ := box2 w _ _ _ wb hwb
  have HE := Lib.hid hE
  have Hwb := Lib.hid hwb
  have Hk0 := Lib.hid k0
  have Hk1 := Lib.hid k1
  have hbl : w.heap.size < wb.heap.size := by omega
  have hxb := Lib.hid (hx.keep hE)
  have hxb1 := Lib.hid (hx1.keep hE)
  clear hE hx hx1 hsb k0 k1 hwb
  have hxb2 := Lib.hid (hx2'.out.keep HE.out)
  have cV := Lib.hid (spec_l31Valid H A n c ds A1 n1 c1 gs A2 n2 c2 hs wb hxb.out hxb1.out hxb2.out)
  have k0 := Hk0.out
  have k1 := Hk1.out
  cases hV : validB H ds gs hs
  case false =>
    rw [hV] at cV
    have HF : Hid (bestD H ds gs hs = []) := by unfold Hid bestD; rw [hV]; rfl
    clear hV
    go_enter Try.func40, Try.ntmps40
    go_wp2_with fail
    rw [← Hwb.out]
    refine cV.out.mono ?_
    rintro e w1 ⟨rfl, he1⟩
    have HE1 := Lib.hid (HE.out.trans he1)
    clear he1 k0 k1
    go_wp2_with fail
    go_ret
    exact ⟨_, rfl, HE1.out.alloc _, by rw [HF.out]; exact own_weak (own_empty w1 w1.heap.size 3 1 (Nat.le_refl _)) HE1.out.size⟩
  case true =>
    rw [hV] at cV
    obtain ⟨v1, v2, hB, hS⟩ := validB_spec hV
    obtain ⟨h, hh⟩ := Int.eq_ofNat_of_zero_le (show 0 ≤ H by have := (houseB_spec hB).1; omega)
    subst hh
    rw [Int.toNat_natCast] at hS
    have HF : Hid (bestD h ds gs hs = (bestR (dD ds h gs hs) n1 n2 0 0).1) := by
      unfold Hid bestD
      rw [hV, Int.toNat_natCast]
      have := (disp_best (D := dD ds h gs hs) (fun g i => (hS.dist g i).2.1) gs.length hs.length [] 0 (by simp; omega) (by intro k; simp)).1
      rw [if_pos rfl, this, hl1.out, hl2.out]
      rfl
    rw [hl1.out] at v2
    have HS := Lib.hid hS
    have cK := Lib.hid (fun w1 (he : Ext wb w1) => spec_l31Best h A n c ds A1 n1 c1 gs hs HS v2 (by rw [← hl1.out]; exact v1) n2 0 0 A2 c2 w1 (hxb.out.keep he) (hxb1.out.keep he) (hxb2.out.keep he) hc2 (by have := hl2.out; omega) (by omega))
    clear hV hB hS v1
    go_enter Try.func40, Try.ntmps40
    go_wp2_with fail
    rw [← Hwb.out]
    refine cV.out.mono ?_
    rintro e w1 ⟨rfl, he1⟩
    have HE1 := Lib.hid he1
    clear k0 k1
    have k0 := (he1.cellAt w.heap.size hbl 0).trans Hk0.out
    have k1 := (he1.cellAt w.heap.size hbl 1).trans Hk1.out
    clear he1
    go_wp2_with fail
    refine (cK.out w1 HE1.out).mono ?_
    rintro e w2 ⟨v2', rfl, he2, ho2⟩
    have HE2 := Lib.hid (HE.out.trans (HE1.out.trans he2))
    have HO2 := Lib.hid (own_weak ho2 (HE.out.trans HE1.out).size)
    clear he2 ho2 k0 k1
    go_wp2_with fail
    go_ret
    exact ⟨_, rfl, HE2.out, by rw [HF.out]; exact HO2.out⟩
end Go.Proofs.Ytcmbjkidgemdaaa
