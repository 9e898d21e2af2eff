/- Contracts of the laws' helpers on houses; no condition but what stands at each theorem. -/
import Derived.Test.YtkelmeemblmggaaH2
import Derived.Test.YtkelmeemblmggaaKQ
namespace Go.Proofs.Ytkelmeemblmggaa
set_option linter.unusedSimpArgs false
set_option linter.unusedVariables false
open Go.RowKit
theorem laws_szHouse (H : Int) (A : Option Addr) (n c : Nat) (left : Int) (w : World) (hl : 0 ≤ left) (hl2 : left ≤ 1048576) (hn : n ≤ 9223372036854775807) :
    Calls Try.prog 12 #[.agg #[.int .i64 H, .slice A n c], .int .i64 left] w fun e w' => e = .returned (.int .i64 (if left < n then -1 else left - n)) ∧ Ext w w' := by
  by_cases h : left < n
  · go_enter Try.func12, Try.ntmps12
    go_wp2_with (go_at_call 32; refine (laws_szDoorS A n c left _ hl hl2 hn).mono ?_; rintro e w1 ⟨he, rfl⟩; rw [if_pos h] at he; subst he)
    go_ret
    exact ⟨by first | rfl | (rw [if_pos h]), (Ext.refl _).alloc _⟩
  · go_enter Try.func12, Try.ntmps12
    go_wp2_with (go_at_call 32; refine (laws_szDoorS A n c left _ hl hl2 hn).mono ?_; rintro e w1 ⟨he, rfl⟩; rw [if_neg h] at he; subst he)
    go_ret
    exact ⟨by first | rfl | (rw [if_neg h]) | (simp [show ¬ left < (n : Int) by omega]), (Ext.refl _).alloc _⟩
set_option maxRecDepth 100000 in
set_option maxHeartbeats 1000000 in
theorem laws_toHouse (H : Int) (A : Option Addr) (n c : Nat) (ds : List GDoor) (w : World) (hx : Rd w 2 A n (ds.flatMap GDoor.enc)) (hn : n ≤ 1048576) :
    Calls Try.prog 14 #[.agg #[.int .i64 H, .slice A n c]] w fun e w' => ∃ g : Nat, e = .returned (.agg #[.int .i64 H, .slice (some ⟨g, 0, none⟩) n n]) ∧ Ext w w' ∧ w'.ownsRow w.heap.size 56 2 (.slice (some ⟨g, 0, none⟩) n n) n (ds.flatMap GDoor.enc) := by
  have HX := Lib.hid hx
  clear hx
  go_enter Try.func14, Try.ntmps14
  go_wp2_with fail
  refine (laws_toDoorS A n c ds _ (HX.out.keep ((((Ext.refl w).alloc _).alloc _).alloc _)) hn).mono ?_
  rintro e w1 ⟨g, rfl, he1, ho1⟩
  have k1 := he1.cellAt (w.heap.size + 1) (by simp)
  have f1 := he1.frozenAt (w.heap.size + 1) (by simp)
  have k2 := he1.cellAt (w.heap.size + 1 + 1) (by simp)
  have f2 := he1.frozenAt (w.heap.size + 1 + 1) (by simp)
  have hs1 := he1.size
  simp at hs1
  have m1 : w1.heap.size ≠ w.heap.size + 1 := by omega
  have m2 : w1.heap.size ≠ w.heap.size + 1 + 1 := by omega
  have n1 : w.heap.size + 1 ≠ w.heap.size + 1 + 1 := by omega
  have n2 : w.heap.size + 1 + 1 ≠ w.heap.size + 1 := by omega
  have l1 : w.heap.size + 1 < w1.heap.size := by omega
  have l2 : w.heap.size + 1 + 1 < w1.heap.size := by omega
  have HO1 := Lib.hid (own_weak (base' := w.heap.size + 1 + 1 + 1) ho1 (by simp))
  have HE1 : Hid (Ext w w1) := (((((Ext.refl w).alloc _).alloc _).alloc _).trans he1)
  clear ho1 he1
  go_wp2_with fail
  refine bodyPost_ret (v := .agg #[.int .i64 H, .slice (some ⟨g, 0, none⟩) n n]) (by simp [results, Try.results14, go_sem, *]) rfl ⟨g, rfl, ?_, ?_⟩
  · have he := HE1.out
    (repeat (first | exact Ext.refl _ | assumption | refine Ext.alloc ?_ _ | refine Ext.drew ?_ | refine Ext.drewN ?_ _ | refine Ext.setCell ?_ (by first | (simp; done) | (simp; omega)) _ | refine Ext.trans ?_ (by assumption)))
  · exact own_weak (own_far (own_far (own_far HO1.out (by omega) _) (by omega) _) (by omega) _) (by omega)
set_option maxRecDepth 100000 in
set_option maxHeartbeats 1000000 in
theorem laws_eqHouse (H : Int) (A : Option Addr) (n c : Nat) (A' : Option Addr) (n' c' : Nat) (ds : List GDoor) (w : World) (hx : Rd w 2 A n (ds.flatMap GDoor.enc)) (hy : Rd w 2 A' n' (ds.flatMap GDoor.enc)) :
    Calls Try.prog 17 #[.agg #[.int .i64 H, .slice A n c], .agg #[.int .i64 H, .slice A' n' c']] w fun e w' => e = .returned (.bool true) ∧ Ext w w' := by
  have HX := Lib.hid hx
  have HY := Lib.hid hy
  clear hx hy
  obtain ⟨wb, hwb⟩ : ∃ wb, wb = (w.alloc (.cells #[.int .i64 H, .slice A n c] 24)).alloc (.cells #[.int .i64 H, .slice A' n' c'] 24) := ⟨_, rfl⟩
  have HE : Hid (Ext w wb) := by unfold Hid; rw [hwb]; exact ((Ext.refl w).alloc _).alloc _
  have HC := Lib.hid (laws_eqDoorS A A' n c n' c' ds wb (HX.out.keep HE.out) (HY.out.keep HE.out))
  have Hwb := Lib.hid hwb
  clear hwb
  go_enter Try.func17, Try.ntmps17
  go_wp2_with fail
  rw [← Hwb.out]
  refine HC.out.mono ?_
  rintro e w1 ⟨rfl, he1⟩
  go_wp2_with fail
  go_ret
  exact ⟨rfl, HE.out.trans he1⟩
theorem laws_markHouse (H : Int) (A : Option Addr) (n c : Nat) (k : Int) (base : Nat) (L : List Value) (w : World) (ho : w.ownsRow base 56 2 (.slice A n c) n L) (hn : n ≤ 1048576) (hk0 : 0 ≤ k) (hk1 : k ≤ 1099511627776) :
    Calls Try.prog 19 #[.agg #[.int .i64 H, .slice A n c], .int .i64 k] w fun e w' => e = .returned (.int .i64 (k + ↑n * 2)) ∧ w'.ownsRow base 56 2 (.slice A n c) n ((markDoorL k n).flatMap GDoor.enc) ∧ w.grownBy w' (Value.slice A n c).ownBlock := by
  have HC := Lib.hid (laws_markDoorS A n c k base L _ (own_keep ho ((Ext.refl w).alloc (.cells #[.int .i64 H, .slice A n c] 24))) hn hk0 hk1)
  have HG : Hid (w.grownBy (w.alloc (.cells #[.int .i64 H, .slice A n c] 24)) (Value.slice A n c).ownBlock) := ⟨rfl, rfl, rfl, by simp, fun k hk _ => heap_alloc_old w _ hk⟩
  clear ho
  go_enter Try.func19, Try.ntmps19
  go_wp2_with fail
  refine HC.out.mono ?_
  rintro e w1 ⟨rfl, ho1, hg1⟩
  have HO1 := Lib.hid ho1
  have HG1 := Lib.hid hg1
  clear ho1 hg1
  go_wp2_with fail
  go_ret
  exact ⟨rfl, HO1.out, grown_trans HG.out HG1.out⟩
end Go.Proofs.Ytkelmeemblmggaa
