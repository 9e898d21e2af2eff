/- Rows that are written over in place, and what stays elsewhere; no condition but what stands at each theorem. -/
import Derived.Test.YtkelmeemblmggaaK5
namespace Go.Proofs.Ytkelmeemblmggaa
set_option linter.unusedSimpArgs false
set_option linter.unusedVariables false
open Go.RowKit
/-- Where a row of one's own may lie. -/
def At (lo hi : Nat) (v : Value) : Prop := ∀ g, v.ownBlock = some g → lo ≤ g ∧ g < hi
theorem At.of_own {w : World} {base : Nat} {e : TypeId} {m n : Nat} {v : Value} {L : List Value} (h : w.ownsRow base e m v n L) : At base w.heap.size v := h.lt
theorem At.mono {lo hi lo' hi' : Nat} {v : Value} (h : At lo hi v) (h1 : lo' ≤ lo) (h2 : hi ≤ hi') : At lo' hi' v := fun g hg => ⟨Nat.le_trans h1 (h g hg).1, Nat.lt_of_lt_of_le (h g hg).2 h2⟩
theorem own_kept {w w' : World} {base : Nat} {e : TypeId} {m n : Nat} {v v' : Value} {L : List Value} {lo hi lo' hi' : Nat} (h : w.ownsRow base e m v n L) (a : At lo hi v) (a' : At lo' hi' v') (hd : hi ≤ lo' ∨ hi' ≤ lo)
    (hg : w.grownBy w' v'.ownBlock) : w'.ownsRow base e m v n L := by
  refine h.kept hg ?_
  cases hv : v.ownBlock with
  | none => exact .inl rfl
  | some g =>
    refine .inr fun e => ?_
    have h1 := a g hv
    have h2 := a' g e.symm
    omega
theorem ext_kept {a w w' : World} {v' : Value} {lo hi : Nat} (h : Ext a w) (at_ : At lo hi v') (hl : a.heap.size ≤ lo) (hg : w.grownBy w' v'.ownBlock) : Ext a w' :=
  h.grown hg fun k hk => Nat.le_trans hl (at_ k hk).1
theorem Rd.kept {w w' : World} {m n : Nat} {A : Option Addr} {xs : List Value} (_h : Rd w m A n xs) (a : World) (ha : Rd a m A n xs) (e : Ext a w') : Rd w' m A n xs := ha.keep e
theorem mark_num {a b : Int} (h : a = b) : Value.int .i64 a = .int .i64 b := by rw [h]
theorem grown_trans {a b c : World} {row : Option Nat} (h : a.grownBy b row) (k : b.grownBy c row) : a.grownBy c row :=
  ⟨k.os.trans h.os, k.tape.trans h.tape, k.output.trans h.output, Nat.le_trans h.size k.size, fun i hi hn => (k.block i (Nat.lt_of_lt_of_le hi h.size) hn).trans (h.block i hi hn)⟩
theorem grown_set {a w : World} {g : Nat} (h : a.grownBy w (some g)) (o : Nat) (u : Value) : a.grownBy (w.setCell ⟨g, o, none⟩ u) (some g) :=
  grown_trans h ⟨rfl, rfl, rfl, by simp [World.setCell], fun k hk hn => Below.heap_setCell w _ u k (fun e => hn (by rw [e]))⟩
theorem grown_sets : ∀ (vs : List Value) {a w : World} {g : Nat} (o : Nat), a.grownBy w (some g) → a.grownBy (w.setCells g o vs) (some g)
  | [], _, _, _, _, h => h
  | v :: r, _, _, _, o, h => grown_sets r (o + 1) (grown_set h o v)
theorem grown_refl (w : World) (row : Option Nat) : w.grownBy w row := ⟨rfl, rfl, rfl, Nat.le_refl _, fun _ _ _ => rfl⟩
theorem own_block {w : World} {base : Nat} {e : TypeId} {m n c : Nat} {A : Option Addr} {L : List Value} (h : w.ownsRow base e m (.slice A n c) n L) :
    (A = none ∧ n = 0 ∧ c = 0) ∨ ∃ g cur, A = some ⟨g, 0, none⟩ ∧ base ≤ g ∧ Blk w g e cur ∧ n ≤ c ∧ c ≤ maxLen ∧ cur.size = c * m ∧ cur.toList.take (n * m) = L := by
  rcases h.2 with ⟨hv, hn⟩ | ⟨g, cap, cur, hv, hb, hg, hnc, hcm, hcs, ht⟩
  · injection hv with h1 h2 h3
    exact .inl ⟨h1, hn, h3⟩
  · injection hv with h1 h2 h3
    subst h3
    exact .inr ⟨g, cur, h1, hb, hg, hnc, hcm, hcs, ht⟩
end Go.Proofs.Ytkelmeemblmggaa
