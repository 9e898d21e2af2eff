/- Texts of one proof, laid one behind the other (KI, S3, S4, KW); no condition but what stands at each theorem. -/
import Derived.Deep.RegionHeld3
import Derived.Maps.AppendAt
import Derived.Deep.AppendLies
import Derived.Test.YtfhibjehnoibeaaZA
import Derived.Test.YtfhibjehnoibeaaZD
/- A region that draws its order, walked by what holds between its operations; no condition but what stands at each theorem. -/
namespace Go.Proofs.Ytfhibjehnoibeaa
set_option linter.unusedSimpArgs false
set_option linter.unusedVariables false
open Go.RowKit
/-- n operations are left that may come in any order; Inv holds between them. -/
theorem wpAnyH_inv {P : Program} {md : Region.Mode} {ops : Array Oper} {Q : Exit → Act → World → Prop} {S : World → Prop} (f1 : Nat) (Inv : Nat → Array Bool → Act → World → Prop)
    (h0 : ∀ listed a w, Inv 0 listed a w → wpAnyH P md ops Q S f1 listed a w)
    (hs : ∀ n listed a w, Inv (n + 1) listed a w → Region.ready md ops listed ≠ [] ∧ ∀ i ∈ Region.ready md ops listed, wpOp P ops Q i (fun a' w' => S w' ∧ Inv n (listed.setIfInBounds i true) a' w') a w) :
    ∀ n listed a w, Inv n listed a w → wpAnyH P md ops Q S (f1 + n) listed a w
  | 0, listed, a, w, h => h0 listed a w h
  | n + 1, listed, a, w, h => by
    obtain ⟨h1, h2⟩ := hs n listed a w h
    exact ⟨fun e => absurd e h1, fun i hi => wpOp_mono (fun a' w' h3 => ⟨h3.1, wpAnyH_inv f1 Inv h0 hs n _ a' w' h3.2⟩) (h2 i hi)⟩
theorem wpAnyH_takeD {P : Program} {md : Region.Mode} {ops : Array Oper} {Q : Exit → Act → World → Prop} {S : World → Prop} {i : Nat} {oi : Oper} {v : Value} {fuel : Nat} {listed : Array Bool} {a : Act} {w : World} (d : Tmp) (hi : ops[i]? = some oi) (hd : oi.dst = some d)
    (hs : Region.noSelect ops = true) (hf : Region.free md ops listed i = true) (hr : (Region.ready md ops listed).contains i = true)
    (hQ : ∀ c a w, Q (.panic c) (a.put oi.dst v) w → Q (.panic c) a w) (hy : YieldsIf P ops S oi v a) (hS : S w)
    (h : wpAnyH P md ops Q S fuel (listed.setIfInBounds i true) (a.put (some d) v) w) : wpAnyH P md ops Q S (fuel + 1) listed a w := by
  rw [← hd] at h
  exact wpAnyH_take hi hs hf hr hQ hy hS h
theorem wpAnyH_start {P : Program} {md : Region.Mode} {ops : Array Oper} {Q : Exit → Act → World → Prop} {S : World → Prop} {fuel : Nat} (f1 n : Nat) {l : Array Bool} (l' : Array Bool) {a : Act} {w : World} (hf : fuel = f1 + n) (hl : l = l')
    (h : wpAnyH P md ops Q S (f1 + n) l' a w) : wpAnyH P md ops Q S fuel l a w := by
  subst hf
  subst hl
  exact h
/-- append of a row that came in to one of the call's own: what it reads as, how the world grew, where it lies. -/
theorem wp_appAt {P : Program} {o : Oper} {a : Act} {K : Act → World → Prop} {Q : Exit → Act → World → Prop} {t e : TypeId} {m : Nat} (hE : EI P t e m) (s x : Operand)
    (ho : o.op = .call { callee := .builtin .append, args := #[s, x], argTypes := #[t, t] }) (base : Nat) (W : World) (v : Value) (n : Nat) (xs : List Value) (hs : a.eval s = v) (hown : W.ownsRow base e m v n xs)
    (A : Option Addr) (k c : Nat) (ys : List Value) (hx : a.eval x = .slice A k c) (hr : Rd W m A k ys) (hA : A = none → c = 0) (h1 : ∀ u ∈ ys, u.oneCell' = true) (hn : n + k ≤ 1073741824) (hbase : base ≤ W.heap.size)
    (h : ∀ v' w1, w1.ownsRow base e m v' (n + k) (xs ++ ys) → W.grownBy w1 v.ownBlock → (∀ g, v'.ownBlock = some g → v.ownBlock = some g ∨ W.heap.size ≤ g) → K (a.put o.dst v') w1) : Oper.wp P o a W K Q := by
  obtain ⟨i, z, hu, hi, hz, hsz, hby, hzs, h0⟩ := hE
  subst hsz
  cases A with
  | none =>
    have hk := hr.none_len rfl
    subst hk
    have hc := hA rfl
    subst hc
    have hys : ys = [] := List.eq_nil_of_length_eq_zero (by rw [hr.1]; simp)
    subst hys
    have hrun := run_append_owned_none (P := P) (w := W) base t o.type e i i.size hu hi v n xs hown
    unfold Oper.wp
    simp [execOp, ho, resolve, invoke, builtin, hs, hx, hrun, Result.andThen]
    refine h v W (by simpa using hown) (grown_refl W _) fun g hg => .inl hg
  | some ad =>
    obtain ⟨v', w', hrun, h2, h3, -, h5⟩ := run_append_own_at (P := P) W base t o.type e i z i.size i.bytes hu hi hz rfl rfl hzs h0 v n xs hown ad k c ys hr.1 (hr.cells ad rfl) h1 (by unfold maxLen; omega) (by
      have := Nat.mul_le_mul_left (n + k) hby
      omega) hbase
    unfold Oper.wp
    simp [execOp, ho, resolve, invoke, builtin, hs, hx, hrun, Result.andThen]
    refine h v' w' h2 h3 fun g hg => ?_
    rcases h5 with e' | e'
    · exact .inl (by rw [← e', hg])
    · rw [hg] at e'
      injection e' with e'
      exact .inr (by rw [e']; exact Nat.le_refl _)
theorem step_appAt {P : Program} {ops : Array Oper} {o : Oper} {a : Act} {K : Act → World → Prop} {Q : Exit → Act → World → Prop} {E : Prop} {t e : TypeId} {m : Nat} (hE : EI P t e m) (hgd : o.guard = none) (s x : Operand)
    (ho : o.op = .call { callee := .builtin .append, args := #[s, x], argTypes := #[t, t] }) (base : Nat) (W : World) (v : Value) (n : Nat) (xs : List Value) (hs : a.eval s = v) (hown : W.ownsRow base e m v n xs)
    (A : Option Addr) (k c : Nat) (ys : List Value) (hx : a.eval x = .slice A k c) (hr : Rd W m A k ys) (hA : A = none → c = 0) (h1 : ∀ u ∈ ys, u.oneCell' = true) (hn : n + k ≤ 1073741824) (hbase : base ≤ W.heap.size)
    (h : ∀ v' w1, w1.ownsRow base e m v' (n + k) (xs ++ ys) → W.grownBy w1 v.ownBlock → (∀ g, v'.ownBlock = some g → v.ownBlock = some g ∨ W.heap.size ≤ g) → K (a.put o.dst v') w1) :
    if Region.wanted o (yielded ops a.tmps) = true then Oper.wp P o a W K Q else E := by
  rw [if_pos (by simp [Region.wanted, hgd])]
  exact wp_appAt hE s x ho base W v n xs hs hown A k c ys hx hr hA h1 hn hbase h
end Go.Proofs.Ytfhibjehnoibeaa
/- Contracts of functions that loop over rows and answer a number or a bool; no condition but what stands at each theorem. -/
namespace Go.Proofs.Ytfhibjehnoibeaa
set_option linter.unusedSimpArgs false
set_option linter.unusedVariables false
open Go.RowKit
def lastStep (obj : Int) (out : Int) (c : GCheck) : Int := if (c.o == obj) && c.th && decide (out < c.m) then c.m else out
def lastSeen (xs : List GCheck) (obj : Int) : Int := xs.foldl (lastStep obj) (-1)
def missStep (obj last : Int) (out : Int) (c : GCheck) : Int := if (c.o == obj) && (!c.th) && decide (last < c.m) && (decide (out < 0) || decide (c.m < out)) then c.m else out
def firstMissed (xs : List GCheck) (obj : Int) : Int := xs.foldl (missStep obj (lastSeen xs obj)) (-1)
def dutyStep (m : Int) (out : Int) (s : GShift) : Int := if shOk s && decide (s.f ≤ m) && decide (m < s.t) then out + 1 else out
def onDuty (xs : List GShift) (m : Int) : Int := xs.foldl (dutyStep m) 0
end Go.Proofs.Ytfhibjehnoibeaa
/- Contracts of ShiftsOk; no condition but what stands at each theorem. -/
namespace Go.Proofs.Ytfhibjehnoibeaa
set_option linter.unusedSimpArgs false
set_option linter.unusedVariables false
open Go.RowKit
def clash (rest : Int) (a b : GShift) : Bool := (a.g == b.g) && decide (b.f < a.t + rest) && decide (a.f < b.t + rest)
def stepC (rest : Int) (p : List GShift × Bool) (x : GShift) : List GShift × Bool := (p.1 ++ [x], p.2 && p.1.all fun t => !clash rest t x)
def noClash (rest : Int) (xs : List GShift) : Bool := (xs.foldl (stepC rest) ([], true)).2
theorem stepC_fst (rest : Int) (xs : List GShift) (p : List GShift × Bool) : (xs.foldl (stepC rest) p).1 = p.1 ++ xs := by
  induction xs generalizing p with
  | nil => simp
  | cons x xs ih => rw [List.foldl_cons, ih]; simp [stepC]
theorem noClash_snoc (rest : Int) (xs : List GShift) (x : GShift) : noClash rest (xs ++ [x]) = (noClash rest xs && xs.all fun t => !clash rest t x) := by
  unfold noClash
  rw [List.foldl_append, List.foldl_cons, List.foldl_nil]
  show ((xs.foldl (stepC rest) ([], true)).2 && (xs.foldl (stepC rest) ([], true)).1.all fun t => !clash rest t x) = _
  rw [stepC_fst]; simp
theorem noClash_take (rest : Int) (xs : List GShift) (h : noClash rest xs = true) : ∀ k, noClash rest (xs.take k) = true := by
  intro k
  by_cases hk : xs.length ≤ k
  · rw [List.take_of_length_le hk]; exact h
  · have : ∀ d k, xs.length - k = d → k ≤ xs.length → noClash rest (xs.take k) = true := by
      intro d
      induction d with
      | zero => intro k h1 h2; rw [List.take_of_length_le (by omega)]; exact h
      | succ d ih =>
        intro k h1 h2
        have h3 := ih (k + 1) (by omega) (by omega)
        have hx : xs[k]? = some (xs[k]'(by omega)) := List.getElem?_eq_getElem (by omega)
        rw [take_snoc hx, noClash_snoc] at h3
        simp only [Bool.and_eq_true] at h3
        exact h3.1
    exact this _ k rfl (by omega)
theorem noClash_bad (rest : Int) {xs : List GShift} {k : Nat} {x : GShift} (hx : xs[k]? = some x) {j : Nat} {t : GShift} (ht : xs[j]? = some t) (hj : j < k) (hc : clash rest t x = true) : noClash rest xs = false := by
  cases h : noClash rest xs with
  | false => rfl
  | true =>
    have h1 := noClash_take rest xs h (k + 1)
    rw [take_snoc hx, noClash_snoc] at h1
    simp only [Bool.and_eq_true, List.all_eq_true] at h1
    have := h1.2 t (List.mem_of_getElem? (i := j) (by rw [List.getElem?_take, if_pos hj]; exact ht))
    rw [hc] at this
    cases this
theorem shOk_bd {x : GShift} (h : shOk x = true) : 0 ≤ x.g ∧ x.g ≤ 20 ∧ 0 ≤ x.f ∧ x.f ≤ 10000 ∧ 0 ≤ x.t ∧ x.t ≤ 10000 := by
  simp [shOk, inB] at h; omega
theorem all_at {α : Type} {p : α → Bool} {xs : List α} (h : xs.all p = true) {k : Nat} {x : α} (hx : xs[k]? = some x) : p x = true := List.all_eq_true.1 h x (List.mem_of_getElem? hx)
def allSh (xs : List GShift) : Bool := xs.all shOk && decide (xs.length ≤ 20)
def shiftsOk (xs : List GShift) (rest : Int) : Bool := allSh xs && inB rest 0 1000 && noClash rest xs
def joinStep (p : Int) (r : Int) : Int := bits .or .i64 p r
def joinAll (xs : List Int) : Int := if xs.all (fun r => decide (0 ≤ r)) then xs.foldl joinStep 0 else 0
set_option maxRecDepth 100000 in
set_option maxHeartbeats 1000000 in
theorem impl_JoinRings (A : Option Addr) (n c : Nat) (xs : List Int) (w : World) (hx : Rd w 1 A n (xs.flatMap ienc)) :
    Calls Try.prog 7 #[.slice A n c] w fun e w' => e = .returned (.int .i64 (joinAll xs)) ∧ Ext w w' := by
  have hn := hx.2.1
  have hl := Lib.hid (hx.len ienc_len (by omega))
  go_enter Try.func7, Try.ntmps7
  go_wp2_with fail
  go_loopw [3, 8] (fun o i wr => ∃ (k : Nat) (z : Int), k ≤ n ∧ i = .int .i64 k ∧ o = .int .i64 z ∧ Hid (z = (xs.take k).foldl joinStep 0) ∧ Hid ((xs.take k).all (fun r => decide (0 ≤ r)) = true) ∧ Ext w wr) (fun _ i _ => n - (intOf i).toNat)
  case atStart => exact ⟨0, 0, Nat.zero_le _, rfl, rfl, rfl, rfl, Ext.refl _⟩
  case round =>
    obtain ⟨k, z, hk, rfl, rfl, hz, hp, hb⟩ := hrel
    by_cases hlt : k < n
    · obtain ⟨b, off, x, rfl, hbs, hxk, h0⟩ := ienc_at (hx.keep hb) hlt
      have HX := Lib.hid hxk
      have HB := Lib.hid hb
      clear hxk hb
      by_cases hneg : x < 0
      · go_wp2_with fail
        go_ret
        have : xs.all (fun r => decide (0 ≤ r)) = false := List.all_eq_false.2 ⟨x, List.mem_of_getElem? HX.out, by simp; omega⟩
        exact ⟨ret_int (by rw [joinAll, this]; rfl), HB.out⟩
      · go_wp2_with fail
        go_roundw
        case rel => exact ⟨k + 1, _, by omega, by go_num, rfl, by unfold Hid; rw [fold_step _ _ HX.out, ← hz.out]; rfl, by unfold Hid; rw [take_snoc HX.out, List.all_append, hp.out]; simp; omega, HB.out⟩
        case measure => simp [intOf]; omega
    · obtain rfl : k = n := by omega
      go_wp2_with fail
      go_ret
      have h1 := hp.out
      have h2 := hz.out
      rw [List.take_of_length_le (by rw [hl.out]; omega)] at h1 h2
      exact ⟨ret_int (by rw [joinAll, h1, h2]; rfl), hb⟩
end Go.Proofs.Ytfhibjehnoibeaa
/- An append, and where the grown row lies: in its old block, or in a new one; no condition but what stands at each theorem. -/
namespace Go.Proofs.Ytfhibjehnoibeaa
set_option linter.unusedSimpArgs false
set_option linter.unusedVariables false
open Go.RowKit
/-- Where an append's answer lies. -/
theorem append_where {P : Program} {w : World} {base : Nat} {t ty e : TypeId} {i : TypeInfo} {z : Value} (ht : P.underlying t = some (.slice e)) (hi : P.info? e = some i) (hz : i.zero = some z)
    {v : Value} {n : Nat} {xs : List Value} (hown : w.ownsRow base e i.size v n xs)
    {a : Addr} {m c : Nat} {news : List Value} (hl : news.length = m * i.size) (hnews : ∀ j u, news[j]? = some u → w.cell? (a.add j) = some u) (h1 : ∀ u ∈ news, u.oneCell' = true) (hm : 0 < m)
    (h63 : n + m ≤ maxLen) (hbytes : (n + m) * i.bytes ≤ 140737488355328) {v' : Value} {w' : World}
    (hr : (Builtin.append_ #[t, t] ty #[v, .slice (some a) m c]).run P w = .ok v' w') : v'.ownBlock = v.ownBlock ∨ v'.ownBlock = some w.heap.size := by
  have hsmall : n + m ≤ 9223372036854775807 := by simp only [maxLen] at h63; omega
  rcases hown.2 with ⟨rfl, rfl⟩ | ⟨g, cap, cur, rfl, hbg, hg, hnc, hcm, hcs, htake⟩
  · have h := run_append_nil (P := P) w t ty e i z ht hi hz a m c news hl hnews (by omega) (by omega) (by have hb := hbytes; simp only [Nat.zero_add] at hb; omega)
    rw [h] at hr
    injection hr with h1 h2
    right
    rw [← h1]
    rfl
  · by_cases hroom : n + m ≤ cap
    · have hfit : n * i.size + news.length ≤ cur.size := by rw [hl, hcs, ← Nat.add_mul]; exact Nat.mul_le_mul_right _ hroom
      have h := run_append_room (P := P) w t ty e i ht hi g n cap cur hg a m c news hl hnews h1 hroom hfit
      rw [h] at hr
      injection hr with h1 h2
      left
      rw [← h1]
      rfl
    · have holds : ∀ j u, xs[j]? = some u → w.cell? ((⟨g, 0, none⟩ : Addr).add j) = some u := hown.cells (g := g) rfl
      have h := run_append_grow (P := P) w t ty e i z ht hi hz ⟨g, 0, none⟩ n cap xs hown.1 holds a m c news hl hnews (by omega) (by omega) (growslice_fits (by omega) hbytes)
      rw [h] at hr
      injection hr with h1 h2
      right
      rw [← h1]
      rfl
/-- One element is appended: what append1H says, and where the row lies. -/
theorem append1W {P : Program} {ops : Array Oper} {rest : List Oper} {o : Oper} {a : Act} {Q : Exit → Act → World → Prop} {t e : TypeId} {m : Nat} (hE : EI P t e m) (hgd : o.guard = none) (s x : Operand)
    (ho : o.op = .call { callee := .builtin .append, args := #[s, x], argTypes := #[t, t] }) (base : Nat) (W : World) (T : TypeId) (v : Value) (n : Nat) (xs : List Value) (hs : a.eval s = v) (hown : W.ownsRow base e m v n xs)
    (news : List Value) (hx : a.eval x = .slice (some ⟨W.heap.size, 0, none⟩) 1 1) (hl : news.length = m) (h1 : ∀ u ∈ news, u.oneCell' = true) (hn : n ≤ 1073741824) (hbase : base ≤ W.heap.size)
    (h : ∀ v' w1, w1.ownsRow base e m v' (n + 1) (xs ++ news) → W.grownBy w1 v.ownBlock → (∀ g, v'.ownBlock = some g → v.ownBlock = some g ∨ W.heap.size ≤ g) → wpList P ops Q rest (a.put o.dst v') w1) : wpList P ops Q (o :: rest) a (W.alloc (.cells news.toArray T)) := by
  obtain ⟨i, z, hu, hi, hz, hsz, hby, hzs, h0⟩ := hE
  subst hsz
  have hnews : ∀ j u, news[j]? = some u → (W.alloc (.cells news.toArray T)).cell? ((⟨W.heap.size, 0, none⟩ : Addr).add j) = some u := by
    intro j u hu'
    rw [add_none, Nat.zero_add, World.cell?_alloc_new]
    simpa using hu'
  have hbytes : (n + 1) * i.bytes ≤ 140737488355328 := by
    have := Nat.mul_le_mul_left (n + 1) hby
    omega
  have h63 : n + 1 ≤ maxLen := by unfold maxLen; omega
  refine wpList_plain hgd fun _ hK => ?_
  obtain ⟨v', w', hr, h2, h3, h4⟩ := run_append_own (P := P) (W.alloc (.cells news.toArray T)) base t o.type e i z i.size i.bytes hu hi hz rfl rfl hzs h0 v n xs (hown.alloc _) ⟨W.heap.size, 0, none⟩ 1 1 news (by omega) hnews h1 h63 hbytes (by simp; omega)
  have hw := append_where hu hi hz (hown.alloc _) (by omega) hnews h1 (by omega) h63 hbytes hr
  unfold Oper.wp execOp
  simp only [ho, resolve, invoke, builtin, Sem.run_bind, Sem.run_pure, Result.andThen_ok, List.map_toArray, List.map_cons, List.map_nil, hs, hx, hr]
  refine hK _ _ (h v' w' h2 (grown_trans (grown_alloc (grown_refl W _) _) h3) fun g hg => ?_)
  rcases hw with e' | e'
  · exact .inl (by rw [← e', hg])
  · rw [hg] at e'
    injection e' with e'
    right
    rw [e']
    simp
/-- Two rows of one's own do not share a block. -/
def ApartW (a b : Value) : Prop := ∀ g, a.ownBlock = some g → b.ownBlock ≠ some g
theorem ApartW.symm {a b : Value} (h : ApartW a b) : ApartW b a := fun g k l => h g l k
theorem own_apartW {w w' : World} {base : Nat} {e : TypeId} {m n : Nat} {v v' : Value} {L : List Value} (h : w.ownsRow base e m v n L) (a : ApartW v v') (hg : w.grownBy w' v'.ownBlock) : w'.ownsRow base e m v n L := by
  refine h.kept hg ?_
  cases hv : v.ownBlock with
  | none => exact .inl rfl
  | some g => exact .inr fun e => a g hv e.symm
/-- A row that was grown, in its old block or in a new one, is still apart from another. -/
theorem ApartW.grown {w : World} {base : Nat} {e : TypeId} {m n : Nat} {v v' u : Value} {L : List Value} (h : ApartW u v) (hu : w.ownsRow base e m u n L) (hv : ∀ g, v'.ownBlock = some g → v.ownBlock = some g ∨ w.heap.size ≤ g) : ApartW u v' := by
  intro g hg hg'
  rcases hv g hg' with h1 | h1
  · exact h g hg h1
  · have := (hu.lt g hg).2
    omega
theorem ext_apartW {a w w' : World} {v : Value} {base : Nat} {e : TypeId} {m n : Nat} {L : List Value} (h : Ext a w) (ho : w.ownsRow base e m v n L) (hl : a.heap.size ≤ base) (hg : w.grownBy w' v.ownBlock) : Ext a w' :=
  h.grown hg fun k hk => Nat.le_trans hl (ho.lt k hk).1
/-- One element is appended in a drawn region: what the row reads as, how the world grew, where the row lies. -/
theorem step_appW {P : Program} {ops : Array Oper} {o : Oper} {a : Act} {K : Act → World → Prop} {Q : Exit → Act → World → Prop} {E : Prop} {t e : TypeId} {m : Nat} (hE : EI P t e m) (hgd : o.guard = none) (s x : Operand)
    (ho : o.op = .call { callee := .builtin .append, args := #[s, x], argTypes := #[t, t] }) (base : Nat) (W W1 : World) (T : TypeId) (news : List Value) (hW : W1 = W.alloc (.cells news.toArray T)) (v : Value) (n : Nat) (xs : List Value) (hs : a.eval s = v) (hown : W.ownsRow base e m v n xs)
    (hx : a.eval x = .slice (some ⟨W.heap.size, 0, none⟩) 1 1) (hl : news.length = m) (h1 : ∀ u ∈ news, u.oneCell' = true) (hn : n ≤ 1073741824) (hbase : base ≤ W.heap.size)
    (h : ∀ g cap w1, w1.ownsRow base e m (.slice (some ⟨g, 0, none⟩) (n + 1) cap) (n + 1) (xs ++ news) → W.grownBy w1 v.ownBlock → (∀ g', (Value.slice (some ⟨g, 0, none⟩) (n + 1) cap).ownBlock = some g' → v.ownBlock = some g' ∨ W.heap.size ≤ g') → K (a.put o.dst (.slice (some ⟨g, 0, none⟩) (n + 1) cap)) w1) :
    if Region.wanted o (yielded ops a.tmps) = true then Oper.wp P o a W1 K Q else E := by
  subst hW
  obtain ⟨i, z, hu, hi, hz, hsz, hby, hzs, h0⟩ := hE
  refine step_append_lies (W.alloc (.cells news.toArray T)) hgd s x t ho base e i z m i.bytes hu hi hz hsz rfl hzs h0 v n xs hs (hown.alloc _) ⟨W.heap.size, 0, none⟩ 1 1 news hx (by omega) ?_ h1 (by omega) (by unfold maxLen; omega) ?_ (by simp; omega) _ rfl ?_
  · intro j u hu'
    rw [add_none, Nat.zero_add, World.cell?_alloc_new]
    simpa using hu'
  · have := Nat.mul_le_mul_left (n + 1) hby
    omega
  · intro g cap w' ho' hg hv _
    refine h g cap w' ho' (grown_trans (grown_alloc (grown_refl W _) _) hg) fun g' hg' => ?_
    have e1 : g = g' := by simpa [Value.ownBlock] using hg'
    subst e1
    rcases hv with hv | hv
    · exact .inl hv
    · right; rw [hv]; simp
end Go.Proofs.Ytfhibjehnoibeaa
