/- Texts of one proof, laid one behind the other (KW, KL, SP8); no condition but what stands at each theorem. -/
import Derived.Deep.AppendLies
import Derived.Deep.RegionHeld3
import Derived.Test.YtfmifllcbbfpoaaGreatDoorZA
import Derived.Test.YtfmifllcbbfpoaaGreatDoorZI
import Derived.Test.YtfmifllcbbfpoaaGreatDoorZJ
import Derived.Test.YtfmifllcbbfpoaaGreatDoorZM
/- An append, and where the grown row lies: in its old block, or in a new one; no condition but what stands at each theorem. -/
namespace Go.Proofs.YtfmifllcbbfpoaaGreatDoor
set_option linter.unusedSimpArgs false
set_option linter.unusedVariables false
open Go.RowKit
/-- Where an append's answer lies. -/
theorem append_where {P : Program} {w : World} {base : Nat} {t ty e : TypeId} {i : TypeInfo} {z : Value} (ht : P.underlying t = some (.slice e)) (hi : P.info? e = some i) (hz : i.zero = some z)
    {v : Value} {n : Nat} {xs : List Value} (hown : w.ownsRow base e i.size v n xs)
    {a : Addr} {m c : Nat} {news : List Value} (hl : news.length = m * i.size) (hnews : ∀ j u, news[j]? = some u → w.cell? (a.add j) = some u) (h1 : ∀ u ∈ news, u.oneCell' = true) (hm : 0 < m)
    (h63 : n + m ≤ maxLen) (hbytes : (n + m) * i.bytes ≤ 140737488355328) {v' : Value} {w' : World}
    (hr : (Builtin.append_ #[t, t] ty #[v, .slice (some a) m c]).run P w = .ok v' w') : v'.ownBlock = v.ownBlock ∨ v'.ownBlock = some w.heap.size := by
  have hsmall : n + m ≤ 9223372036854775807 := by simp only [maxLen] at h63; omega
  rcases hown.2 with ⟨rfl, rfl⟩ | ⟨g, cap, cur, rfl, hbg, hg, hnc, hcm, hcs, htake⟩
  · have h := run_append_nil (P := P) w t ty e i z ht hi hz a m c news hl hnews (by omega) (by omega) (by have hb := hbytes; simp only [Nat.zero_add] at hb; omega)
    rw [h] at hr
    injection hr with h1 h2
    right
    rw [← h1]
    rfl
  · by_cases hroom : n + m ≤ cap
    · have hfit : n * i.size + news.length ≤ cur.size := by rw [hl, hcs, ← Nat.add_mul]; exact Nat.mul_le_mul_right _ hroom
      have h := run_append_room (P := P) w t ty e i ht hi g n cap cur hg a m c news hl hnews h1 hroom hfit
      rw [h] at hr
      injection hr with h1 h2
      left
      rw [← h1]
      rfl
    · have holds : ∀ j u, xs[j]? = some u → w.cell? ((⟨g, 0, none⟩ : Addr).add j) = some u := hown.cells (g := g) rfl
      have h := run_append_grow (P := P) w t ty e i z ht hi hz ⟨g, 0, none⟩ n cap xs hown.1 holds a m c news hl hnews (by omega) (by omega) (growslice_fits (by omega) hbytes)
      rw [h] at hr
      injection hr with h1 h2
      right
      rw [← h1]
      rfl
/-- One element is appended: what append1H says, and where the row lies. -/
theorem append1W {P : Program} {ops : Array Oper} {rest : List Oper} {o : Oper} {a : Act} {Q : Exit → Act → World → Prop} {t e : TypeId} {m : Nat} (hE : EI P t e m) (hgd : o.guard = none) (s x : Operand)
    (ho : o.op = .call { callee := .builtin .append, args := #[s, x], argTypes := #[t, t] }) (base : Nat) (W : World) (T : TypeId) (v : Value) (n : Nat) (xs : List Value) (hs : a.eval s = v) (hown : W.ownsRow base e m v n xs)
    (news : List Value) (hx : a.eval x = .slice (some ⟨W.heap.size, 0, none⟩) 1 1) (hl : news.length = m) (h1 : ∀ u ∈ news, u.oneCell' = true) (hn : n ≤ 1073741824) (hbase : base ≤ W.heap.size)
    (h : ∀ v' w1, w1.ownsRow base e m v' (n + 1) (xs ++ news) → W.grownBy w1 v.ownBlock → (∀ g, v'.ownBlock = some g → v.ownBlock = some g ∨ W.heap.size ≤ g) → wpList P ops Q rest (a.put o.dst v') w1) : wpList P ops Q (o :: rest) a (W.alloc (.cells news.toArray T)) := by
  obtain ⟨i, z, hu, hi, hz, hsz, hby, hzs, h0⟩ := hE
  subst hsz
  have hnews : ∀ j u, news[j]? = some u → (W.alloc (.cells news.toArray T)).cell? ((⟨W.heap.size, 0, none⟩ : Addr).add j) = some u := by
    intro j u hu'
    rw [add_none, Nat.zero_add, World.cell?_alloc_new]
    simpa using hu'
  have hbytes : (n + 1) * i.bytes ≤ 140737488355328 := by
    have := Nat.mul_le_mul_left (n + 1) hby
    omega
  have h63 : n + 1 ≤ maxLen := by unfold maxLen; omega
  refine wpList_plain hgd fun _ hK => ?_
  obtain ⟨v', w', hr, h2, h3, h4⟩ := run_append_own (P := P) (W.alloc (.cells news.toArray T)) base t o.type e i z i.size i.bytes hu hi hz rfl rfl hzs h0 v n xs (hown.alloc _) ⟨W.heap.size, 0, none⟩ 1 1 news (by omega) hnews h1 h63 hbytes (by simp; omega)
  have hw := append_where hu hi hz (hown.alloc _) (by omega) hnews h1 (by omega) h63 hbytes hr
  unfold Oper.wp execOp
  simp only [ho, resolve, invoke, builtin, Sem.run_bind, Sem.run_pure, Result.andThen_ok, List.map_toArray, List.map_cons, List.map_nil, hs, hx, hr]
  refine hK _ _ (h v' w' h2 (grown_trans (grown_alloc (grown_refl W _) _) h3) fun g hg => ?_)
  rcases hw with e' | e'
  · exact .inl (by rw [← e', hg])
  · rw [hg] at e'
    injection e' with e'
    right
    rw [e']
    simp
/-- Two rows of one's own do not share a block. -/
def ApartW (a b : Value) : Prop := ∀ g, a.ownBlock = some g → b.ownBlock ≠ some g
theorem ApartW.symm {a b : Value} (h : ApartW a b) : ApartW b a := fun g k l => h g l k
theorem own_apartW {w w' : World} {base : Nat} {e : TypeId} {m n : Nat} {v v' : Value} {L : List Value} (h : w.ownsRow base e m v n L) (a : ApartW v v') (hg : w.grownBy w' v'.ownBlock) : w'.ownsRow base e m v n L := by
  refine h.kept hg ?_
  cases hv : v.ownBlock with
  | none => exact .inl rfl
  | some g => exact .inr fun e => a g hv e.symm
/-- A row that was grown, in its old block or in a new one, is still apart from another. -/
theorem ApartW.grown {w : World} {base : Nat} {e : TypeId} {m n : Nat} {v v' u : Value} {L : List Value} (h : ApartW u v) (hu : w.ownsRow base e m u n L) (hv : ∀ g, v'.ownBlock = some g → v.ownBlock = some g ∨ w.heap.size ≤ g) : ApartW u v' := by
  intro g hg hg'
  rcases hv g hg' with h1 | h1
  · exact h g hg h1
  · have := (hu.lt g hg).2
    omega
theorem ext_apartW {a w w' : World} {v : Value} {base : Nat} {e : TypeId} {m n : Nat} {L : List Value} (h : Ext a w) (ho : w.ownsRow base e m v n L) (hl : a.heap.size ≤ base) (hg : w.grownBy w' v.ownBlock) : Ext a w' :=
  h.grown hg fun k hk => Nat.le_trans hl (ho.lt k hk).1
/-- One element is appended in a drawn region: what the row reads as, how the world grew, where the row lies. -/
theorem step_appW {P : Program} {ops : Array Oper} {o : Oper} {a : Act} {K : Act → World → Prop} {Q : Exit → Act → World → Prop} {E : Prop} {t e : TypeId} {m : Nat} (hE : EI P t e m) (hgd : o.guard = none) (s x : Operand)
    (ho : o.op = .call { callee := .builtin .append, args := #[s, x], argTypes := #[t, t] }) (base : Nat) (W W1 : World) (T : TypeId) (news : List Value) (hW : W1 = W.alloc (.cells news.toArray T)) (v : Value) (n : Nat) (xs : List Value) (hs : a.eval s = v) (hown : W.ownsRow base e m v n xs)
    (hx : a.eval x = .slice (some ⟨W.heap.size, 0, none⟩) 1 1) (hl : news.length = m) (h1 : ∀ u ∈ news, u.oneCell' = true) (hn : n ≤ 1073741824) (hbase : base ≤ W.heap.size)
    (h : ∀ g cap w1, w1.ownsRow base e m (.slice (some ⟨g, 0, none⟩) (n + 1) cap) (n + 1) (xs ++ news) → W.grownBy w1 v.ownBlock → (∀ g', (Value.slice (some ⟨g, 0, none⟩) (n + 1) cap).ownBlock = some g' → v.ownBlock = some g' ∨ W.heap.size ≤ g') → K (a.put o.dst (.slice (some ⟨g, 0, none⟩) (n + 1) cap)) w1) :
    if Region.wanted o (yielded ops a.tmps) = true then Oper.wp P o a W1 K Q else E := by
  subst hW
  obtain ⟨i, z, hu, hi, hz, hsz, hby, hzs, h0⟩ := hE
  refine step_append_lies (W.alloc (.cells news.toArray T)) hgd s x t ho base e i z m i.bytes hu hi hz hsz rfl hzs h0 v n xs hs (hown.alloc _) ⟨W.heap.size, 0, none⟩ 1 1 news hx (by omega) ?_ h1 (by omega) (by unfold maxLen; omega) ?_ (by simp; omega) _ rfl ?_
  · intro j u hu'
    rw [add_none, Nat.zero_add, World.cell?_alloc_new]
    simpa using hu'
  · have := Nat.mul_le_mul_left (n + 1) hby
    omega
  · intro g cap w' ho' hg hv _
    refine h g cap w' ho' (grown_trans (grown_alloc (grown_refl W _) _) hg) fun g' hg' => ?_
    have e1 : g = g' := by simpa [Value.ownBlock] using hg'
    subst e1
    rcases hv with hv | hv
    · exact .inl hv
    · right; rw [hv]; simp
end Go.Proofs.YtfmifllcbbfpoaaGreatDoor
/- Lengths of a museum's rows behind acts, rows that lie apart from a museum's; no condition but what stands at each theorem. -/
namespace Go.Proofs.YtfmifllcbbfpoaaGreatDoor
set_option linter.unusedSimpArgs false
set_option linter.unusedVariables false
open Go.RowKit Go.Sort
/-- The lengths of a museum's rows behind acts. -/
def LensOk (m m' : GMuseum) : Prop := m'.ds.length = m.ds.length ∧ m'.fs.length = m.fs.length ∧ m'.ps.length = m.ps.length ∧ m'.gs.length = m.gs.length ∧ (m'.rs.length ≤ m.rs.length ∨ m'.rs.length ≤ 31)
theorem LensOk.refl (m : GMuseum) : LensOk m m := ⟨rfl, rfl, rfl, rfl, .inl (Nat.le_refl _)⟩
theorem LensOk.trans {a b c : GMuseum} (h : LensOk a b) (k : LensOk b c) : LensOk a c := by
  obtain ⟨h1, h2, h3, h4, h5⟩ := h
  obtain ⟨k1, k2, k3, k4, k5⟩ := k
  exact ⟨k1.trans h1, k2.trans h2, k3.trans h3, k4.trans h4, by omega⟩
theorem act_lens (m : GMuseum) (a : GAct) : LensOk m (actM m a) := by
  unfold actM
  split
  · split
    · obtain ⟨h1, h2, h3, h4, h5⟩ := guardM_lens m a.a a.b
      exact ⟨h1, h2, h3, h4, .inl (by omega)⟩
    · split
      · obtain ⟨h1, h2, h3, h4, -⟩ := nightM_lens m ⟨a.a, a.b, a.c, a.d⟩
        exact ⟨h1, h2, h3, h4, nightM_rs m _⟩
      · split
        · obtain ⟨h1, h2, h3, h4, h5⟩ := daysM_lens m a.a
          exact ⟨h1, h2, h3, h4, .inl (by omega)⟩
        · exact LensOk.refl m
  · exact LensOk.refl m
theorem run_lens : ∀ (acts : List GAct) (m : GMuseum) (l : List Int), LensOk m (runF m acts l).1
  | [], m, _ => LensOk.refl m
  | a :: r, m, l => by
    rw [runF]
    exact (act_lens m a).trans (run_lens r _ _)
theorem fit_lens {w : World} {base : Nat} {v v' : MV} {m m' : GMuseum} (h : MOwn w base v m') (hl : LensOk m m') {w' : World} (hx : MRd w' v' m) (hf : MFit v') : MFit v := by
  obtain ⟨a1, a2, a3, a4, a5⟩ := h.rd.lens
  obtain ⟨b1, b2, b3, b4, b5⟩ := hx.lens
  obtain ⟨c1, c2, c3, c4, c5⟩ := hl
  have d1 := hf.nd
  have d2 := hf.nf
  have d3 := hf.np
  have d4 := hf.ng
  have d5 := hf.nr
  exact MFit.of_own h (by omega) (by omega) (by omega) (by omega) (by omega)
/-- A museum's rows lie apart from another row. -/
def MApart (v : MV) (o : Value) : Prop := Apart v.sd.v o ∧ Apart v.sf.v o ∧ Apart v.sp.v o ∧ Apart v.sg.v o ∧ Apart v.sr.v o
theorem MOwn.grown {w w' : World} {base : Nat} {v : MV} {m : GMuseum} {o : Value} (h : MOwn w base v m) (a : MApart v o) (g : w.grownBy w' o.ownBlock) : MOwn w' base v m :=
  ⟨h.eH, h.ed, own_apart h.od a.1 g, own_apart h.of_ a.2.1 g, own_apart h.op a.2.2.1 g, own_apart h.og a.2.2.2.1 g, own_apart h.or_ a.2.2.2.2 g, h.ap⟩
theorem MApart.moved {w : World} {base : Nat} {v : MV} {m : GMuseum} {o o' : Value} (a : MApart v o) (h : MOwn w base v m) (ho : ∀ g, o'.ownBlock = some g → o.ownBlock = some g ∨ w.heap.size ≤ g) : MApart v o' := by
  have key : ∀ {e : TypeId} {mm n : Nat} {u : Value} {L : List Value}, w.ownsRow base e mm u n L → Apart u o → Apart u o' := fun hu ha g hg hg' => by
    rcases ho g hg' with h1 | h1
    · exact ha g hg h1
    · have := (hu.lt g hg).2
      omega
  exact ⟨key h.od a.1, key h.of_ a.2.1, key h.op a.2.2.1, key h.og a.2.2.2.1, key h.or_ a.2.2.2.2⟩
theorem MApart.of_at {lo hi lo' hi' : Nat} {v : MV} {o : Value} (a : MAt lo hi v) (b : At lo' hi' o) (h : hi ≤ lo' ∨ hi' ≤ lo) : MApart v o :=
  ⟨Apart.of_at a.1 b h, Apart.of_at a.2.1 b h, Apart.of_at a.2.2.1 b h, Apart.of_at a.2.2.2.1 b h, Apart.of_at a.2.2.2.2 b h⟩
theorem MApart.nil (v : MV) : MApart v (.slice none 0 0) := by
  have : ∀ u, Apart u (.slice none 0 0) := fun u g _ h => by simp [Value.ownBlock] at h
  exact ⟨this _, this _, this _, this _, this _⟩
/-- A museum's rows lie in lo..hi, another row lies elsewhere. -/
def MRange (b : Nat) (w : World) (v : MV) (o : Value) : Prop := ∃ lo hi, b ≤ lo ∧ hi ≤ w.heap.size ∧ MAt lo hi v ∧ ∀ g, o.ownBlock = some g → g < lo ∨ hi ≤ g
theorem MRange.grow {b b' : Nat} {w w' : World} {v : MV} {o : Value} (h : MRange b w v o) (hb : b' ≤ b) (hs : w.heap.size ≤ w'.heap.size) : MRange b' w' v o := by
  obtain ⟨lo, hi, h1, h2, h3, h4⟩ := h
  exact ⟨lo, hi, by omega, by omega, h3, h4⟩
theorem own_base {w : World} {base lo hi : Nat} {e : TypeId} {m n : Nat} {v : Value} {L : List Value} (h : w.ownsRow base e m v n L) (a : At lo hi v) : w.ownsRow lo e m v n L := by
  obtain ⟨h1, h2⟩ := h
  rcases h2 with h2 | ⟨g, cap, cur, rfl, hg, r⟩
  · exact ⟨h1, .inl h2⟩
  · exact ⟨h1, .inr ⟨g, cap, cur, rfl, (a g rfl).1, r⟩⟩
theorem MOwn.base {w : World} {base lo hi : Nat} {v : MV} {m : GMuseum} (h : MOwn w base v m) (a : MAt lo hi v) : MOwn w lo v m :=
  ⟨h.eH, h.ed, own_base h.od a.1, own_base h.of_ a.2.1, own_base h.op a.2.2.1, own_base h.og a.2.2.2.1, own_base h.or_ a.2.2.2.2, h.ap⟩
/-- A museum and numbers, all in rows of the call's own. -/
def RunPost (M : GMuseum) (L : List Int) (w : World) (e : Ending) (w' : World) : Prop :=
  ∃ (v : MV) (o : Value), e = .returned (.tuple #[v.val, o]) ∧ Ext w w' ∧ MOwn w' w.heap.size v M ∧ w'.ownsRow w.heap.size 3 1 o L.length (L.flatMap ienc) ∧ MApart v o ∧ MRange w.heap.size w' v o
theorem run_no {m : GMuseum} {acts : List GAct} (h : runB m acts = false) : runM m acts = m ∧ runL m acts = [] := by
  unfold runM runL; rw [h]; exact ⟨rfl, rfl⟩
theorem run_yes {m : GMuseum} {acts : List GAct} (h : runB m acts = true) : runM m acts = (runF m acts []).1 ∧ runL m acts = (runF m acts []).2 := by
  unfold runM runL; rw [h]; exact ⟨rfl, rfl⟩
theorem one_intR (z : Int) : ∀ u ∈ [Value.int .i64 z], u.oneCell' = true := by intro u hu; simp at hu; subst hu; rfl
end Go.Proofs.YtfmifllcbbfpoaaGreatDoor
/- Contract of the program's RunActs; no condition but what stands at each theorem. -/
namespace Go.Proofs.YtfmifllcbbfpoaaGreatDoor
set_option linter.unusedSimpArgs false
set_option linter.unusedVariables false
open Go.RowKit Go.Sort
set_option maxRecDepth 100000 in
set_option maxHeartbeats 8000000 in
theorem impl_RunActs (v : MV) (m : GMuseum) (A5 : Option Addr) (n5 c5 : Nat) (xs : List GAct) (w : World) (hx : MRd w v m) (hf : MFit v) (hxa : Rd w 5 A5 n5 (xs.flatMap GAct.enc)) (hM : Hid (∃ k, w.cell? ⟨0, 0, none⟩ = some (.int .i64 k))) : Calls Tryz.prog 26 #[v.val, .slice A5 n5 c5] w (RunPost (runM m xs) (runL m xs) w) := by
  have hn5 := hxa.2.1
  obtain ⟨wb, hwb⟩ : ∃ wb, wb = w.alloc (.cells v.cells 30) := ⟨_, rfl⟩
  have hbx := MBox.new hwb
  have hE : Ext w wb := by rw [hwb]; exact (Ext.refl w).alloc _
  obtain ⟨wz, hwz⟩ : ∃ wz, wz = wb.alloc (.cells #[.int .i64 0, .slice none 0 0, .slice none 0 0, .slice none 0 0, .slice none 0 0, .int .i64 0, .slice none 0 0] 30) := ⟨_, rfl⟩
  have hEz : Ext wb wz := by rw [hwz]; exact (Ext.refl wb).alloc _
  have hsb : wb.heap.size = w.heap.size + 1 := by rw [hwb]; simp
  have hsz : wz.heap.size = w.heap.size + 1 + 1 := by rw [hwz]; simp [hsb]
  have HBz : Hid (Blk wz (w.heap.size + 1) 30 #[.int .i64 0, .slice none 0 0, .slice none 0 0, .slice none 0 0, .slice none 0 0, .int .i64 0, .slice none 0 0]) := Lib.hid (by rw [hwz, ← hsb]; exact Blk.new _ _ _)
  have HX := Lib.hid (hx.keep (hE.trans hEz))
  have HA := Lib.hid (hxa.keep (hE.trans hEz))
  have hla := Lib.hid (hxa.len GAct.len (by omega))
  have HB := Lib.hid (hbx.keep hEz)
  have HE := Lib.hid (hE.trans hEz)
  have HMX := Lib.hid (max_ext hM.out (hE.trans hEz))
  have cC := Lib.hid (impl_copyMuseum v m wz HX.out hf)
  have HFit : Hid (∀ (W : World) (base : Nat) (u : MV) (l : List Int) (ys : List GAct), MOwn W base u (runF m ys l).1 → MFit u) := Lib.hid fun W base u l ys h => fit_lens h (run_lens ys m l) hx hf
  have cM := Lib.hid (fun W (he : Ext wz W) => impl_MuseumOk v m W (HX.out.keep he))
  obtain ⟨Hh, ⟨A0, n0, c0⟩, ⟨A1, n1, c1⟩, ⟨A2, n2, c2⟩, ⟨A3, n3, c3⟩, day, ⟨A4, n4, c4⟩⟩ := v
  have hH : Hh = m.H := hx.eH
  subst hH
  have Hwz : Hid (wz = (w.alloc (.cells #[.int .i64 m.H, .slice A0 n0 c0, .slice A1 n1 c1, .slice A2 n2 c2, .slice A3 n3 c3, .int .i64 m.d, .slice A4 n4 c4] 30)).alloc (.cells #[.int .i64 0, .slice none 0 0, .slice none 0 0, .slice none 0 0, .slice none 0 0, .int .i64 0, .slice none 0 0] 30)) := Lib.hid (by rw [hwz, hwb, ← hx.ed]; rfl)
  have hday : day = m.d := hx.ed
  subst hday
  have CM : Hid (∀ W, Ext wz W → Calls Tryz.prog 13 #[.agg #[.int .i64 m.H, .slice A0 n0 c0, .slice A1 n1 c1, .slice A2 n2 c2, .slice A3 n3 c3, .int .i64 m.d, .slice A4 n4 c4]] W fun e w' => e = .returned (.bool (museumB m)) ∧ Ext W w') := cM
  have hzl : w.heap.size + 1 < wz.heap.size := by omega
  clear hwb hwz hbx hE hEz hx hf hxa hsb hsz cM
  show Calls Tryz.prog 26 #[.agg #[.int .i64 m.H, .slice A0 n0 c0, .slice A1 n1 c1, .slice A2 n2 c2, .slice A3 n3 c3, .int .i64 m.d, .slice A4 n4 c4], .slice A5 n5 c5] w _
  obtain ⟨b0, b1, b2, b3, b4, b5, b6⟩ := HB.out.cell
  simp only at b0 b1 b2 b3 b4 b5 b6
  have Hb0 := Lib.hid b0
  rw [Hwz.out] at b0 b1 b2 b3 b4 b5 b6
  go_enter Tryz.func26, Tryz.ntmps26
  go_wp2_with (go_at_call 42; refine (fun h : Hid _ => h.out) ?_)
  unfold Hid
  rw [← Hwz.out]
  refine cC.out.mono ?_
  rintro e w1 ⟨v1, hev, he1, ho1⟩
  obtain ⟨Hh1, ⟨A01, n01, c01⟩, ⟨A11, n11, c11⟩, ⟨A21, n21, c21⟩, ⟨A31, n31, c31⟩, day1, ⟨A41, n41, c41⟩⟩ := v1
  simp only [MV.val, MV.cells] at hev
  subst hev
  obtain ⟨w2, hw2⟩ : ∃ w2, w2 = w1.alloc (.cells #[.int .i64 Hh1, .slice A01 n01 c01, .slice A11 n11 c11, .slice A21 n21 c21, .slice A31 n31 c31, .int .i64 day1, .slice A41 n41 c41] 30) := ⟨_, rfl⟩
  have hB6 : Blk w2 w1.heap.size 30 #[.int .i64 Hh1, .slice A01 n01 c01, .slice A11 n11 c11, .slice A21 n21 c21, .slice A31 n31 c31, .int .i64 day1, .slice A41 n41 c41] := by rw [hw2]; exact Blk.new _ _ _
  have he2 : Ext w1 w2 := by rw [hw2]; exact (Ext.refl _).alloc _
  have HAT := Lib.hid (MAt.of_own ho1)
  have HB6 := Lib.hid hB6
  have HO2 := Lib.hid (ho1.keep he2)
  have HE2 := Lib.hid (he1.trans he2)
  have HW2 := Lib.hid hw2
  have hz2 : wz.heap.size ≤ w1.heap.size := he1.size
  have hs2 : w2.heap.size = w1.heap.size + 1 := by rw [hw2]; simp
  clear hB6 he2 ho1 he1 hw2 b0 b1 b2 b3 b4 b5 b6 cC
  obtain ⟨b0, b1, b2, b3, b4, b5, b6⟩ := (HB.out.keep HE2.out).cell
  simp only at b0 b1 b2 b3 b4 b5 b6
  rw [HW2.out] at b0 b1 b2 b3 b4 b5 b6
  go_wp2_with (go_at_call 13; refine (fun h : Hid _ => h.out) ?_)
  unfold Hid
  rw [← HW2.out]
  refine (CM.out w2 HE2.out).mono ?_
  rintro e w3 ⟨rfl, he3⟩
  have HE3 := Lib.hid (HE2.out.trans he3)
  have HO3 := Lib.hid (HO2.out.keep he3)
  have HB63 := Lib.hid (HB6.out.keep he3)
  have hz3 : w2.heap.size ≤ w3.heap.size := he3.size
  clear he3 b0 b1 b2 b3 b4 b5 b6
  cases hm : museumB m
  case false =>
    have hrn := run_no (m := m) (acts := xs) (by unfold runB; rw [hm]; rfl)
    have HM := Lib.hid hrn.1
    have HLs := Lib.hid hrn.2
    have Bz := Blk.keep HBz.out HE3.out
    have x0 := Bz.cellAt (i := 0) (by simp)
    have x1 := Bz.cellAt (i := 1) (by simp)
    have x2 := Bz.cellAt (i := 2) (by simp)
    have x3 := Bz.cellAt (i := 3) (by simp)
    have x4 := Bz.cellAt (i := 4) (by simp)
    have x5 := Bz.cellAt (i := 5) (by simp)
    have x6 := Bz.cellAt (i := 6) (by simp)
    have fz := Bz.free
    simp at x0 x1 x2 x3 x4 x5 x6
    have lz : w.heap.size + 1 < w3.heap.size := Bz.lt
    have y0 := HB63.out.cellAt (i := 0) (by simp)
    have y1 := HB63.out.cellAt (i := 1) (by simp)
    have y2 := HB63.out.cellAt (i := 2) (by simp)
    have y3 := HB63.out.cellAt (i := 3) (by simp)
    have y4 := HB63.out.cellAt (i := 4) (by simp)
    have y5 := HB63.out.cellAt (i := 5) (by simp)
    have y6 := HB63.out.cellAt (i := 6) (by simp)
    simp at y0 y1 y2 y3 y4 y5 y6
    go_wp2_with fail
    obtain ⟨b6', k6⟩ := store7 Bz (.int .i64 Hh1) (.slice A01 n01 c01) (.slice A11 n11 c11) (.slice A21 n21 c21) (.slice A31 n31 c31) (.int .i64 day1) (.slice A41 n41 c41)
    have hO6 := HO3.out.out k6 (by omega)
    have hE6 := k6.ext (HE.out.trans HE3.out) (by omega)
    have hz6 := k6.size
    have hL6 := World.ownsRow_nil w3 w3.heap.size 3 1
    generalize (((((((w3.setCell ⟨w.heap.size + 1, 0, none⟩ (.int .i64 Hh1)).setCell ⟨w.heap.size + 1, 1, none⟩ (.slice A01 n01 c01)).setCell ⟨w.heap.size + 1, 2, none⟩ (.slice A11 n11 c11)).setCell ⟨w.heap.size + 1, 3, none⟩ (.slice A21 n21 c21)).setCell ⟨w.heap.size + 1, 4, none⟩ (.slice A31 n31 c31)).setCell ⟨w.heap.size + 1, 5, none⟩ (.int .i64 day1)).setCell ⟨w.heap.size + 1, 6, none⟩ (.slice A41 n41 c41)) = w9 at b6' k6 hO6 hE6 hz6 ⊢
    have t0 := b6'.cellAt (i := 0) (by simp)
    have t1 := b6'.cellAt (i := 1) (by simp)
    have t2 := b6'.cellAt (i := 2) (by simp)
    have t3 := b6'.cellAt (i := 3) (by simp)
    have t4 := b6'.cellAt (i := 4) (by simp)
    have t5 := b6'.cellAt (i := 5) (by simp)
    have t6 := b6'.cellAt (i := 6) (by simp)
    simp at t0 t1 t2 t3 t4 t5 t6
    refine bodyPost_ret (v := .tuple #[MV.val ⟨Hh1, ⟨A01, n01, c01⟩, ⟨A11, n11, c11⟩, ⟨A21, n21, c21⟩, ⟨A31, n31, c31⟩, day1, ⟨A41, n41, c41⟩⟩, .slice none 0 0]) (by simp [results, Tryz.results26, go_sem, t0, t1, t2, t3, t4, t5, t6, MV.val, MV.cells]) rfl ?_
    exact ⟨_, _, rfl, hE6, by rw [HM.out]; exact hO6.weak (by omega), by rw [HLs.out]; exact World.ownsRow_nil _ _ _ _, MApart.nil _, ⟨wz.heap.size, w1.heap.size, by omega, by omega, HAT.out, fun g hg => by cases hg⟩⟩
  by_cases h40 : n5 ≤ 40
  case neg =>
    have h40' : (40 : Int) < (n5 : Int) := by omega
    have hrn := run_no (m := m) (acts := xs) (by unfold runB; rw [hla.out]; simp [h40])
    have HM := Lib.hid hrn.1
    have HLs := Lib.hid hrn.2
    have Bz := Blk.keep HBz.out HE3.out
    have x0 := Bz.cellAt (i := 0) (by simp)
    have x1 := Bz.cellAt (i := 1) (by simp)
    have x2 := Bz.cellAt (i := 2) (by simp)
    have x3 := Bz.cellAt (i := 3) (by simp)
    have x4 := Bz.cellAt (i := 4) (by simp)
    have x5 := Bz.cellAt (i := 5) (by simp)
    have x6 := Bz.cellAt (i := 6) (by simp)
    have fz := Bz.free
    simp at x0 x1 x2 x3 x4 x5 x6
    have lz : w.heap.size + 1 < w3.heap.size := Bz.lt
    have y0 := HB63.out.cellAt (i := 0) (by simp)
    have y1 := HB63.out.cellAt (i := 1) (by simp)
    have y2 := HB63.out.cellAt (i := 2) (by simp)
    have y3 := HB63.out.cellAt (i := 3) (by simp)
    have y4 := HB63.out.cellAt (i := 4) (by simp)
    have y5 := HB63.out.cellAt (i := 5) (by simp)
    have y6 := HB63.out.cellAt (i := 6) (by simp)
    simp at y0 y1 y2 y3 y4 y5 y6
    go_wp2_with fail
    obtain ⟨b6', k6⟩ := store7 Bz (.int .i64 Hh1) (.slice A01 n01 c01) (.slice A11 n11 c11) (.slice A21 n21 c21) (.slice A31 n31 c31) (.int .i64 day1) (.slice A41 n41 c41)
    have hO6 := HO3.out.out k6 (by omega)
    have hE6 := k6.ext (HE.out.trans HE3.out) (by omega)
    have hz6 := k6.size
    have hL6 := World.ownsRow_nil w3 w3.heap.size 3 1
    generalize (((((((w3.setCell ⟨w.heap.size + 1, 0, none⟩ (.int .i64 Hh1)).setCell ⟨w.heap.size + 1, 1, none⟩ (.slice A01 n01 c01)).setCell ⟨w.heap.size + 1, 2, none⟩ (.slice A11 n11 c11)).setCell ⟨w.heap.size + 1, 3, none⟩ (.slice A21 n21 c21)).setCell ⟨w.heap.size + 1, 4, none⟩ (.slice A31 n31 c31)).setCell ⟨w.heap.size + 1, 5, none⟩ (.int .i64 day1)).setCell ⟨w.heap.size + 1, 6, none⟩ (.slice A41 n41 c41)) = w9 at b6' k6 hO6 hE6 hz6 ⊢
    have t0 := b6'.cellAt (i := 0) (by simp)
    have t1 := b6'.cellAt (i := 1) (by simp)
    have t2 := b6'.cellAt (i := 2) (by simp)
    have t3 := b6'.cellAt (i := 3) (by simp)
    have t4 := b6'.cellAt (i := 4) (by simp)
    have t5 := b6'.cellAt (i := 5) (by simp)
    have t6 := b6'.cellAt (i := 6) (by simp)
    simp at t0 t1 t2 t3 t4 t5 t6
    refine bodyPost_ret (v := .tuple #[MV.val ⟨Hh1, ⟨A01, n01, c01⟩, ⟨A11, n11, c11⟩, ⟨A21, n21, c21⟩, ⟨A31, n31, c31⟩, day1, ⟨A41, n41, c41⟩⟩, .slice none 0 0]) (by simp [results, Tryz.results26, go_sem, t0, t1, t2, t3, t4, t5, t6, MV.val, MV.cells]) rfl ?_
    exact ⟨_, _, rfl, hE6, by rw [HM.out]; exact hO6.weak (by omega), by rw [HLs.out]; exact World.ownsRow_nil _ _ _ _, MApart.nil _, ⟨wz.heap.size, w1.heap.size, by omega, by omega, HAT.out, fun g hg => by cases hg⟩⟩
  have h40' : ¬ (40 : Int) < (n5 : Int) := by omega
  have hry := run_yes (m := m) (acts := xs) (by unfold runB; rw [hm, hla.out]; simp [h40])
  have HM := Lib.hid hry.1
  have HLs := Lib.hid hry.2
  clear hry hm
  have hbl3 : w1.heap.size < w3.heap.size := by omega
  have HL0 : Hid ((w3.alloc (.cells #[] 3)).ownsRow w2.heap.size 3 1 (.slice (some ⟨w3.heap.size, 0, none⟩) 0 0) 0 []) := Lib.hid (own_empty w3 w2.heap.size 3 1 hz3)
  have he0 : Ext w3 (w3.alloc (.cells #[] 3)) := (Ext.refl _).alloc _
  have HB0 := Lib.hid (HB63.out.keep he0)
  have HO0 := Lib.hid (HO3.out.keep he0)
  have HE0 := Lib.hid (HE3.out.trans he0)
  have HP0 : Hid (MApart ⟨Hh1, ⟨A01, n01, c01⟩, ⟨A11, n11, c11⟩, ⟨A21, n21, c21⟩, ⟨A31, n31, c31⟩, day1, ⟨A41, n41, c41⟩⟩ (.slice (some ⟨w3.heap.size, 0, none⟩) 0 0)) := Lib.hid (MApart.of_at HAT.out (At.of_own HL0.out) (.inl (by omega)))
  have HR0 : Hid (MRange wz.heap.size (w3.alloc (.cells #[] 3)) ⟨Hh1, ⟨A01, n01, c01⟩, ⟨A11, n11, c11⟩, ⟨A21, n21, c21⟩, ⟨A31, n31, c31⟩, day1, ⟨A41, n41, c41⟩⟩ (.slice (some ⟨w3.heap.size, 0, none⟩) 0 0)) := Lib.hid ⟨wz.heap.size, w1.heap.size, Nat.le_refl _, by (have := he0.size; omega), HAT.out, fun g hg => .inr (by have := (HL0.out.lt g hg).1; omega)⟩
  clear he0
  go_wp2_with fail
  go_loopw [7, 26] (fun o i wr => ∃ (k : Nat) (u : MV), k ≤ n5 ∧ i = .int .i64 k ∧ Hid (Blk wr w1.heap.size 30 u.cells) ∧ Hid (MOwn wr wz.heap.size u (runF m (xs.take k) []).1) ∧ Hid (wr.ownsRow w2.heap.size 3 1 o k ((runF m (xs.take k) []).2.flatMap ienc)) ∧ Hid (MApart u o) ∧ Hid (MRange wz.heap.size wr u o) ∧ Hid (Ext wz wr)) (fun _ i _ => n5 - (intOf i).toNat)
  case atStart => exact ⟨0, ⟨Hh1, ⟨A01, n01, c01⟩, ⟨A11, n11, c11⟩, ⟨A21, n21, c21⟩, ⟨A31, n31, c31⟩, day1, ⟨A41, n41, c41⟩⟩, Nat.zero_le _, rfl, HB0, HO0, HL0, HP0, HR0, HE0⟩
  case round =>
    obtain ⟨k, u, hk, rfl, hB, hO, hL, hP, hR, hEr⟩ := hrel
    obtain ⟨Hh2, ⟨A02, n02, c02⟩, ⟨A12, n12, c12⟩, ⟨A22, n22, c22⟩, ⟨A32, n32, c32⟩, day2, ⟨A42, n42, c42⟩⟩ := u
    have hBc : Hid (Blk wr w1.heap.size 30 #[.int .i64 Hh2, .slice A02 n02 c02, .slice A12 n12 c12, .slice A22 n22 c22, .slice A32 n32 c32, .int .i64 day2, .slice A42 n42 c42]) := hB
    by_cases hlt : k < n5
    · obtain ⟨bq, oq, a, hA5, hbq, hak, p0, p1, p2, p3, p4⟩ := GAct.at_ (HA.out.keep hEr.out) hlt
      subst hA5
      have HN : Hid (runF m (xs.take (k + 1)) [] = (actM (runF m (xs.take k) []).1 a, (runF m (xs.take k) []).2 ++ [actN (runF m (xs.take k) []).1 a])) := Lib.hid (by rw [take_snoc hak, runF_snoc])
      obtain ⟨mk, hmk⟩ : ∃ mk, mk = (runF m (xs.take k) []).1 := ⟨_, rfl⟩
      obtain ⟨Lk, hLk⟩ : ∃ Lk, Lk = (runF m (xs.take k) []).2 := ⟨_, rfl⟩
      have hfk := HFit.out _ _ _ _ _ hO.out
      rw [← hmk] at hO HN
      rw [← hLk] at hL HN
      obtain ⟨we, hwe⟩ : ∃ we, we = wr.alloc (.cells #[.int .i64 a.k, .int .i64 a.a, .int .i64 a.b, .int .i64 a.c, .int .i64 a.d] 37) := ⟨_, rfl⟩
      have hee : Ext wr we := by rw [hwe]; exact (Ext.refl _).alloc _
      have cD := Lib.hid (impl_DoAct ⟨Hh2, ⟨A02, n02, c02⟩, ⟨A12, n12, c12⟩, ⟨A22, n22, c22⟩, ⟨A32, n32, c32⟩, day2, ⟨A42, n42, c42⟩⟩ mk a we (hO.out.rd.keep hee) hfk (Lib.hid (max_ext HMX.out (hEr.out.trans hee))))
      have Hwe := Lib.hid hwe
      have hze : wr.heap.size < we.heap.size := by rw [hwe]; simp
      have HBe := Lib.hid (hBc.out.keep hee)
      have hb1 := hBc.out.lt
      obtain ⟨Nk, hNk⟩ : ∃ z, z = actN mk a := ⟨_, rfl⟩
      rw [← hNk] at HN cD
      clear hak hmk hLk hwe hfk hNk
      have y0 := hBc.out.cellAt (i := 0) (by simp)
      have y1 := hBc.out.cellAt (i := 1) (by simp)
      have y2 := hBc.out.cellAt (i := 2) (by simp)
      have y3 := hBc.out.cellAt (i := 3) (by simp)
      have y4 := hBc.out.cellAt (i := 4) (by simp)
      have y5 := hBc.out.cellAt (i := 5) (by simp)
      have y6 := hBc.out.cellAt (i := 6) (by simp)
      simp at y0 y1 y2 y3 y4 y5 y6
      go_wp2_with (go_at_call 11; refine (fun h : Hid _ => h.out) ?_)
      unfold Hid
      rw [← Hwe.out]
      refine cD.out.mono ?_
      rintro e w4 ⟨v3, hev, he4, ho4⟩
      obtain ⟨Hh3, ⟨A03, n03, c03⟩, ⟨A13, n13, c13⟩, ⟨A23, n23, c23⟩, ⟨A33, n33, c33⟩, day3, ⟨A43, n43, c43⟩⟩ := v3
      simp only [MV.val, MV.cells] at hev
      subst hev
      obtain ⟨w5, hw5⟩ : ∃ w5, w5 = w4.alloc (.cells #[.int .i64 Hh3, .slice A03 n03 c03, .slice A13 n13 c13, .slice A23 n23 c23, .slice A33 n33 c33, .int .i64 day3, .slice A43 n43 c43] 30) := ⟨_, rfl⟩
      have he5 : Ext we w5 := by rw [hw5]; exact he4.alloc _
      have hO5 : MOwn w5 we.heap.size ⟨Hh3, ⟨A03, n03, c03⟩, ⟨A13, n13, c13⟩, ⟨A23, n23, c23⟩, ⟨A33, n33, c33⟩, day3, ⟨A43, n43, c43⟩⟩ (actM mk a) := ho4.keep (by rw [hw5]; exact (Ext.refl _).alloc _)
      have hb5 := HBe.out.keep he5
      have hb4 := HBe.out.keep he4
      have hat := MAt.of_own ho4
      have hz5 : w5.heap.size = w4.heap.size + 1 := by rw [hw5]; simp
      have hz4 : we.heap.size ≤ w4.heap.size := he4.size
      have hE5 := hEr.out.trans (hee.trans he5)
      have hL5 := own_keep hL.out (hee.trans he5)
      have hE4 := hEr.out.trans (hee.trans he4)
      have hL4 := own_keep hL.out (hee.trans he4)
      have HO4 := Lib.hid ho4
      have HE4 := Lib.hid hE4
      have HL4 := Lib.hid hL4
      clear y0 y1 y2 y3 y4 y5 y6 p0 p1 p2 p3 p4 ho4 he4 hE4 hL4
      have Hw5 := Lib.hid hw5
      have y0 := hb5.cellAt (i := 0) (by simp)
      have y1 := hb5.cellAt (i := 1) (by simp)
      have y2 := hb5.cellAt (i := 2) (by simp)
      have y3 := hb5.cellAt (i := 3) (by simp)
      have y4 := hb5.cellAt (i := 4) (by simp)
      have y5 := hb5.cellAt (i := 5) (by simp)
      have y6 := hb5.cellAt (i := 6) (by simp)
      simp at y0 y1 y2 y3 y4 y5 y6
      have f5 := hb5.free
      have l5 := hb5.lt
      have l54 : w1.heap.size < w4.heap.size := by omega
      have n54 : w4.heap.size ≠ w1.heap.size := by omega
      have z0 := hb4.cellAt (i := 0) (by simp)
      have z1 := hb4.cellAt (i := 1) (by simp)
      have z2 := hb4.cellAt (i := 2) (by simp)
      have z3 := hb4.cellAt (i := 3) (by simp)
      have z4 := hb4.cellAt (i := 4) (by simp)
      have z5 := hb4.cellAt (i := 5) (by simp)
      have z6 := hb4.cellAt (i := 6) (by simp)
      simp at z0 z1 z2 z3 z4 z5 z6
      have f4 := hb4.free
      rw [hw5] at y0 y1 y2 y3 y4 y5 y6 f5
      have Hb4 := Lib.hid hb4
      clear hw5 hb4
      have HO5 := Lib.hid hO5
      have Hb5 := Lib.hid hb5
      have HE5 := Lib.hid hE5
      have HL5 := Lib.hid hL5
      have HAT5 := Lib.hid hat
      clear hO5 hb5 hE5 hL5 hat he5
      go_upto_region 10 with fail
      obtain ⟨b7, k7⟩ := store7 Hb4.out (.int .i64 Hh3) (.slice A03 n03 c03) (.slice A13 n13 c13) (.slice A23 n23 c23) (.slice A33 n33 c33) (.int .i64 day3) (.slice A43 n43 c43)
      have hO7 := HO4.out.out k7 (by omega)
      have hE7 := k7.ext HE4.out hz2
      have hL7 := k7.own HL4.out (fun g hg => by have := (HL4.out.lt g hg).1; omega)
      have hz7 := k7.size
      generalize (((((((w4.setCell ⟨w1.heap.size, 0, none⟩ (.int .i64 Hh3)).setCell ⟨w1.heap.size, 1, none⟩ (.slice A03 n03 c03)).setCell ⟨w1.heap.size, 2, none⟩ (.slice A13 n13 c13)).setCell ⟨w1.heap.size, 3, none⟩ (.slice A23 n23 c23)).setCell ⟨w1.heap.size, 4, none⟩ (.slice A33 n33 c33)).setCell ⟨w1.heap.size, 5, none⟩ (.int .i64 day3)).setCell ⟨w1.heap.size, 6, none⟩ (.slice A43 n43 c43)) = w6 at b7 k7 hO7 hE7 hL7 hz7 ⊢
      obtain ⟨w7, hw7⟩ : ∃ w7, w7 = w6.alloc (.cells #[.int .i64 Hh3, .slice A03 n03 c03, .slice A13 n13 c13, .slice A23 n23 c23, .slice A33 n33 c33, .int .i64 day3, .slice A43 n43 c43] 30) := ⟨_, rfl⟩
      rw [← hw7]
      have he67 : Ext w6 w7 := by rw [hw7]; exact (Ext.refl _).alloc _
      replace b7 := b7.keep he67
      replace hO7 := hO7.keep he67
      replace hE7 := hE7.trans he67
      replace hL7 := own_keep hL7 he67
      have hz67 := he67.size
      clear hw7
      have hP7 : MApart ⟨Hh3, ⟨A03, n03, c03⟩, ⟨A13, n13, c13⟩, ⟨A23, n23, c23⟩, ⟨A33, n33, c33⟩, day3, ⟨A43, n43, c43⟩⟩ u7 := MApart.of_at HAT5.out (At.of_own hL.out) (.inr (by omega))
      have HB7 := Lib.hid b7
      have HO7 := Lib.hid hO7
      have HE7 := Lib.hid hE7
      have HL7 := Lib.hid hL7
      have HP7 := Lib.hid hP7
      clear b7 k7 hO7 hE7 hL7 hP7 he67 y0 y1 y2 y3 y4 y5 y6 z0 z1 z2 z3 z4 z5 z6 f4 f5 l5
      go_wp2_with (at_builtin; refine (fun h : Hid _ => h.out) ?_)
      unfold Hid
      refine append1W ei_IntN rfl _ _ rfl w2.heap.size w7 _ _ k _ (by rfl) HL7.out [.int .i64 Nk] (by rfl) rfl (one_intR Nk) (by omega) (by omega) ?_
      intro v' w8 ho8 hg8 hv8
      have HO8 := Lib.hid ho8
      have hB8 : Blk w8 w1.heap.size 30 #[.int .i64 Hh3, .slice A03 n03 c03, .slice A13 n13 c13, .slice A23 n23 c23, .slice A33 n33 c33, .int .i64 day3, .slice A43 n43 c43] := (hg8.block w1.heap.size HB7.out.lt (fun e => by have := (HL7.out.lt _ e.symm).1; omega)).trans HB7.out
      have hM8 := HO7.out.grown HP7.out hg8
      have hP8 := HP7.out.moved HO7.out hv8
      have hE8 := HE7.out.grown hg8 (fun g hg => by have := (HL7.out.lt g hg).1; omega)
      have HB8 := Lib.hid hB8
      have HM8 := Lib.hid (hM8.weak (show wz.heap.size ≤ we.heap.size by omega))
      have hs8 := hg8.size
      have HR8 : Hid (MRange wz.heap.size w8 ⟨Hh3, ⟨A03, n03, c03⟩, ⟨A13, n13, c13⟩, ⟨A23, n23, c23⟩, ⟨A33, n33, c33⟩, day3, ⟨A43, n43, c43⟩⟩ v') := Lib.hid ⟨we.heap.size, w4.heap.size, by omega, by omega, HAT5.out, fun g hg => by
        rcases hv8 g hg with h | h
        · exact .inl (by have := (hL.out.lt g h).2; omega)
        · exact .inr (by omega)⟩
      have HP8 := Lib.hid hP8
      have HE8 := Lib.hid hE8
      clear ho8 hg8 hv8 hB8 hM8 hP8 hE8
      go_wp2_with fail
      go_roundw
      case rel => exact ⟨k + 1, ⟨Hh3, ⟨A03, n03, c03⟩, ⟨A13, n13, c13⟩, ⟨A23, n23, c23⟩, ⟨A33, n33, c33⟩, day3, ⟨A43, n43, c43⟩⟩, by omega, by go_num, HB8, by unfold Hid; rw [HN.out]; exact HM8.out, by unfold Hid; rw [HN.out, List.flatMap_append]; simpa [ienc] using HO8.out, HP8, HR8, HE8⟩
      case measure => simp [intOf]; omega
    · obtain rfl : n5 = k := by omega
      rw [List.take_of_length_le (by rw [hla.out]; omega)] at hO hL
      rw [← HM.out] at hO
      rw [← HLs.out] at hL
      have hLl : (runL m xs).length = n5 := by
        have := hL.out.1
        rw [ienc_map, List.length_map] at this
        omega
      have HLl2 := Lib.hid hLl
      clear HM HLs hLl
      have HLs : Hid (runL m xs = runL m xs) := Lib.hid rfl
      have HM : Hid (runM m xs = runM m xs) := Lib.hid rfl
      have Bz := Blk.keep HBz.out hEr.out
      have x0 := Bz.cellAt (i := 0) (by simp)
      have x1 := Bz.cellAt (i := 1) (by simp)
      have x2 := Bz.cellAt (i := 2) (by simp)
      have x3 := Bz.cellAt (i := 3) (by simp)
      have x4 := Bz.cellAt (i := 4) (by simp)
      have x5 := Bz.cellAt (i := 5) (by simp)
      have x6 := Bz.cellAt (i := 6) (by simp)
      have fz := Bz.free
      simp at x0 x1 x2 x3 x4 x5 x6
      have lz : w.heap.size + 1 < wr.heap.size := Bz.lt
      have y0 := hBc.out.cellAt (i := 0) (by simp)
      have y1 := hBc.out.cellAt (i := 1) (by simp)
      have y2 := hBc.out.cellAt (i := 2) (by simp)
      have y3 := hBc.out.cellAt (i := 3) (by simp)
      have y4 := hBc.out.cellAt (i := 4) (by simp)
      have y5 := hBc.out.cellAt (i := 5) (by simp)
      have y6 := hBc.out.cellAt (i := 6) (by simp)
      simp at y0 y1 y2 y3 y4 y5 y6
      go_wp2_with fail
      obtain ⟨b6', k6⟩ := store7 Bz (.int .i64 Hh2) (.slice A02 n02 c02) (.slice A12 n12 c12) (.slice A22 n22 c22) (.slice A32 n32 c32) (.int .i64 day2) (.slice A42 n42 c42)
      have hO6 := hO.out.out k6 (by omega)
      have hE6 := k6.ext (HE.out.trans hEr.out) (by omega)
      have hz6 := k6.size
      have hL6 := k6.own hL.out (fun g hg => by have := (hL.out.lt g hg).1; omega)
      generalize (((((((wr.setCell ⟨w.heap.size + 1, 0, none⟩ (.int .i64 Hh2)).setCell ⟨w.heap.size + 1, 1, none⟩ (.slice A02 n02 c02)).setCell ⟨w.heap.size + 1, 2, none⟩ (.slice A12 n12 c12)).setCell ⟨w.heap.size + 1, 3, none⟩ (.slice A22 n22 c22)).setCell ⟨w.heap.size + 1, 4, none⟩ (.slice A32 n32 c32)).setCell ⟨w.heap.size + 1, 5, none⟩ (.int .i64 day2)).setCell ⟨w.heap.size + 1, 6, none⟩ (.slice A42 n42 c42)) = w9 at b6' k6 hO6 hE6 hL6 hz6 ⊢
      have t0 := b6'.cellAt (i := 0) (by simp)
      have t1 := b6'.cellAt (i := 1) (by simp)
      have t2 := b6'.cellAt (i := 2) (by simp)
      have t3 := b6'.cellAt (i := 3) (by simp)
      have t4 := b6'.cellAt (i := 4) (by simp)
      have t5 := b6'.cellAt (i := 5) (by simp)
      have t6 := b6'.cellAt (i := 6) (by simp)
      simp at t0 t1 t2 t3 t4 t5 t6
      refine bodyPost_ret (v := .tuple #[MV.val ⟨Hh2, ⟨A02, n02, c02⟩, ⟨A12, n12, c12⟩, ⟨A22, n22, c22⟩, ⟨A32, n32, c32⟩, day2, ⟨A42, n42, c42⟩⟩, u7]) (by simp [results, Tryz.results26, go_sem, t0, t1, t2, t3, t4, t5, t6, MV.val, MV.cells]) rfl ?_
      exact ⟨_, _, rfl, hE6, hO6.weak (by omega), by rw [HLl2.out]; exact own_weak hL6 (by omega), hP.out, hR.out.grow (by omega) (by omega)⟩
end Go.Proofs.YtfmifllcbbfpoaaGreatDoor
