/- Texts of one proof, laid one behind the other (QU, QT); no condition but what stands at each theorem. -/
import Derived.Laws.IdiomStrings
import Derived.Test.YtfmifllcbbfpoaaGreatDoorZF
import Derived.Test.YtfmifllcbbfpoaaGreatDoorZL
import Derived.Test.YtfmifllcbbfpoaaGreatDoorZY
/- Small functions of the laws on museums, and a museum boxed by a region (KN and QS in one text, for a claim that must stay small); no condition but what stands at each theorem. -/
namespace Go.Proofs.YtfmifllcbbfpoaaGreatDoor
set_option linter.unusedSimpArgs false
set_option linter.unusedVariables false
open Go.RowKit Go.Sort
/-- What a region that calls and boxes a museum has left: the box g, the rows in lo..hi, the world. -/
structure GotK (w1 wx : World) (g lo hi : Nat) (v : MV) (M : GMuseum) : Prop where
  e : Ext w1 wx
  g1 : w1.heap.size ≤ g
  l1 : w1.heap.size ≤ lo
  h1 : hi ≤ wx.heap.size
  o1 : g < lo ∨ hi ≤ g
  box : MBox wx g v
  own : MOwn wx lo v M
  rows : MAt lo hi v
theorem GotK.of {w1 W wC wD : World} {g : Nat} {H : Int} {A0 A1 A2 A3 A4 : Option Addr} {n0 k0 n1 k1 n2 k2 n3 k3 n4 k4 : Nat} {d : Int} {M : GMuseum} {t : TypeId} {a0 a1 a2 a3 a4 a5 a6 : Value}
    (ho : MOwn wC W.heap.size (⟨H, ⟨A0, n0, k0⟩, ⟨A1, n1, k1⟩, ⟨A2, n2, k2⟩, ⟨A3, n3, k3⟩, d, ⟨A4, n4, k4⟩⟩ : MV) M) (hC : Ext W wC) (hz : Blk wD g t #[a0, a1, a2, a3, a4, a5, a6]) (hE : Ext w1 W) (hK : Ext wC wD) (hg : w1.heap.size ≤ g) (hout : g < W.heap.size ∨ wC.heap.size ≤ g) :
    GotK w1 (((((((wD.setCell ⟨g, 0, none⟩ (.int .i64 H)).setCell ⟨g, 1, none⟩ (.slice A0 n0 k0)).setCell ⟨g, 2, none⟩ (.slice A1 n1 k1)).setCell ⟨g, 3, none⟩ (.slice A2 n2 k2)).setCell ⟨g, 4, none⟩ (.slice A3 n3 k3)).setCell ⟨g, 5, none⟩ (.int .i64 d)).setCell ⟨g, 6, none⟩ (.slice A4 n4 k4)) g W.heap.size wC.heap.size ⟨H, ⟨A0, n0, k0⟩, ⟨A1, n1, k1⟩, ⟨A2, n2, k2⟩, ⟨A3, n3, k3⟩, d, ⟨A4, n4, k4⟩⟩ M := by
  obtain ⟨b, k⟩ := store7 hz (.int .i64 H) (.slice A0 n0 k0) (.slice A1 n1 k1) (.slice A2 n2 k2) (.slice A3 n3 k3) (.int .i64 d) (.slice A4 n4 k4)
  have s1 := hE.size
  have s2 := hC.size
  have s3 := hK.size
  have s4 := k.size
  have ho1 := ho.keep hK
  refine ⟨k.ext (hE.trans (hC.trans hK)) hg, hg, s1, by omega, hout, .of_blk b, ?_, .of_own ho⟩
  rcases hout with h | h
  · exact ho1.out k (by omega)
  · exact ho1.below k ((MAt.of_own ho).mono (Nat.le_refl _) h)
theorem GotK.new {w1 W wC : World} {H : Int} {A0 A1 A2 A3 A4 : Option Addr} {n0 k0 n1 k1 n2 k2 n3 k3 n4 k4 : Nat} {d : Int} {M : GMuseum} {t : TypeId}
    (ho : MOwn wC W.heap.size (⟨H, ⟨A0, n0, k0⟩, ⟨A1, n1, k1⟩, ⟨A2, n2, k2⟩, ⟨A3, n3, k3⟩, d, ⟨A4, n4, k4⟩⟩ : MV) M) (hC : Ext W wC) (hE : Ext w1 W) :
    GotK w1 (wC.alloc (.cells #[.int .i64 H, .slice A0 n0 k0, .slice A1 n1 k1, .slice A2 n2 k2, .slice A3 n3 k3, .int .i64 d, .slice A4 n4 k4] t)) wC.heap.size W.heap.size wC.heap.size ⟨H, ⟨A0, n0, k0⟩, ⟨A1, n1, k1⟩, ⟨A2, n2, k2⟩, ⟨A3, n3, k3⟩, d, ⟨A4, n4, k4⟩⟩ M := by
  have s1 := hE.size
  have s2 := hC.size
  exact ⟨(hE.trans hC).alloc _, by omega, s1, by simp, .inr (Nat.le_refl _), .of_blk (Blk.new _ _ _), ho.keep ((Ext.refl _).alloc _), .of_own ho⟩
theorem heap_size_drewK (w : World) (n : Nat) : (w.drewN n).heap.size = w.heap.size := rfl
theorem Blk.outL {w w' : World} {lo hi b : Nat} {t : TypeId} {cs : Array Value} (h : Blk w b t cs) (k : KeptOut lo hi w w') (hb : b < lo ∨ hi ≤ b) : Blk w' b t cs := (k.2 b h.lt hb).trans h
theorem rem_run (a b : Int) (hb : b ≠ 0) (W : World) : (binOp .rem 3 (.int .i64 a) (.int .i64 b)).run Tryz.prog W = .ok (.int .i64 (a.tmod b)) W := by
  rw [binOp_rem]
  unfold Op.intDiv
  rw [if_neg hb]
  rfl
theorem rem_facts {a b : Int} (ha : 0 ≤ a) (hb : 0 < b) : ∃ r, r = a.tmod b ∧ a % b = r ∧ 0 ≤ r ∧ r < b :=
  ⟨_, rfl, by rw [Int.tmod_eq_emod_of_nonneg ha], Int.tmod_nonneg _ ha, Int.tmod_lt_of_pos _ hb⟩
set_option maxRecDepth 100000 in
set_option maxHeartbeats 1000000 in
theorem laws_sameInts (A : Option Addr) (n c : Nat) (A' : Option Addr) (n' c' : Nat) (xs : List Int) (w : World) (hx : Rd w 1 A n (xs.flatMap ienc)) (hy : Rd w 1 A' n' (xs.flatMap ienc)) :
    Calls Tryz.prog 14 #[.slice A n c, .slice A' n' c'] w fun e w' => e = .returned (.bool true) ∧ Ext w w' := by
  have hn := hx.2.1
  obtain rfl : n = n' := by rw [← hx.len ienc_len (by omega), ← hy.len ienc_len (by omega)]
  have HX := Lib.hid hx
  have HY := Lib.hid hy
  clear hx hy
  go_enter Tryz.func14, Tryz.ntmps14
  go_wp2_with fail
  go_loopw [5] (fun i wr => ∃ (k : Nat), k ≤ n ∧ i = .int .i64 k ∧ Ext w wr) (fun i _ => n - (intOf i).toNat)
  case atStart => exact ⟨0, Nat.zero_le _, rfl, Ext.refl _⟩
  case round =>
    obtain ⟨k, hk, rfl, hb⟩ := hrel
    by_cases hlt : k < n
    · obtain ⟨b, off, y, rfl, hbs, hyk, h0⟩ := ienc_at (HX.out.keep hb) hlt
      obtain ⟨b', off', y', rfl, hbs', hyk', h0'⟩ := ienc_at (HY.out.keep hb) hlt
      rw [hyk] at hyk'
      injection hyk' with hyk'
      subst hyk'
      have HB := Lib.hid hb
      have k0 : (0 : Int) ≤ (k : Int) := by omega
      have k1 : (k : Int) < (n : Int) := by omega
      have z1 := cell_regrown h0
      have z2 := cell_regrown h0'
      clear hyk hb
      go_wp2_with fail
      (refine wp_region_ext (by kernel_rfl) (by kernel_rfl) ?_; (repeat (go_big_quiet_step (first | fail))); refine wpQuiet_nil ?_)
      intro w3 he3
      have HE3 := Lib.hid (HB.out.trans he3)
      clear he3 z1 z2 h0 h0'
      go_wp2_with fail
      go_roundw
      case rel => exact ⟨k + 1, by omega, by go_num, HE3.out⟩
      case measure => simp [intOf]; omega
    · go_wp2_with fail
      go_ret
      exact ⟨rfl, hb⟩
theorem laws_btoi (b : Bool) (w : World) : Calls Tryz.prog 25 #[.bool b] w fun e w' => e = .returned (.int .i64 (b01 b)) ∧ w = w' := by
  cases b
  all_goals
    go_enter Tryz.func25, Tryz.ntmps25
    go_wp2_with fail
    go_ret
    exact ⟨rfl, rfl⟩
set_option maxRecDepth 100000 in
set_option maxHeartbeats 1000000 in
theorem spec_HasDoor (H : Int) (A : Option Addr) (n c : Nat) (ds : List GDoor) (x y : Int) (w : World) (hx : Rd w 2 A n (ds.flatMap GDoor.enc)) (hB : houseB H ds = true) :
    Calls Tryz.prog 24 #[.agg #[.int .i64 H, .slice A n c], .int .i64 x, .int .i64 y] w fun e w' => e = .returned (.bool (doorB ds x y)) ∧ Ext w w' := by
  have HB := Lib.hid hB
  clear hB
  obtain ⟨wb, hwb⟩ : ∃ wb, wb = w.alloc (.cells #[.int .i64 H, .slice A n c] 26) := ⟨_, rfl⟩
  obtain ⟨hE, hsb, k0, k1⟩ := box2 w _ _ _ wb hwb
  have HE := Lib.hid hE
  have Hwb := Lib.hid hwb
  have Hk0 := Lib.hid k0
  have Hk1 := Lib.hid k1
  have hbl : w.heap.size < wb.heap.size := by omega
  have hxb := Lib.hid (hx.keep hE)
  clear hE hx hsb k0 k1 hwb
  have HC := Lib.hid (spec_HouseOk H A n c ds wb hxb.out)
  rw [HB.out] at HC
  by_cases hxy : x = y
  · subst hxy
    have HF := Lib.hid (doorB_self HB.out x)
    go_enter Tryz.func24, Tryz.ntmps24
    go_wp2_with (go_at_call 69; refine (fun h : Hid _ => h.out) ?_)
    unfold Hid
    rw [← Hwb.out]
    refine HC.out.mono ?_
    rintro e w1 ⟨rfl, he1⟩
    have HE1 := Lib.hid he1
    clear he1
    go_wp2_with fail
    go_ret
    exact ⟨ret_bool HF.out.symm, HE.out.trans HE1.out⟩
  · have hb : (x != y) = true := by simp [hxy]
    go_enter Tryz.func24, Tryz.ntmps24
    go_wp2_with (go_at_call 69; refine (fun h : Hid _ => h.out) ?_)
    unfold Hid
    rw [← Hwb.out]
    refine HC.out.mono ?_
    rintro e w1 ⟨rfl, he1⟩
    have k0 := (he1.cellAt w.heap.size hbl 0).trans Hk0.out
    have k1 := (he1.cellAt w.heap.size hbl 1).trans Hk1.out
    have HE1 := Lib.hid he1
    clear he1
    go_wp2_with (go_at_call 67; refine (fun h : Hid _ => h.out) ?_)
    unfold Hid
    refine (spec_l23Door H A n c ds x y w1 (hxb.out.keep HE1.out)).mono ?_
    rintro e w2 ⟨rfl, he2⟩
    have HE2 := Lib.hid he2
    clear he2
    go_wp2_with fail
    go_ret
    exact ⟨rfl, HE.out.trans (HE1.out.trans HE2.out)⟩
/-- What a region that boxes a move has left: the box g, the world. -/
structure GotX (w1 wx : World) (g : Nat) (x : GMove) : Prop where
  e : Ext w1 wx
  g1 : w1.heap.size ≤ g
  box : Blk wx g 46 #[.int .i64 x.o, .int .i64 x.t, .int .i64 x.f, .int .i64 x.s]
theorem GotX.of {w1 wD : World} {g : Nat} {a0 a1 a2 a3 : Value} {o t f s : Int} (hz : Blk wD g 46 #[a0, a1, a2, a3]) (hE : Ext w1 wD) (hg : w1.heap.size ≤ g) :
    GotX w1 ((((wD.setCell ⟨g, 0, none⟩ (.int .i64 o)).setCell ⟨g, 1, none⟩ (.int .i64 t)).setCell ⟨g, 2, none⟩ (.int .i64 f)).setCell ⟨g, 3, none⟩ (.int .i64 s)) g ⟨o, t, f, s⟩ := by
  have b := (((hz.set 0 (.int .i64 o)).set 1 (.int .i64 t)).set 2 (.int .i64 f)).set 3 (.int .i64 s)
  simp only [List.setIfInBounds_toArray, List.set_cons_succ, List.set_cons_zero] at b
  exact ⟨(((hE.setCell hg _).setCell hg _).setCell hg _).setCell hg _, hg, b⟩
theorem GotX.new {w1 wC : World} {o t f s : Int} (hE : Ext w1 wC) : GotX w1 (wC.alloc (.cells #[.int .i64 o, .int .i64 t, .int .i64 f, .int .i64 s] 46)) wC.heap.size ⟨o, t, f, s⟩ :=
  ⟨hE.alloc _, hE.size, Blk.new _ _ _⟩
/- Plain facts of the law on museums. -/
theorem night_iff {m : GMuseum} (h : museumB m = true) (x : GMove) : nightB m x = (canMoveB m.H m.ds m.ps m.gs x && decide (m.rs.length < 30)) := by
  unfold nightB
  rw [h, app_iff h]
  rfl
theorem night_len {m : GMuseum} (x : GMove) : ((nightM m x).rs.length : Int) = m.rs.length + b01 (nightB m x) := by
  unfold nightM
  cases nightB m x <;> simp [b01]
theorem guard_door {m : GMuseum} (h : museumB m = true) {g k y : Int} (h0 : 0 ≤ g) (h1 : g < m.gs.length) (hy : m.gs[g.toNat]? = some y) : guardB m g k = doorB m.ds y k := by
  have hi : inB g 0 ((m.gs.length : Int) - 1) = true := by simp [inB]; omega
  unfold guardB
  rw [h, hi]
  have : guardOf m g = y := by unfold guardOf; rw [List.getD_eq_getElem?_getD, hy]; rfl
  rw [this]
  rfl
theorem guard_places (m : GMuseum) (g k : Int) : (guardM m g k).ps = m.ps := by unfold guardM; split <;> rfl
theorem days_yes {m : GMuseum} (h : museumB m = true) (hd : m.d ≤ 1000) {d : Int} (h1 : 1 ≤ d) (h2 : d ≤ 1000) : daysB m d = true ∧ (daysM m d).d = m.d + d := by
  have hb : daysB m d = true := by unfold daysB; rw [h]; simp [inB]; omega
  exact ⟨hb, by unfold daysM; rw [if_pos hb]⟩
theorem new_back {m : GMuseum} (h : museumB m = true) : museumB (rawM m.H m.ds m.fs m.gs) = true := by
  have hl := museum_lens h
  have hg := museum_guards h
  have hH := museumB_house h
  rw [museumB_parts] at h
  exact raw_ok hH hl.2.1 hl.2.2.2.1 (placesB_parts h.1).2.2 hg
theorem new_places {m : GMuseum} (h : museumB m = true) : (newM m.H m.ds m.fs m.gs).ps = m.fs ∧ auditB (newM m.H m.ds m.fs m.gs) = true ∧ museumB (newM m.H m.ds m.fs m.gs) = true := by
  have hb := new_back h
  have he : newM m.H m.ds m.fs m.gs = rawM m.H m.ds m.fs m.gs := by unfold newM; rw [if_pos hb]
  exact ⟨by rw [he]; rfl, audited_audit (audited_new hb), by rw [he]; exact hb⟩
end Go.Proofs.YtfmifllcbbfpoaaGreatDoor
/- What the walk of FnTop needs of entries, bytes and rows; no condition but what stands at each theorem. -/
namespace Go.Proofs.YtfmifllcbbfpoaaGreatDoor
set_option linter.unusedSimpArgs false
set_option linter.unusedVariables false
open Go.RowKit Go.Sort
theorem mvF_ge : ∀ (l : List Int) (t : ByteArray), (∀ x ∈ l, inB x 0 20 = true) → t.size ≤ (mvF t l).size
  | [], t, _ => Nat.le_refl _
  | x :: r, t, h => by
    rw [mvF, if_pos (h x (List.mem_cons_self ..))]
    refine Nat.le_trans ?_ (mvF_ge r _ (fun y hy => h y (List.mem_cons_of_mem _ hy)))
    rw [ByteArray.size_append, ByteArray.size_append]
    omega
theorem text_pos {m : GMuseum} (h : Audited m) {e : GEntry} (he : e ∈ m.rs) : 0 < e.x.size ∧ e.x.size ≤ 200 := by
  obtain ⟨-, ms, ht, hv, -⟩ := h
  have : e.x ∈ m.rs.map (·.x) := List.mem_map.2 ⟨e, he, rfl⟩
  rw [ht] at this
  obtain ⟨x, hx, hx2⟩ := List.mem_map.1 this
  rw [← hx2]
  refine ⟨?_, by have := moveT_size x; omega⟩
  obtain ⟨b1, b2, b3, b4⟩ := mv_cases (hv x hx)
  have := mvF_ge [x.o, x.t, x.f, x.s] ⟨#[109, 111, 118, 101]⟩ (by
    intro y hy
    simp only [List.mem_cons, List.not_mem_nil, or_false] at hy
    rcases hy with rfl | rfl | rfl | rfl
    · exact b1
    · exact b2
    · exact b3
    · exact b4)
  have h4 : (⟨#[109, 111, 118, 101]⟩ : ByteArray).size = 4 := rfl
  unfold moveT
  omega
theorem conv_bytes (w : World) (s : ByteArray) : ∃ (cap : Nat) (w' : World), (convert 9 22 (.string s)).run Tryz.prog w = .ok (.slice (some ⟨w.heap.size, 0, none⟩) s.size cap) w' ∧ Ext w w' ∧ w.heap.size < w'.heap.size ∧
    (∀ j (hj : j < s.data.size), w'.cell? ⟨w.heap.size, j, none⟩ = some (.int .u8 (s.data[j].toNat : Int))) ∧ (∀ j, j < s.data.size → w'.frozen? ⟨w.heap.size, j, none⟩ = false) := by
  refine ⟨_, _, run_bytes_of_string w _ _ 5 s Tryz.underlying9 Tryz.underlying22 Tryz.underlying5, ((Ext.refl w).drew).alloc _, by show w.heap.size < (w.drew.heap.push _).size; rw [Array.size_push]; exact Nat.lt_succ_self _, fun j hj => ?_, fun j hj => ?_⟩
  · have hb := bytesRow_at s (grownCap w s.size 0 5) j hj
    have hn := Go.heap_alloc_new w.drew (.cells (bytesRow s (grownCap w s.size 0 5)) 5 ((bytesRow s (grownCap w s.size 0 5)).size, (bytesRow s (grownCap w s.size 0 5)).size + 1))
    have hn2 : ((w.drew.alloc (.cells (bytesRow s (grownCap w s.size 0 5)) 5 ((bytesRow s (grownCap w s.size 0 5)).size, (bytesRow s (grownCap w s.size 0 5)).size + 1))).heap)[w.heap.size]? = some (.cells (bytesRow s (grownCap w s.size 0 5)) 5 ((bytesRow s (grownCap w s.size 0 5)).size, (bytesRow s (grownCap w s.size 0 5)).size + 1)) := hn
    unfold World.cell?
    dsimp only
    rw [hn2]
    exact hb
  · have hn := Go.heap_alloc_new w.drew (.cells (bytesRow s (grownCap w s.size 0 5)) 5 ((bytesRow s (grownCap w s.size 0 5)).size, (bytesRow s (grownCap w s.size 0 5)).size + 1))
    have hn2 : ((w.drew.alloc (.cells (bytesRow s (grownCap w s.size 0 5)) 5 ((bytesRow s (grownCap w s.size 0 5)).size, (bytesRow s (grownCap w s.size 0 5)).size + 1))).heap)[w.heap.size]? = some (.cells (bytesRow s (grownCap w s.size 0 5)) 5 ((bytesRow s (grownCap w s.size 0 5)).size, (bytesRow s (grownCap w s.size 0 5)).size + 1)) := hn
    have hsz : s.data.size ≤ (bytesRow s (grownCap w s.size 0 5)).size := by simp [bytesRow]
    unfold World.frozen?
    dsimp only
    rw [hn2]
    simp only [Bool.and_eq_false_iff, decide_eq_false_iff_not]
    omega
theorem flat_set : ∀ (rs : List GEntry) (i : Nat) (e : GEntry) (y : ByteArray) (hy : y.size ≤ 9223372036854775807), rs[i]? = some e → (rs.flatMap GEntry.enc).set (i * 3 + 1) (.string y) = (rs.set i ⟨e.m, y, e.s, hy⟩).flatMap GEntry.enc
  | [], i, e, y, hy, h => by simp at h
  | r :: rs, 0, e, y, hy, h => by
    simp only [List.getElem?_cons_zero, Option.some.injEq] at h
    subst h
    rfl
  | r :: rs, i + 1, e, y, hy, h => by
    rw [List.getElem?_cons_succ] at h
    rw [List.flatMap_cons, List.set_cons_succ, List.flatMap_cons, ← flat_set rs i e y hy h]
    rw [List.set_append_right _ _ (by show 3 ≤ _; omega)]
    congr 2
    rw [GEntry.len]
    omega
theorem own_setE {w : World} {base n c g : Nat} {rs : List GEntry} {i : Nat} {e : GEntry} (h : w.ownsRow base 43 3 (.slice (some ⟨g, 0, none⟩) n c) n (rs.flatMap GEntry.enc)) (he : rs[i]? = some e) (y : ByteArray) (hy : y.size ≤ 9223372036854775807) :
    (w.setCell ⟨g, i * 3 + 1, none⟩ (.string y)).ownsRow base 43 3 (.slice (some ⟨g, 0, none⟩) n c) n ((rs.set i ⟨e.m, y, e.s, hy⟩).flatMap GEntry.enc) := by
  rcases own_block h with ⟨hA, _⟩ | ⟨g', cur, hA, hb, hblk, hnc, hcm, hcs, ht⟩
  · cases hA
  · injection hA with hA
    injection hA with hA
    subst hA
    refine ⟨?_, .inr ⟨g, c, _, rfl, hb, hblk.set (i * 3 + 1) _, hnc, hcm, by simpa using hcs, ?_⟩⟩
    · have := h.1
      rw [flat_len GEntry.enc 3 GEntry.len] at this ⊢
      simpa using this
    · rw [← flat_set rs i e y hy he, ← ht]
      simp [List.take_set]
theorem rd_init {w : World} {A : Option Addr} {n : Nat} {rs : List GEntry} {e : GEntry} (h : Rd w 3 A n ((rs ++ [e]).flatMap GEntry.enc)) : Rd w 3 A (n - 1) (rs.flatMap GEntry.enc) := by
  have hl := h.len GEntry.len (by omega)
  rw [List.length_append, List.length_singleton] at hl
  refine ⟨by rw [flat_len GEntry.enc 3 GEntry.len]; omega, by have := h.2.1; omega, fun hn => ?_⟩
  obtain ⟨b, off, h1, h2, h3⟩ := h.2.2 (by omega)
  refine ⟨b, off, h1, h2, fun j u hu => h3 j u ?_⟩
  rw [List.flatMap_append]
  exact (List.getElem?_append_left (List.getElem?_eq_some_iff.1 hu).1).trans hu
theorem cut_at {α : Type} {l : List α} {i : Nat} {e : α} (h : l[i]? = some e) (e' : α) : l = l.take i ++ e :: l.drop (i + 1) ∧ l.set i e' = l.take i ++ e' :: l.drop (i + 1) ∧ (l.take i).length = i := by
  have hi := (List.getElem?_eq_some_iff.1 h).1
  have he := (List.getElem?_eq_some_iff.1 h).2
  refine ⟨?_, by rw [List.set_eq_take_append_cons_drop, if_pos hi], by rw [List.length_take]; omega⟩
  rw [← he, ← List.drop_eq_getElem_cons hi, List.take_append_drop]
theorem u8_next (c : UInt8) : IntKind.u8.wrap ((c.toNat : Int) + 1) = ((c + 1).toNat : Int) ∧ c ≠ c + 1 := by
  constructor
  · rw [UInt8.toNat_add]
    have h := c.toNat_lt
    have h1 : (1 : UInt8).toNat = 1 := rfl
    rw [h1]
    unfold IntKind.wrap
    simp [show IntKind.u8.signed = false from rfl, show IntKind.u8.bits = 8 from rfl]
  · intro h
    have h2 : c.toNat = (c + 1).toNat := by rw [← h]
    rw [UInt8.toNat_add] at h2
    have h := c.toNat_lt
    have h1 : (1 : UInt8).toNat = 1 := rfl
    rw [h1] at h2
    omega
end Go.Proofs.YtfmifllcbbfpoaaGreatDoor
