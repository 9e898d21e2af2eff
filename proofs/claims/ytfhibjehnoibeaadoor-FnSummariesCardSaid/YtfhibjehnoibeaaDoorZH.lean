/- Texts of one proof, laid one behind the other (MW, SP1, SP2, SDa, SDb, SDe, SDf, MA); no condition but what stands at each theorem. -/
import Derived.Test.YtfhibjehnoibeaaDoorZA
import Derived.Test.YtfhibjehnoibeaaDoorZC
import Derived.Test.YtfhibjehnoibeaaDoorZE
import Derived.Test.YtfhibjehnoibeaaDoorZF
import Derived.Test.YtfhibjehnoibeaaDoorZG
/- Entries appended, night moves, audits, acts and runs of a museum in plain Lean; no condition. -/
namespace Go.Proofs.YtfhibjehnoibeaaDoor
set_option linter.unusedSimpArgs false
set_option linter.unusedVariables false
open Go.RowKit Go.Sort
/-- The seal that the next entry hangs on. -/
def lastS (rs : List GEntry) : Int := match rs.getLast? with
  | none => 1
  | some e => e.s
def lateB (rs : List GEntry) (mo : Int) : Bool := match rs.getLast? with
  | none => true
  | some e => decide (e.m ≤ mo)
def appB (rs : List GEntry) (mo : Int) (x : ByteArray) : Bool := sealedB rs && (!decide (rs.length = 30) && (decide (0 ≤ sealB (lastS rs) mo x) && lateB rs mo))
def appE (rs : List GEntry) (mo : Int) (x : ByteArray) (h : x.size ≤ 9223372036854775807) : GEntry := ⟨mo, x, sealB (lastS rs) mo x, h⟩
def appL (rs : List GEntry) (mo : Int) (x : ByteArray) (h : x.size ≤ 9223372036854775807) : List GEntry := if appB rs mo x then rs ++ [appE rs mo x h] else rs
theorem last_at {rs : List GEntry} {k : Nat} {e : GEntry} (hk : rs.length = k + 1) (he : rs[k]? = some e) : rs.getLast? = some e := by
  rw [List.getLast?_eq_getElem?, hk]; exact he
theorem lastS_nil : lastS [] = 1 := rfl
theorem lastS_at {rs : List GEntry} {k : Nat} {e : GEntry} (hk : rs.length = k + 1) (he : rs[k]? = some e) : lastS rs = e.s := by
  unfold lastS; rw [last_at hk he]
theorem lateB_at {rs : List GEntry} {k : Nat} {e : GEntry} (hk : rs.length = k + 1) (he : rs[k]? = some e) (mo : Int) : lateB rs mo = decide (e.m ≤ mo) := by
  unfold lateB; rw [last_at hk he]
theorem moveT_h (m : GMove) : (moveT m).size ≤ 9223372036854775807 := by have := moveT_size m; omega
def nightB (m : GMuseum) (x : GMove) : Bool := museumB m && (canMoveB m.H m.ds m.ps m.gs x && appB m.rs m.d (moveT x))
def nightM (m : GMuseum) (x : GMove) : GMuseum := if nightB m x then { m with ps := m.ps.set x.o.toNat x.t, rs := m.rs ++ [appE m.rs m.d (moveT x) (moveT_h x)] } else m
open Classical in
noncomputable def parseM (x : ByteArray) : GMove × Bool := if h : ∃ m, mvB m = true ∧ x = moveT m then (h.choose, true) else (⟨0, 0, 0, 0⟩, false)
theorem parseM_PM (x : ByteArray) : PM x (parseM x).1 (parseM x).2 := by
  unfold parseM
  split
  · rename_i h
    exact .inl ⟨rfl, h.choose_spec.1, h.choose_spec.2⟩
  · rename_i h
    exact .inr ⟨rfl, rfl, fun m' h1 h2 => h ⟨m', h1, h2⟩⟩
theorem parseM_of {x : ByteArray} {m : GMove} {b : Bool} (h : PM x m b) : parseM x = (m, b) := by
  obtain ⟨h1, h2⟩ := pm_eq (parseM_PM x) h
  exact Prod.ext h1 h2
theorem parseM_text {m : GMove} (h : mvB m = true) : parseM (moveT m) = (m, true) := parseM_of (.inl ⟨rfl, h, rfl⟩)
noncomputable def movesL (rs : List GEntry) : List GMove := rs.map fun e => (parseM e.x).1
noncomputable def auditB (m : GMuseum) : Bool := museumB m && ((m.rs.all fun e => (parseM e.x).2) && ((replayL m.H m.ds m.fs (movesL m.rs)).2 && decide ((replayL m.H m.ds m.fs (movesL m.rs)).1 = m.ps)))
noncomputable def fraudI (m : GMuseum) : Int := if auditB m then -1 else if brokenI m.rs = -1 then m.rs.length else brokenI m.rs
def b01 (b : Bool) : Int := if b then 1 else 0
noncomputable def actN (m : GMuseum) (a : GAct) : Int :=
  if museumB m && acOk a then
    if a.k = 1 then b01 (guardB m a.a a.b) else if a.k = 2 then b01 (nightB m ⟨a.a, a.b, a.c, a.d⟩) else if a.k = 3 then b01 (daysB m a.a) else if a.k = 4 then b01 (auditB m)
    else if a.a < m.ps.length then m.ps.getD a.a.toNat 0 else -1
  else -1
def actM (m : GMuseum) (a : GAct) : GMuseum :=
  if museumB m && acOk a then
    if a.k = 1 then guardM m a.a a.b else if a.k = 2 then nightM m ⟨a.a, a.b, a.c, a.d⟩ else if a.k = 3 then daysM m a.a else m
  else m
noncomputable def runF : GMuseum → List GAct → List Int → GMuseum × List Int
  | m, [], l => (m, l)
  | m, a :: r, l => runF (actM m a) r (l ++ [actN m a])
def runB (m : GMuseum) (acts : List GAct) : Bool := museumB m && decide (acts.length ≤ 40)
noncomputable def runM (m : GMuseum) (acts : List GAct) : GMuseum := if runB m acts then (runF m acts []).1 else m
noncomputable def runL (m : GMuseum) (acts : List GAct) : List Int := if runB m acts then (runF m acts []).2 else []
def entT (e : GEntry) : ByteArray := itext e.m ++ sp1 ++ e.x ++ sp1 ++ itext e.s
/-- The words objects, guards and day. -/
def wObj : ByteArray := ⟨#[111, 98, 106, 101, 99, 116, 115]⟩
def wGua : ByteArray := ⟨#[103, 117, 97, 114, 100, 115]⟩
def wDay : ByteArray := ⟨#[100, 97, 121]⟩
def fmtL (m : GMuseum) : List ByteArray := if museumB m then [numsF wObj m.ps, numsF wGua m.gs, numsF wDay [m.d]] ++ m.rs.map entT else []
/- The broken entry of a longer record. -/
theorem brokF_snoc : ∀ (rs : List GEntry) (s : Int) (p : Option Int) (k : Nat) (e : GEntry), brokF s p k (rs ++ [e]) = if brokF s p k rs = -1 then brokF ((rs.getLast?.map (·.s)).getD s) ((rs.getLast?.map (·.m)).or p) (k + rs.length) [e] else brokF s p k rs
  | [], s, p, k, e => rfl
  | x :: r, s, p, k, e => by
    rw [List.cons_append]
    conv => lhs; rw [brokF]
    conv => rhs; rw [brokF]
    split
    · rw [if_neg (by omega)]
    · rw [brokF_snoc r x.s (some x.m) (k + 1) e]
      split
      · cases r with
        | nil => simp
        | cons y r =>
          rw [List.getLast?_cons_cons]
          cases hl : (y :: r).getLast? with
          | none => simp at hl
          | some z =>
            have : k + 1 + (y :: r).length = k + (x :: y :: r).length := by simp only [List.length_cons]; omega
            rw [this]; rfl
      · rfl
theorem sealed_snoc {rs : List GEntry} {mo : Int} {x : ByteArray} (h : x.size ≤ 9223372036854775807) (hB : appB rs mo x = true) : sealedB (rs ++ [appE rs mo x h]) = true := by
  unfold appB sealedB at hB
  simp only [Bool.and_eq_true, decide_eq_true_eq, beq_iff_eq, Bool.not_eq_true'] at hB
  obtain ⟨⟨h1, h2⟩, h3, h4, h5⟩ := hB
  have h3' : rs.length ≠ 30 := by simpa using h3
  unfold sealedB brokenI
  simp only [Bool.and_eq_true, decide_eq_true_eq, beq_iff_eq, List.length_append, List.length_cons, List.length_nil]
  refine ⟨by omega, ?_⟩
  unfold brokenI at h2
  rw [brokF_snoc, if_pos h2]
  unfold lastS at h4
  unfold lateB at h5
  unfold brokF
  unfold appE lastS
  cases hl : rs.getLast? with
  | none =>
    rw [hl] at h4
    have h4' : 0 ≤ sealB 1 mo x := h4
    have hc : (decide (sealB 1 mo x < 0) || (sealB 1 mo x != sealB 1 mo x || early none mo)) = false := by simp [early]; omega
    show (if (decide (sealB 1 mo x < 0) || (sealB 1 mo x != sealB 1 mo x || early none mo)) = true then ((0 + rs.length : Nat) : Int) else -1) = -1
    rw [hc]; rfl
  | some e =>
    rw [hl] at h4 h5
    simp only [decide_eq_true_eq] at h5
    have h4' : 0 ≤ sealB e.s mo x := h4
    have hc : (decide (sealB e.s mo x < 0) || (sealB e.s mo x != sealB e.s mo x || early (some e.m) mo)) = false := by simp [early]; omega
    show (if (decide (sealB e.s mo x < 0) || (sealB e.s mo x != sealB e.s mo x || early (some e.m) mo)) = true then ((0 + rs.length : Nat) : Int) else -1) = -1
    rw [hc]; rfl
theorem sealed_init {rs : List GEntry} {e : GEntry} (h : sealedB (rs ++ [e]) = true) : sealedB rs = true := by
  unfold sealedB brokenI at h ⊢
  simp only [Bool.and_eq_true, decide_eq_true_eq, beq_iff_eq, List.length_append, List.length_cons, List.length_nil] at h ⊢
  refine ⟨by omega, ?_⟩
  have h2 := h.2
  rw [brokF_snoc] at h2
  split at h2
  · assumption
  · exact h2
/- What the changes keep. -/
theorem museumB_parts {m : GMuseum} : museumB m = true ↔ placesB m.H m.ds m.fs = true ∧ placesB m.H m.ds m.ps = true ∧ m.fs.length = m.ps.length ∧ m.gs.length ≤ 6 ∧ hallsB m.H m.ds m.gs = true ∧ inB m.d 0 1000000 = true ∧ sealedB m.rs = true ∧ ∀ e ∈ m.rs, e.m ≤ m.d := by
  unfold museumB
  simp only [Bool.and_eq_true, beq_iff_eq, decide_eq_true_eq, List.all_eq_true]
theorem hallsB_set {H : Int} {ds : List GDoor} {xs : List Int} (h : hallsB H ds xs = true) (i : Nat) {x : Int} (hx : hallB H x = true) : hallsB H ds (xs.set i x) = true := by
  unfold hallsB at h ⊢
  simp only [Bool.and_eq_true, List.all_eq_true] at h ⊢
  refine ⟨fun y hy => ?_, h.2⟩
  rcases List.mem_or_eq_of_mem_set hy with hy | rfl
  · exact h.1 y hy
  · exact hx
theorem placesB_set {H : Int} {ds : List GDoor} {xs : List Int} (h : placesB H ds xs = true) (i : Nat) {x : Int} (hx : hallB H x = true) : placesB H ds (xs.set i x) = true := by
  unfold placesB at h ⊢
  simp only [Bool.and_eq_true, decide_eq_true_eq] at h ⊢
  exact ⟨by simpa using h.1, hallsB_set h.2 i hx⟩
theorem hallB_iff {H : Int} {ds : List GDoor} (h : houseB H ds = true) {x : Int} : hallB H x = true ↔ 0 ≤ x ∧ x < H := by
  have := house_HG h
  unfold hallB inB
  have hw : wrap64 (H - 1) = H - 1 := by unfold wrap64; omega
  rw [hw]
  simp only [Bool.and_eq_true, decide_eq_true_eq]
  omega
theorem days_ok {m : GMuseum} (h : museumB m = true) (d : Int) : museumB (daysM m d) = true := by
  unfold daysM
  split
  · rename_i hb
    unfold daysB inB at hb
    simp only [Bool.and_eq_true, decide_eq_true_eq] at hb
    rw [museumB_parts] at h ⊢
    obtain ⟨h1, h2, h3, h4, h5, h6, h7, h8⟩ := h
    simp only [inB, Bool.and_eq_true, decide_eq_true_eq] at h6 ⊢
    exact ⟨h1, h2, h3, h4, h5, ⟨by omega, by omega⟩, h7, fun e he => by have := h8 e he; omega⟩
  · exact h
theorem guard_ok {m : GMuseum} (h : museumB m = true) (g k : Int) : museumB (guardM m g k) = true := by
  unfold guardM
  split
  · rename_i hb
    have hH := museumB_house h
    unfold guardB at hb
    simp only [Bool.and_eq_true] at hb
    obtain ⟨d1, d2, d3, d4, d5⟩ := doorB_inG hH hb.2.2
    rw [museumB_parts] at h ⊢
    obtain ⟨h1, h2, h3, h4, h5, h6, h7, h8⟩ := h
    exact ⟨h1, h2, h3, by simpa using h4, hallsB_set h5 _ ((hallB_iff hH).2 ⟨d4, d5⟩), h6, h7, h8⟩
  · exact h
theorem canMove_go {H : Int} {ds : List GDoor} {ps gs : List Int} {x : GMove} (h : canMoveB H ds ps gs x = true) : goB H ds ps x = true := by
  unfold canMoveB at h
  simp only [Bool.and_eq_true] at h
  exact h.2.2.2.1
theorem goB_to {H : Int} {ds : List GDoor} {ps : List Int} {x : GMove} (h : goB H ds ps x = true) : hallB H x.t = true := by
  unfold goB at h
  simp only [Bool.and_eq_true] at h
  exact h.2.1
theorem night_ok {m : GMuseum} (h : museumB m = true) (x : GMove) : museumB (nightM m x) = true := by
  unfold nightM
  split
  · rename_i hb
    unfold nightB at hb
    simp only [Bool.and_eq_true] at hb
    obtain ⟨-, hc, ha⟩ := hb
    have hs := sealed_snoc (moveT_h x) ha
    have ht := goB_to (canMove_go hc)
    rw [museumB_parts] at h ⊢
    obtain ⟨h1, h2, h3, h4, h5, h6, h7, h8⟩ := h
    refine ⟨h1, placesB_set h2 _ ht, by simpa using h3, h4, h5, h6, hs, fun e he => ?_⟩
    rcases List.mem_append.1 he with he | he
    · exact h8 e he
    · rw [List.mem_singleton] at he
      subst he
      exact Int.le_refl _
  · exact h
theorem act_ok {m : GMuseum} (h : museumB m = true) (a : GAct) : museumB (actM m a) = true := by
  unfold actM
  split
  · split
    · exact guard_ok h _ _
    · split
      · exact night_ok h _
      · split
        · exact days_ok h _
        · exact h
  · exact h
theorem run_ok : ∀ (acts : List GAct) {m : GMuseum} (l : List Int), museumB m = true → museumB (runF m acts l).1 = true
  | [], m, l, h => h
  | a :: r, m, l, h => run_ok r _ (act_ok h a)
theorem run_len : ∀ (acts : List GAct) (m : GMuseum) (l : List Int), (runF m acts l).2.length = l.length + acts.length
  | [], m, l => rfl
  | a :: r, m, l => by rw [runF, run_len r]; simp; omega
theorem runF_snoc : ∀ (acts : List GAct) (m : GMuseum) (l : List Int) (a : GAct), runF m (acts ++ [a]) l = (actM (runF m acts l).1 a, (runF m acts l).2 ++ [actN (runF m acts l).1 a])
  | [], m, l, a => rfl
  | b :: r, m, l, a => by rw [List.cons_append, runF, runF_snoc r]; rfl
/- The lengths of what the changes answer. -/
theorem nightM_lens (m : GMuseum) (x : GMove) : (nightM m x).ds.length = m.ds.length ∧ (nightM m x).fs.length = m.fs.length ∧ (nightM m x).ps.length = m.ps.length ∧ (nightM m x).gs.length = m.gs.length ∧ (nightM m x).rs.length ≤ m.rs.length + 1 := by
  unfold nightM
  split
  · exact ⟨rfl, rfl, by simp, rfl, by simp⟩
  · exact ⟨rfl, rfl, rfl, rfl, by omega⟩
theorem sealed_len {rs : List GEntry} (h : sealedB rs = true) : rs.length ≤ 30 := by
  unfold sealedB at h
  simp only [Bool.and_eq_true, decide_eq_true_eq] at h
  exact h.1
theorem nightM_rs (m : GMuseum) (x : GMove) : (nightM m x).rs.length ≤ m.rs.length ∨ (nightM m x).rs.length ≤ 31 := by
  unfold nightM
  split
  · rename_i hb
    unfold nightB appB at hb
    simp only [Bool.and_eq_true] at hb
    have := sealed_len hb.2.2.1
    right; simp; omega
  · left; omega
end Go.Proofs.YtfhibjehnoibeaaDoor
/- Contracts of LastSeal and AppendEntry of both sides; no condition but what stands at each theorem. -/
namespace Go.Proofs.YtfhibjehnoibeaaDoor
set_option linter.unusedSimpArgs false
set_option linter.unusedVariables false
open Go.RowKit Go.Sort
def AppPost (rs : List GEntry) (mo : Int) (x : ByteArray) (h : x.size ≤ 9223372036854775807) (w : World) (e : Ending) (w' : World) : Prop :=
  ∃ v, e = .returned (.tuple #[v, .bool (appB rs mo x)]) ∧ Ext w w' ∧ w'.ownsRow w.heap.size 58 3 v (appL rs mo x h).length ((appL rs mo x h).flatMap GEntry.enc)
theorem app_no {rs : List GEntry} {mo : Int} {x : ByteArray} {h : x.size ≤ 9223372036854775807} {w w' : World} {v : Value} {n : Nat} (hB : appB rs mo x = false) (hl : rs.length = n) (e : Ext w w') (ho : w'.ownsRow w.heap.size 58 3 v n (rs.flatMap GEntry.enc)) : AppPost rs mo x h w (.returned (.tuple #[v, .bool false])) w' := by
  refine ⟨v, by rw [hB], e, ?_⟩
  unfold appL
  rw [hB]
  simpa [hl] using ho
theorem app_yes {rs : List GEntry} {mo : Int} {x : ByteArray} {h : x.size ≤ 9223372036854775807} {w w' : World} {v : Value} {n : Nat} (hB : appB rs mo x = true) (hl : rs.length = n) (e : Ext w w') (ho : w'.ownsRow w.heap.size 58 3 v (n + 1) (rs.flatMap GEntry.enc ++ (appE rs mo x h).enc)) : AppPost rs mo x h w (.returned (.tuple #[v, .bool true])) w' := by
  refine ⟨v, by rw [hB], e, ?_⟩
  unfold appL
  rw [if_pos hB, List.flatMap_append, List.length_append, hl]
  simpa using ho
theorem appB_seal {rs : List GEntry} {mo : Int} {x : ByteArray} (h : false = sealedB rs) : appB rs mo x = false := by unfold appB; rw [← h]; rfl
theorem appB_full {rs : List GEntry} {mo : Int} {x : ByteArray} (h : rs.length = 30) : appB rs mo x = false := by unfold appB; rw [h]; simp
theorem appB_neg {rs : List GEntry} {mo : Int} {x : ByteArray} (h : sealB (lastS rs) mo x < 0) : appB rs mo x = false := by
  unfold appB; rw [decide_eq_false (show ¬ 0 ≤ sealB (lastS rs) mo x by omega)]; simp
theorem appB_rest {rs : List GEntry} {mo : Int} {x : ByteArray} (h : true = sealedB rs) (h30 : rs.length ≠ 30) (hs : ¬ sealB (lastS rs) mo x < 0) : appB rs mo x = lateB rs mo := by
  unfold appB; rw [← h, decide_eq_false h30, decide_eq_true (show 0 ≤ sealB (lastS rs) mo x by omega)]; simp
theorem late_nil {rs : List GEntry} (h : rs.length = 0) (mo : Int) : lateB rs mo = true := by
  rw [List.length_eq_zero_iff.1 h]; rfl
set_option maxRecDepth 100000 in
set_option maxHeartbeats 1000000 in
theorem spec_LastSeal (A : Option Addr) (n c : Nat) (rs : List GEntry) (w : World) (hx : Rd w 3 A n (rs.flatMap GEntry.enc)) : Calls Tryd.prog 99 #[.slice A n c] w fun e w' => e = .returned (.int .i64 (lastS rs)) ∧ Ext w w' := by
  have hn := hx.2.1
  have hl := hx.len GEntry.len (by omega)
  by_cases h0 : n = 0
  case pos =>
    subst h0
    have HS : Hid (lastS rs = 1) := by unfold Hid; rw [List.length_eq_zero_iff.1 hl]; rfl
    clear hl hx
    go_enter Tryd.func99, Tryd.ntmps99
    go_wp2_with fail
    go_ret
    exact ⟨ret_int HS.out.symm, Ext.refl _⟩
  case neg =>
    obtain ⟨b, off, x, rfl, hbs, hxk, q0, q1, q2⟩ := GEntry.at_ hx (show n - 1 < n by omega)
    have HS : Hid (lastS rs = x.s) := Lib.hid (lastS_at (k := n - 1) (by omega) hxk)
    have f4 : ((n : Int) == 0) = false := by rw [beq_eq_false_iff_ne]; omega
    have ew : IntKind.i64.wrap ((n : Int) - 1) = (n : Int) - 1 := IntWalk.i64_in _ (by omega)
    have i1 : (0 : Int) ≤ (n : Int) - 1 := by omega
    have i4 : (1 : Int) ≤ (n : Int) := by omega
    have i2 : (n : Int) - 1 < (n : Int) := by omega
    have i3 : ((n : Int) - 1).toNat = n - 1 := by omega
    clear hl hx hxk
    go_enter Tryd.func99, Tryd.ntmps99
    go_wp2_with fail
    go_ret
    exact ⟨ret_int HS.out.symm, Ext.refl _⟩
set_option maxRecDepth 100000 in
set_option maxHeartbeats 2000000 in
theorem spec_AppendEntry (A : Option Addr) (n c : Nat) (rs : List GEntry) (mo : Int) (x : ByteArray) (w : World) (hx : Rd w 3 A n (rs.flatMap GEntry.enc)) (hnc : Hid (A = none → c = 0)) (hn : n ≤ 1048576) (hs : x.size ≤ 9223372036854775807) :
    Calls Tryd.prog 74 #[.slice A n c, .int .i64 mo, .string x] w (AppPost rs mo x hs w) := by
  have hl := Lib.hid (hx.len GEntry.len (by omega))
  have HX := Lib.hid hx
  have cC := Lib.hid (spec_l30Copy A n c rs w hx hnc hn)
  have cL := Lib.hid (fun W (he : Ext w W) => spec_LastSeal A n c rs W (hx.keep he))
  have cK := Lib.hid (fun W (he : Ext w W) => spec_IsSealed A n c rs W (hx.keep he))
  have cS := Lib.hid (fun W => spec_SealAfter (lastS rs) mo x W hs)
  obtain ⟨z, hz⟩ : ∃ z, z = sealB (lastS rs) mo x := ⟨_, rfl⟩
  obtain ⟨L, hL⟩ : ∃ L, L = lastS rs := ⟨_, rfl⟩
  obtain ⟨sb, hsb⟩ : ∃ sb, sb = sealedB rs := ⟨_, rfl⟩
  rw [← hz, ← hL] at cS
  rw [← hL] at cL
  rw [← hsb] at cK
  have HZ := Lib.hid hz
  have HB := Lib.hid hsb
  clear hx hz hL hsb
  go_enter Tryd.func74, Tryd.ntmps74
  go_wp2_with fail
  refine cC.out.mono ?_
  rintro e w1 ⟨g, c', rfl, he1, ho1⟩
  have HE1 := Lib.hid he1
  have HO1 := Lib.hid ho1
  clear he1 ho1
  go_wp2_with fail
  refine (cL.out w1 HE1.out).mono ?_
  rintro e w2 ⟨rfl, he2⟩
  have HE2 := Lib.hid (HE1.out.trans he2)
  have HO2 := Lib.hid (own_keep HO1.out he2)
  clear he2
  go_wp2_with fail
  refine (cS.out w2).mono ?_
  rintro e w3 ⟨rfl, rfl⟩
  go_wp2_with fail
  refine (cK.out w2 HE2.out).mono ?_
  rintro e w3 ⟨rfl, he3⟩
  have HE3 := Lib.hid (HE2.out.trans he3)
  have HO3 := Lib.hid (own_keep HO2.out he3)
  clear he3 cC cL cK cS HE1 HO1 HE2 HO2
  cases sb
  case false =>
    go_wp2_with fail
    go_ret2
    exact app_no (appB_seal HB.out) hl.out HE3.out HO3.out
  by_cases h30 : n = 30
  case pos =>
    have f30 : ((n : Int) == 30) = true := by rw [beq_iff_eq]; omega
    have H30 := Lib.hid h30
    clear h30
    go_wp2_with fail
    go_ret2
    exact app_no (appB_full (hl.out.trans H30.out)) hl.out HE3.out HO3.out
  have f30 : ((n : Int) == 30) = false := by rw [beq_eq_false_iff_ne]; omega
  have H30 := Lib.hid (show rs.length ≠ 30 by rw [hl.out]; exact h30)
  clear h30
  by_cases h0 : z < 0
  case pos =>
    go_wp2_with fail
    go_ret2
    exact app_no (appB_neg (by rw [← HZ.out]; exact h0)) hl.out HE3.out HO3.out
  have HR : Hid (appB rs mo x = lateB rs mo) := Lib.hid (appB_rest HB.out H30.out (by rw [← HZ.out]; exact h0))
  by_cases hn0 : n = 0
  case pos =>
    have H0 := Lib.hid hn0
    have f0 : ¬ (0 : Int) < (n : Int) := by omega
    clear hn0
    go_wp2_with (at_builtin; refine (fun h : Hid _ => h.out) ?_)
    unfold Hid
    refine append1 ei_EntryS rfl _ _ rfl w.heap.size w3 _ _ n _ (by rfl) HO3.out [.int .i64 mo, .string x, .int .i64 z] (by rfl) rfl (one_GEntry1 ⟨mo, x, z, hs⟩) (by omega) (HE3.out.size) ?_
    intro v' w4 ho4 he4
    have HO4 := Lib.hid ho4
    have HE4 := Lib.hid (he4 w HE3.out (Nat.le_refl _))
    clear ho4 he4
    go_wp2_with fail
    go_ret2
    refine app_yes (h := hs) (by rw [HR.out, late_nil (hl.out.trans H0.out)]) hl.out HE4.out ?_
    unfold appE GEntry.enc
    rw [← HZ.out]
    exact HO4.out
  obtain ⟨b, off, y, rfl, hbs, hyk, q0, q1, q2⟩ := GEntry.at_ (HX.out.keep HE3.out) (show n - 1 < n by omega)
  have HL : Hid (lateB rs mo = decide (y.m ≤ mo)) := Lib.hid (lateB_at (k := n - 1) (by rw [hl.out]; omega) hyk mo)
  have f0 : (0 : Int) < (n : Int) := by omega
  have ew : IntKind.i64.wrap ((n : Int) - 1) = (n : Int) - 1 := IntWalk.i64_in _ (by omega)
  have i1 : (0 : Int) ≤ (n : Int) - 1 := by omega
  have i4 : (1 : Int) ≤ (n : Int) := by omega
  have i2 : (n : Int) - 1 < (n : Int) := by omega
  have i3 : ((n : Int) - 1).toNat = n - 1 := by omega
  clear hyk
  by_cases hm : mo < y.m
  case pos =>
    go_wp2_with fail
    go_ret2
    exact app_no (by rw [HR.out, HL.out, decide_eq_false (by omega)]) hl.out HE3.out HO3.out
  go_wp2_with (at_builtin; refine (fun h : Hid _ => h.out) ?_)
  unfold Hid
  refine append1 ei_EntryS rfl _ _ rfl w.heap.size w3 _ _ n _ (by rfl) HO3.out [.int .i64 mo, .string x, .int .i64 z] (by rfl) rfl (one_GEntry1 ⟨mo, x, z, hs⟩) (by omega) (HE3.out.size) ?_
  intro v' w4 ho4 he4
  have HO4 := Lib.hid ho4
  have HE4 := Lib.hid (he4 w HE3.out (Nat.le_refl _))
  clear ho4 he4 q0 q1 q2
  go_wp2_with fail
  go_ret2
  refine app_yes (h := hs) (by rw [HR.out, HL.out, decide_eq_true (by omega)]) hl.out HE4.out ?_
  unfold appE GEntry.enc
  rw [← HZ.out]
  exact HO4.out
end Go.Proofs.YtfhibjehnoibeaaDoor
/- Contract of the program's NightMove; no condition but what stands at each theorem. -/
namespace Go.Proofs.YtfhibjehnoibeaaDoor
set_option linter.unusedSimpArgs false
set_option linter.unusedVariables false
open Go.RowKit Go.Sort
/-- A museum in rows of the call's own, with other rows of places and of entries. -/
theorem MOwn.repl {w : World} {base B lo1 hi1 lo2 hi2 np cp nr cr : Nat} {Ap Ar : Option Addr} {v : MV} {m : GMuseum} {ps : List Int} {rs : List GEntry} (h : MOwn w base v m) (ha : MAt base B v)
    (hp : w.ownsRow lo1 3 1 (.slice Ap np cp) np (ps.flatMap ienc)) (ap : At lo1 hi1 (.slice Ap np cp)) (hr : w.ownsRow lo2 58 3 (.slice Ar nr cr) nr (rs.flatMap GEntry.enc)) (ar : At lo2 hi2 (.slice Ar nr cr))
    (h1 : B ≤ lo1) (h2 : hi1 ≤ lo2) (h3 : base ≤ lo1 ∧ B ≤ lo2 ∧ base ≤ lo2) : MOwn w base { v with sp := ⟨Ap, np, cp⟩, sr := ⟨Ar, nr, cr⟩ } { m with ps := ps, rs := rs } := by
  obtain ⟨a1, a2, a3, a4, a5, a6, a7, a8, a9, a10⟩ := aparts h.ap
  obtain ⟨d1, d2, d3, d4, d5⟩ := ha
  exact ⟨h.eH, h.ed, h.od, h.of_, own_weak hp h3.1, h.og, own_weak hr h3.2.2,
    apart5 a1 (Apart.of_at d1 ap (.inl h1)) a3 (Apart.of_at d1 ar (.inl h3.2.1)) (Apart.of_at d2 ap (.inl h1)) a6 (Apart.of_at d2 ar (.inl h3.2.1)) (Apart.of_at ap d4 (.inr h1)) (Apart.of_at ap ar (.inl h2)) (Apart.of_at d4 ar (.inl h3.2.1))⟩
end Go.Proofs.YtfhibjehnoibeaaDoor
/- The drawing of places; no condition but what stands at each theorem. -/
namespace Go.Proofs.YtfhibjehnoibeaaDoor
set_option linter.unusedSimpArgs false
set_option linter.unusedVariables false
open Go.RowKit Go.Sort
theorem ei_IntD : EI Tryd.prog 27 3 1 := ei_of Tryd.underlying27 (by omega) (by kernel_rfl)
end Go.Proofs.YtfhibjehnoibeaaDoor
/- The drawing of places in a house; no condition but what stands at each theorem. -/
namespace Go.Proofs.YtfhibjehnoibeaaDoor
set_option linter.unusedSimpArgs false
set_option linter.unusedVariables false
open Go.RowKit Go.Sort
/-- Numbers below H have been drawn, a row of the call's own. -/
def DrawnIn (H : Nat) (N : Int) (p : Nat) (w : World) (e : Ending) (w' : World) : Prop := ∃ (v : Value) (xs : List Int), e = .returned v ∧ w'.ownsRow w.heap.size 3 1 v xs.length (xs.flatMap ienc) ∧ (xs.length : Int) ≤ N ∧ (∀ x ∈ xs, 0 ≤ x ∧ x < H) ∧ Cur w' p ∧ w.grownBy w' (some p)
theorem blk_overP {w w' : World} {g base : Nat} {t : TypeId} {cs : Array Value} {row : Option Nat} (h : Blk w g t cs) (k : w.grownBy w' row) (hr : ∀ k, row = some k → base ≤ k) (hg : g < base) : Blk w' g t cs :=
  (k.block g h.lt (fun e => by have := hr g e.symm; omega)).trans h
theorem imax_one {H : Nat} (h : 1 ≤ H) : imax 1 (H : Int) = H := by unfold imax; split <;> omega
set_option maxRecDepth 100000 in
set_option maxHeartbeats 2000000 in
theorem spec_l31Places (p H : Nat) (hv : Value) (N : Int) (w : World) (hc : Cur w p) (hH : 1 ≤ H) (hN : 0 ≤ N) (hN2 : N ≤ 1000) :
    Calls Tryd.prog 29 #[.pointer (some ⟨p, 0, none⟩), .agg #[.int .i64 (H : Int), hv], .int .i64 N] w (DrawnIn H N p w) := by
  have hp := hc.lt
  obtain ⟨wb, hwb⟩ : ∃ wb, wb = w.alloc (.cells #[.int .i64 (H : Int), hv] 26) := ⟨_, rfl⟩
  obtain ⟨wa, hwa⟩ : ∃ wa, wa = wb.alloc (.cells #[] 3) := ⟨_, rfl⟩
  have hsb : wb.heap.size = w.heap.size + 1 := by rw [hwb]; simp
  have hB : Blk wb w.heap.size 26 #[.int .i64 (H : Int), hv] := by rw [hwb]; exact Blk.new _ _ _
  have hBa : Blk wa w.heap.size 26 #[.int .i64 (H : Int), hv] := hB.keep (by rw [hwa]; exact (Ext.refl wb).alloc _)
  have hca : Cur wa p := by rw [hwa, hwb]; exact cur_alloc (cur_alloc hc _) _
  have hga : w.grownBy wa (some p) := by rw [hwa, hwb]; exact grown_alloc (grown_alloc (grown_refl _ _) _) _
  have hoa : wa.ownsRow wb.heap.size 3 1 (.slice (some ⟨w.heap.size + 1, 0, none⟩) 0 0) 0 (([] : List Int).flatMap ienc) := by rw [← hsb, hwa]; exact own_empty wb wb.heap.size 3 1 (Nat.le_refl _)
  have Hwa : Hid (wa = (w.alloc (.cells #[.int .i64 (H : Int), hv] 26)).alloc (.cells #[] 3)) := Lib.hid (by rw [hwa, hwb])
  have HOa := Lib.hid hoa
  have HGa := Lib.hid hga
  have HBa := Lib.hid hBa
  have hpb : p < wb.heap.size := by omega
  have him := Lib.hid (imax_one hH)
  have Hsb := Lib.hid hsb
  have cA := Lib.hid (spec_l01Below p (N + 1) wa hca)
  have hmx := @run_imax Tryd.prog
  clear hwa hwb hoa hga hB hBa hca hc hsb
  go_enter Tryd.func29, Tryd.ntmps29
  go_wp2_with (go_at_call 30; refine (fun h : Hid _ => h.out) ?_)
  unfold Hid
  rw [← Hwa.out]
  refine cA.out.mono ?_
  rintro e w2 ⟨q, rfl, hq0, hq1, hc2, hg2⟩
  have HO2 := Lib.hid (own_grown HOa.out hpb hg2)
  have HG2 := Lib.hid (grown_trans HGa.out hg2)
  have HB2 := Lib.hid (blk_grown HBa.out (by omega) hg2)
  have HC2 := Lib.hid hc2
  obtain ⟨n, rfl⟩ := Int.eq_ofNat_of_zero_le hq0
  have hnN : (n : Int) ≤ N := by omega
  clear hg2 hc2 hq0 hq1 cA
  go_wp2_with fail
  go_loopw [7, 9] (fun ov iv wr => ∃ (k : Nat) (L : List Int), k ≤ n ∧ iv = .int .i64 k ∧ Hid (L.length = k) ∧ Hid (∀ x ∈ L, 0 ≤ x ∧ x < H) ∧ Hid (wr.ownsRow wb.heap.size 3 1 ov L.length (L.flatMap ienc)) ∧ Hid (Cur wr p) ∧ Hid (Blk wr w.heap.size 26 #[.int .i64 (H : Int), hv]) ∧ Hid (w.grownBy wr (some p))) (fun _ iv _ => n - (intOf iv).toNat)
  case atStart => exact ⟨0, [], by omega, rfl, Lib.hid rfl, Lib.hid (fun x hx => by cases hx), HO2, HC2, HB2, HG2⟩
  case round =>
    obtain ⟨k, L, hk, rfl, hLk, hLm, hown, hcr, hbr, hgr⟩ := hrel
    by_cases hlt : k < n
    · have y0 := hbr.out.cellAt (i := 0) (by simp)
      simp at y0
      go_wp2_with (go_at_call 30; refine (fun h : Hid _ => h.out) ?_)
      unfold Hid
      refine (spec_l01Below p _ _ hcr.out).mono ?_
      rintro e w5 ⟨r, rfl, h0, h1, hc5, hg5⟩
      rw [him.out] at h1
      have HO5 := Lib.hid (own_grown hown.out hpb hg5)
      have HG5 := Lib.hid (grown_trans hgr.out hg5)
      have HB5 := Lib.hid (blk_grown hbr.out (by omega) hg5)
      have HC5 := Lib.hid hc5
      have hsz : wb.heap.size ≤ w5.heap.size := by have := HB5.out.lt; have := Hsb.out; omega
      have hLl : L.length ≤ 1000 := by have := hLk.out; omega
      have hr2 : r < H := by omega
      clear hg5 hc5 h1 y0
      go_wp2_with (at_builtin; refine (fun h : Hid _ => h.out) ?_)
      unfold Hid
      refine append1g ei_IntD rfl _ _ rfl wb.heap.size w5 _ _ L.length _ (by rfl) HO5.out (ienc r) (by rfl) rfl (by intro u hu; simp [ienc] at hu; subst hu; rfl) (by omega) hsz ?_
      intro v6 w6 row ho6 hg6 hr6
      have HO6 := Lib.hid ho6
      have HC6 := Lib.hid (cur_grown HC5.out hg6 (fun q hq => by have := hr6 q hq; omega))
      have HB6 := Lib.hid (blk_overP HB5.out hg6 hr6 (by have := Hsb.out; omega))
      have HG6 := Lib.hid (grown_over HG5.out hg6 (fun q hq => by have := hr6 q hq; have := Hsb.out; omega))
      clear ho6 hg6 hr6
      go_wp2_with fail
      go_roundw
      case rel => exact ⟨k + 1, L ++ [r], by omega, by go_num, Lib.hid (by have := hLk.out; simp; omega), Lib.hid (fun x hx => by
        rcases List.mem_append.1 hx with hx | hx
        · exact hLm.out x hx
        · rw [List.mem_singleton] at hx; subst hx; exact ⟨h0, hr2⟩), by unfold Hid; rw [List.length_append, List.flatMap_append]; simpa using HO6.out, HC6, HB6, HG6⟩
      case measure => simp [intOf] <;> omega
    · go_wp2_with fail
      go_ret
      exact ⟨_, L, rfl, own_weak (base := wb.heap.size) hown.out (by have := Hsb.out; omega), by have := hLk.out; omega, hLm.out, hcr.out, hgr.out⟩
end Go.Proofs.YtfhibjehnoibeaaDoor
/- The halls behind a hall's doors, as the reference lists them for a draw; no condition but what stands at each theorem. -/
namespace Go.Proofs.YtfhibjehnoibeaaDoor
set_option linter.unusedSimpArgs false
set_option linter.unusedVariables false
open Go.RowKit Go.Sort
set_option maxRecDepth 100000 in
set_option maxHeartbeats 2000000 in
theorem spec_l23Has (H : Int) (A : Option Addr) (n c : Nat) (ds : List GDoor) (x : Int) (w : World) (hx : Rd w 2 A n (ds.flatMap GDoor.enc)) (hB : houseB H ds = true) (h0 : 0 ≤ x) (h1 : x < H) :
    Calls Tryd.prog 61 #[.agg #[.int .i64 H, .slice A n c], .int .i64 x] w fun e w' => e = .returned (.bool true) ∧ Ext w w' := by
  have h7 := houseB_spec hB
  have hH1 : 1 ≤ H := h7.1
  have hH7 : H ≤ 7 := h7.2.1
  have HB := Lib.hid hB
  have HI : Hid (inB x 0 (H - 1) = true) := Lib.hid (by simp [inB]; omega)
  clear h7 hB
  obtain ⟨wb, hwb⟩ : ∃ wb, wb = w.alloc (.cells #[.int .i64 H, .slice A n c] 26) := ⟨_, rfl⟩
  obtain ⟨hE, hsb, k0, k1⟩ := box2 w _ _ _ wb hwb
  have HE := Lib.hid hE
  have Hwb := Lib.hid hwb
  have Hk0 := Lib.hid k0
  have Hk1 := Lib.hid k1
  have hbl : w.heap.size < wb.heap.size := by omega
  have hxb := Lib.hid (hx.keep hE)
  clear hE hx hsb k0 k1 hwb
  have HC := Lib.hid (spec_HouseOk H A n c ds wb hxb.out)
  rw [HB.out] at HC
  go_enter Tryd.func61, Tryd.ntmps61
  go_wp2_with (go_at_call 78; refine (fun h : Hid _ => h.out) ?_)
  unfold Hid
  rw [← Hwb.out]
  refine HC.out.mono ?_
  rintro e w1 ⟨rfl, he1⟩
  have r0 := (he1.cellAt w.heap.size hbl 0).trans Hk0.out
  have HE1 := Lib.hid he1
  clear he1 HC
  go_wp2_with (go_at_call 72; refine (fun h : Hid _ => h.out) ?_)
  unfold Hid
  refine (spec_l01In _ _ _ _).mono ?_
  rintro e w2 ⟨rfl, rfl⟩
  rw [HI.out]
  go_wp2_with fail
  go_ret
  exact ⟨rfl, HE.out.trans HE1.out⟩
/-- Halls have been listed in a row of the call's own. -/
def DoorsPost (H : Nat) (w : World) (e : Ending) (w' : World) : Prop := ∃ (v : Value) (xs : List Int), e = .returned v ∧ w'.ownsRow w.heap.size 3 1 v xs.length (xs.flatMap ienc) ∧ xs.length ≤ H ∧ (∀ y ∈ xs, 0 ≤ y ∧ y < H) ∧ Ext w w'
set_option maxRecDepth 100000 in
set_option maxHeartbeats 4000000 in
theorem spec_DoorsFrom (H : Nat) (A : Option Addr) (n c : Nat) (ds : List GDoor) (x : Int) (w : World) (hx : Rd w 2 A n (ds.flatMap GDoor.enc)) (hB : houseB (H : Int) ds = true) (h0 : 0 ≤ x) (h1 : x < H) :
    Calls Tryd.prog 47 #[.agg #[.int .i64 (H : Int), .slice A n c], .int .i64 x] w (DoorsPost H w) := by
  have hH7 : (H : Int) ≤ 7 := (houseB_spec hB).2.1
  have CHas := Lib.hid (fun W (k : Rd W 2 A n (ds.flatMap GDoor.enc)) => spec_l23Has (H : Int) A n c ds x W k hB h0 h1)
  have CDoor := Lib.hid (fun (y : Int) W (k : Rd W 2 A n (ds.flatMap GDoor.enc)) => spec_l23Door (H : Int) A n c ds y x W k)
  clear hB
  obtain ⟨wb, hwb⟩ : ∃ wb, wb = w.alloc (.cells #[.int .i64 H, .slice A n c] 26) := ⟨_, rfl⟩
  obtain ⟨hE, hsb, k0, k1⟩ := box2 w _ _ _ wb hwb
  have HE := Lib.hid hE
  have Hwb := Lib.hid hwb
  have Hk0 := Lib.hid k0
  have Hk1 := Lib.hid k1
  have hbl : w.heap.size < wb.heap.size := by omega
  have hxb := Lib.hid (hx.keep hE)
  clear hE hx hsb k0 k1 hwb
  obtain ⟨wc, hwc⟩ : ∃ wc, wc = wb.alloc (.cells #[] 3) := ⟨_, rfl⟩
  have HEc : Hid (Ext wb wc) := by unfold Hid; rw [hwc]; exact (Ext.refl wb).alloc _
  have HOc : Hid (wc.ownsRow wb.heap.size 3 1 (.slice (some ⟨wb.heap.size, 0, none⟩) 0 0) 0 []) := by unfold Hid; rw [hwc]; exact own_empty wb wb.heap.size 3 1 (Nat.le_refl _)
  have hsb : wb.heap.size = w.heap.size + 1 := by rw [Hwb.out]; simp
  rw [hsb] at HOc
  have Hwc := Lib.hid hwc
  have Hsb := Lib.hid hsb
  clear hwc hsb
  have hsw := HE.out.size
  go_enter Tryd.func47, Tryd.ntmps47
  go_wp2_with fail
  rw [← Hwb.out, ← Hwc.out]
  go_loopw [5, 6] (fun o i wr => ∃ (k : Nat) (L : List Int), k ≤ H ∧ i = .int .i64 k ∧ Hid (wr.ownsRow (w.heap.size + 1) 3 1 o L.length (L.flatMap ienc)) ∧ Hid (L.length ≤ k) ∧ Hid (∀ y ∈ L, 0 ≤ y ∧ y < H) ∧ Hid (Ext wb wr)) (fun _ i _ => H - (intOf i).toNat)
  case atStart => exact ⟨0, [], Nat.zero_le _, rfl, HOc, Lib.hid (Nat.zero_le _), Lib.hid (fun y hy => by cases hy), HEc⟩
  case round =>
    obtain ⟨k, L, hk, rfl, HO, hLk, hLm, HB⟩ := hrel
    have k0 := (HB.out.cellAt w.heap.size hbl 0).trans Hk0.out
    have k1 := (HB.out.cellAt w.heap.size hbl 1).trans Hk1.out
    by_cases hlt : k < H
    · go_wp2_with (go_at_call 61; refine (fun h : Hid _ => h.out) ?_)
      unfold Hid
      refine (CHas.out _ (hxb.out.keep HB.out)).mono ?_
      rintro e w1 ⟨rfl, he1⟩
      have HO1 := Lib.hid (own_keep HO.out he1)
      have HE1 := Lib.hid (HB.out.trans he1)
      clear he1 k0 k1
      have k0 := (HE1.out.cellAt w.heap.size hbl 0).trans Hk0.out
      have k1 := (HE1.out.cellAt w.heap.size hbl 1).trans Hk1.out
      by_cases hkx : (k : Int) = x
      · go_wp2_with fail
        go_roundw
        case rel => exact ⟨k + 1, L, by omega, by go_num, HO1, Lib.hid (by have := hLk.out; omega), hLm, HE1⟩
        case measure => simp [intOf]; omega
      · go_wp2_with (go_at_call 62; refine (fun h : Hid _ => h.out) ?_)
        unfold Hid
        refine (CDoor.out _ _ (hxb.out.keep HE1.out)).mono ?_
        rintro e w2 ⟨rfl, he2⟩
        have HO2 := Lib.hid (own_keep HO1.out he2)
        have HE2 := Lib.hid (HE1.out.trans he2)
        have hs2 : w.heap.size + 1 ≤ w2.heap.size := by have := HE2.out.size; have := Hsb.out; omega
        clear he2 k0 k1
        cases hd : doorB ds k x
        · go_wp2_with fail
          go_roundw
          case rel => exact ⟨k + 1, L, by omega, by go_num, HO2, Lib.hid (by have := hLk.out; omega), hLm, HE2⟩
          case measure => simp [intOf]; omega
        · have hLl : L.length ≤ 1000 := by have := hLk.out; omega
          go_wp2_with (at_builtin; refine (fun h : Hid _ => h.out) ?_)
          unfold Hid
          refine append1 ei_I rfl _ _ rfl (w.heap.size + 1) w2 _ _ L.length _ (by rfl) HO2.out [.int .i64 k] (by rfl) rfl (by intro u hu; simp at hu; subst hu; rfl) (by omega) (by omega) ?_
          intro v' w6 ho6 he6
          have HO6 := Lib.hid ho6
          have HE6 := Lib.hid (he6 wb HE2.out (by have := Hsb.out; omega))
          clear ho6 he6
          go_wp2_with fail
          go_roundw
          case rel => exact ⟨k + 1, L ++ [(k : Int)], by omega, by go_num, Lib.hid (by have := HO6.out; simpa [ienc] using this), Lib.hid (by have := hLk.out; simp; omega), Lib.hid (fun y hy => by
            rcases List.mem_append.1 hy with hy | hy
            · exact hLm.out y hy
            · rw [List.mem_singleton] at hy; subst hy; omega), HE6⟩
          case measure => simp [intOf]; omega
    · obtain rfl : k = H := by omega
      go_wp2_with fail
      go_ret
      exact ⟨_, L, rfl, own_weak HO.out (by omega), hLk.out, hLm.out, HE.out.trans HB.out⟩
end Go.Proofs.YtfhibjehnoibeaaDoor
/- The drawing of a move; no condition but what stands at each theorem. -/
namespace Go.Proofs.YtfhibjehnoibeaaDoor
set_option linter.unusedSimpArgs false
set_option linter.unusedVariables false
open Go.RowKit Go.Sort
/-- A Boolean has been drawn. -/
def DrawnBool (p : Nat) (w : World) (e : Ending) (w' : World) : Prop := ∃ b : Bool, e = .returned (.bool b) ∧ Cur w' p ∧ w.grownBy w' (some p)
set_option maxRecDepth 100000 in
set_option maxHeartbeats 1000000 in
theorem spec_l01Once (p : Nat) (n : Int) (w : World) (hc : Cur w p) : Calls Tryd.prog 39 #[.pointer (some ⟨p, 0, none⟩), .int .i64 n] w (DrawnBool p w) := by
  have cA := Lib.hid (spec_l01Below p n w hc)
  clear hc
  go_enter Tryd.func39, Tryd.ntmps39
  go_wp2_with (go_at_call 30; refine (fun h : Hid _ => h.out) ?_)
  unfold Hid
  refine cA.out.mono ?_
  rintro e w1 ⟨r, rfl, h0, h1, hc1, hg1⟩
  have HC := Lib.hid hc1
  have HG := Lib.hid hg1
  clear hc1 hg1 cA
  go_wp2_with fail
  go_ret
  exact ⟨_, rfl, HC.out, HG.out⟩
theorem rd1_lt {w : World} {A : Option Addr} {n : Nat} {xs : List Int} (h : Rd w 1 A n (xs.flatMap ienc)) (hn : 0 < n) : ∀ b off, A = some ⟨b, off, none⟩ → b < w.heap.size := by
  intro b off e
  obtain ⟨b', off', x, e', hb, -⟩ := ienc_at h hn
  rw [e'] at e
  injection e with e
  injection e with e
  subst e
  exact hb
theorem rd2_lt {w : World} {A : Option Addr} {n : Nat} {ds : List GDoor} (h : Rd w 2 A n (ds.flatMap GDoor.enc)) (hn : 0 < n) : ∀ b off, A = some ⟨b, off, none⟩ → b < w.heap.size := by
  intro b off e
  obtain ⟨b', off', x, e', hb, -⟩ := GDoor.at_ h hn
  rw [e'] at e
  injection e with e
  injection e with e
  subst e
  exact hb
theorem ienc_at' {w : World} {b off n k : Nat} {xs : List Int} (h : Rd w 1 (some ⟨b, off, none⟩) n (xs.flatMap ienc)) (hk : k < n) : ∃ x, xs[k]? = some x ∧ w.cell? ⟨b, off + k, none⟩ = some (.int .i64 x) := by
  obtain ⟨b', off', x, e', hb, h1, h2⟩ := ienc_at h hk
  injection e' with e'
  injection e' with e1 e2
  subst e1
  subst e2
  exact ⟨x, h1, h2⟩
/-- The numbers of a move lie in their ranges. -/
def MvIn (H n1 n2 : Nat) (x : GMove) : Prop := (0 ≤ x.o ∧ x.o < n1) ∧ (0 ≤ x.t ∧ x.t < H) ∧ (0 ≤ x.f ∧ x.f < n2) ∧ 0 ≤ x.s ∧ x.s < n2
/-- A move has been drawn. -/
def DrawnMove (p H n1 n2 : Nat) (w : World) (e : Ending) (w' : World) : Prop := ∃ x : GMove, e = .returned (.agg #[.int .i64 x.o, .int .i64 x.t, .int .i64 x.f, .int .i64 x.s]) ∧ MvIn H n1 n2 x ∧ Cur w' p ∧ w.grownBy w' (some p)
/-- While a move is drawn: the house's box, the result's box, the cursor, the rows that came in. -/
structure LSt (w : World) (p H : Nat) (A : Option Addr) (n c : Nat) (ds : List GDoor) (A1 : Option Addr) (n1 : Nat) (ps : List Int) (A2 : Option Addr) (n2 : Nat) (gs : List Int) (wr : World) : Prop where
  lp : p < w.heap.size
  hb : Blk wr w.heap.size 26 #[.int .i64 (H : Int), .slice A n c]
  rb : Blk wr (w.heap.size + 1) 41 #[.int .i64 0, .int .i64 0, .int .i64 0, .int .i64 0]
  cu : Cur wr p
  g : w.grownBy wr (some p)
  r0 : Rd wr 2 A n (ds.flatMap GDoor.enc)
  r1 : Rd wr 1 A1 n1 (ps.flatMap ienc)
  r2 : Rd wr 1 A2 n2 (gs.flatMap ienc)
  f0 : 0 < n → ∀ b off, A = some ⟨b, off, none⟩ → b ≠ p ∧ b < w.heap.size
  f1 : 0 < n1 → ∀ b off, A1 = some ⟨b, off, none⟩ → b ≠ p ∧ b < w.heap.size
  f2 : 0 < n2 → ∀ b off, A2 = some ⟨b, off, none⟩ → b ≠ p ∧ b < w.heap.size
theorem LSt.draw {w wr w2 : World} {p H n c n1 n2 : Nat} {A A1 A2 : Option Addr} {ds : List GDoor} {ps gs : List Int} (h : LSt w p H A n c ds A1 n1 ps A2 n2 gs wr) (hc : Cur w2 p) (hg : wr.grownBy w2 (some p)) : LSt w p H A n c ds A1 n1 ps A2 n2 gs w2 := by
  have lp := h.lp
  exact ⟨lp, blk_grown h.hb (by omega) hg, blk_grown h.rb (by omega) hg, hc, grown_trans h.g hg, rd_grown h.r0 (fun k b off e => (h.f0 k b off e).1) hg, rd_grown h.r1 (fun k b off e => (h.f1 k b off e).1) hg, rd_grown h.r2 (fun k b off e => (h.f2 k b off e).1) hg, h.f0, h.f1, h.f2⟩
theorem LSt.ext {w wr w2 : World} {p H n c n1 n2 : Nat} {A A1 A2 : Option Addr} {ds : List GDoor} {ps gs : List Int} (h : LSt w p H A n c ds A1 n1 ps A2 n2 gs wr) (e : Ext wr w2) : LSt w p H A n c ds A1 n1 ps A2 n2 gs w2 :=
  ⟨h.lp, h.hb.keep e, h.rb.keep e, cur_ext h.cu e, grown_extD h.g e, h.r0.keep e, h.r1.keep e, h.r2.keep e, h.f0, h.f1, h.f2⟩
theorem LSt.put {w wr : World} {p H n c n1 n2 : Nat} {A A1 A2 : Option Addr} {ds : List GDoor} {ps gs : List Int} (h : LSt w p H A n c ds A1 n1 ps A2 n2 gs wr) {gm : Nat} (hm : w.heap.size + 1 < gm) (i : Nat) (u : Value) : LSt w p H A n c ds A1 n1 ps A2 n2 gs (wr.setCell ⟨gm, i, none⟩ u) := by
  have lp := h.lp
  exact ⟨lp, Blk.far h.hb (p := ⟨gm, i, none⟩) (by show w.heap.size ≠ gm; omega) _, Blk.far h.rb (p := ⟨gm, i, none⟩) (by show w.heap.size + 1 ≠ gm; omega) _, cur_far h.cu (by omega) _, grown_fresh h.g (by omega) _,
    Rd.far h.r0 ⟨gm, i, none⟩ u (fun k b off e => by have := (h.f0 k b off e).2; show b ≠ gm; omega), Rd.far h.r1 ⟨gm, i, none⟩ u (fun k b off e => by have := (h.f1 k b off e).2; show b ≠ gm; omega), Rd.far h.r2 ⟨gm, i, none⟩ u (fun k b off e => by have := (h.f2 k b off e).2; show b ≠ gm; omega), h.f0, h.f1, h.f2⟩
set_option maxRecDepth 100000 in
set_option maxHeartbeats 8000000 in
theorem spec_l35Move (p H : Nat) (A : Option Addr) (n c : Nat) (ds : List GDoor) (A1 : Option Addr) (n1 c1 : Nat) (ps : List Int) (A2 : Option Addr) (n2 c2 : Nat) (gs : List Int) (w : World)
    (hc : Cur w p) (hx : Rd w 2 A n (ds.flatMap GDoor.enc)) (hx1 : Rd w 1 A1 n1 (ps.flatMap ienc)) (hx2 : Rd w 1 A2 n2 (gs.flatMap ienc))
    (hp0 : 0 < n → ∀ b off, A = some ⟨b, off, none⟩ → b ≠ p) (hp1 : 0 < n1 → ∀ b off, A1 = some ⟨b, off, none⟩ → b ≠ p) (hp2 : 0 < n2 → ∀ b off, A2 = some ⟨b, off, none⟩ → b ≠ p)
    (hB : houseB (H : Int) ds = true) (hps : ∀ x ∈ ps, 0 ≤ x ∧ x < H) (h1 : 1 ≤ n1) (h2 : 2 ≤ n2) (hn1 : n1 ≤ 1048576) (hn2 : n2 ≤ 1048576) :
    Calls Tryd.prog 31 #[.pointer (some ⟨p, 0, none⟩), .agg #[.int .i64 (H : Int), .slice A n c], .slice A1 n1 c1, .slice A2 n2 c2] w (DrawnMove p H n1 n2 w) := by
  have hpw := hc.lt
  have hHH := houseB_spec hB
  have hH1 : 1 ≤ H := by have := hHH.1; omega
  obtain ⟨wb, hwb⟩ : ∃ wb, wb = (w.alloc (.cells #[.int .i64 (H : Int), .slice A n c] 26)).alloc (.cells #[.int .i64 0, .int .i64 0, .int .i64 0, .int .i64 0] 41) := ⟨_, rfl⟩
  have hs1 : (w.alloc (.cells #[.int .i64 (H : Int), .slice A n c] 26)).heap.size = w.heap.size + 1 := by simp
  have hE : Ext w wb := by rw [hwb]; exact ((Ext.refl w).alloc _).alloc _
  have hS : LSt w p H A n c ds A1 n1 ps A2 n2 gs wb := by
    refine ⟨hpw, ?_, ?_, cur_ext hc hE, grown_extD (grown_refl _ _) hE, hx.keep hE, hx1.keep hE, hx2.keep hE, fun k b off e => ⟨hp0 k b off e, rd2_lt hx k b off e⟩, fun k b off e => ⟨hp1 k b off e, rd1_lt hx1 k b off e⟩, fun k b off e => ⟨hp2 k b off e, rd1_lt hx2 k b off e⟩⟩
    · rw [hwb]; exact (Blk.new _ _ _).keep ((Ext.refl _).alloc _)
    · rw [← hs1, hwb]; exact Blk.new _ _ _
  have hsb : wb.heap.size = w.heap.size + 2 := by rw [hwb]; simp
  have Hwb := Lib.hid hwb
  have HS := Lib.hid hS
  have CD := Lib.hid (fun (z : Int) (W : World) (k : Rd W 2 A n (ds.flatMap GDoor.enc)) (z0 : 0 ≤ z) (z1 : z < H) => spec_DoorsFrom H A n c ds z W k hB z0 z1)
  have hps := Lib.hid hps
  have him := Lib.hid (imax_one hH1)
  have hmx := @run_imax Tryd.prog
  have q1 : ((n1 : Int) == 0) = false := by simp; omega
  have q1b : ¬ (n1 : Int) = 0 := by omega
  have q2 : ¬ (n2 : Int) < 2 := by omega
  clear hwb hs1 hE hS hc hx hx1 hx2 hp0 hp1 hp2 hHH hB
  go_enter Tryd.func31, Tryd.ntmps31
  go_wp2_with (go_at_call 30; refine (fun h : Hid _ => h.out) ?_)
  unfold Hid
  rw [← Hwb.out]
  refine (spec_l01Below p _ _ HS.out.cu).mono ?_
  rintro e w1 ⟨ro, rfl, o0, o1, hc1, hg1⟩
  obtain ⟨ob, rfl⟩ := Int.eq_ofNat_of_zero_le o0
  have hon : ob < n1 := by omega
  have hz1 := hg1.size
  have HS1 := Lib.hid (HS.out.draw hc1 hg1)
  clear hc1 hg1 o1 HS
  have y0 := HS1.out.hb.cellAt (i := 0) (by simp)
  simp at y0
  go_wp2_with (go_at_call 30; refine (fun h : Hid _ => h.out) ?_)
  unfold Hid
  refine (spec_l01Below p _ _ HS1.out.cu).mono ?_
  rintro e w2 ⟨rt, rfl, t0, t1, hc2, hg2⟩
  rw [him.out] at t1
  have ht : rt < H := by omega
  have hz2 := hg2.size
  have HS2 := Lib.hid (HS1.out.draw hc2 hg2)
  clear hc2 hg2 t1 HS1 y0
  go_wp2_with (go_at_call 30; refine (fun h : Hid _ => h.out) ?_)
  unfold Hid
  refine (spec_l01Below p _ _ HS2.out.cu).mono ?_
  rintro e w3 ⟨rf, rfl, f0, f1, hc3, hg3⟩
  have hf : rf < n2 := by omega
  have hz3 := hg3.size
  have HS3 := Lib.hid (HS2.out.draw hc3 hg3)
  clear hc3 hg3 f1 HS2
  go_wp2_with (go_at_call 30; refine (fun h : Hid _ => h.out) ?_)
  unfold Hid
  refine (spec_l01Below p _ _ HS3.out.cu).mono ?_
  rintro e w4 ⟨rs, rfl, s0, s1, hc4, hg4⟩
  have hs : rs < n2 := by omega
  have hz4 := hg4.size
  have HS4 := Lib.hid (HS3.out.draw hc4 hg4)
  clear hc4 hg4 s1 HS3
  obtain ⟨w5, hw5⟩ : ∃ w5, w5 = w4.alloc (.cells #[.int .i64 (ob : Int), .int .i64 rt, .int .i64 rf, .int .i64 rs] 41) := ⟨_, rfl⟩
  have hX5 : Blk w5 w4.heap.size 41 #[.int .i64 (ob : Int), .int .i64 rt, .int .i64 rf, .int .i64 rs] := by rw [hw5]; exact Blk.new _ _ _
  have HS5 : Hid (LSt w p H A n c ds A1 n1 ps A2 n2 gs w5) := Lib.hid (HS4.out.ext (by rw [hw5]; exact (Ext.refl _).alloc _))
  have HW5 := Lib.hid hw5
  have hz5 : w5.heap.size = w4.heap.size + 1 := by rw [hw5]; simp
  obtain ⟨gm, hgm⟩ : ∃ gm, gm = w4.heap.size := ⟨_, rfl⟩
  have HX5 := Lib.hid hX5
  have HGM := Lib.hid hgm
  have hgp : gm ≠ p := by omega
  have hgw : w.heap.size + 1 < gm := by omega
  have HM5 : Hid (MvIn H n1 n2 ⟨ob, rt, rf, rs⟩) := Lib.hid ⟨⟨by show (0 : Int) ≤ ob; omega, by show (ob : Int) < n1; omega⟩, ⟨t0, ht⟩, ⟨f0, hf⟩, s0, hs⟩
  clear hw5 hX5 HS4 t0 ht f0 hf s0 hs hgm
  obtain ⟨bp, op, z, hA1, -, hzk, p0⟩ := ienc_at HS5.out.r1 hon
  subst hA1
  have hzb := hps.out z (List.mem_of_getElem? hzk)
  have y0 := HS5.out.hb.cellAt (i := 0) (by simp)
  have y1 := HS5.out.hb.cellAt (i := 1) (by simp)
  simp at y0 y1
  have i0 : (0 : Int) ≤ (ob : Int) := by omega
  have i1 : (ob : Int) < (n1 : Int) := by omega
  have HZ := Lib.hid hzk
  have cD := Lib.hid (CD.out z w5.drew HS5.out.r0.drew hzb.1 hzb.2)
  clear hzk
  go_wp2_with fail
  rw [← HW5.out, ← HGM.out]
  go_region_held3 (fun w' => w'.cell? ⟨w.heap.size, 0, none⟩ = some (.int .i64 (H : Int)) ∧ w'.cell? ⟨w.heap.size, 1, none⟩ = some (.slice A n c) ∧ w'.cell? ⟨bp, op + ob, none⟩ = some (.int .i64 z)) (go_keep) (first
    | (go_at_call 47; refine cD.out.mono ?_; rintro e w6 ⟨dv, xs, rfl, ho, hdl, hdm, he⟩; have he5 : Ext w5 w6 := Ext.trans (Ext.refl _).drew he; have y0 := (HS5.out.ext he5).hb.cellAt (i := 0) (by simp); have y1 := (HS5.out.ext he5).hb.cellAt (i := 1) (by simp); simp at y0 y1; have p0 : w6.cell? ⟨bp, op + ob, none⟩ = some (.int .i64 z) := by (obtain ⟨z', hz', p0'⟩ := ienc_at' (HS5.out.ext he5).r1 hon; rw [HZ.out] at hz'; injection hz' with hz'; subst hz'; exact p0')))
  have HS6 := Lib.hid (HS5.out.ext he5)
  have hX6 := HX5.out.keep he5
  rw [← HGM.out] at hX6
  have HX6 := Lib.hid hX6
  obtain ⟨Ad, cd, rfl, -⟩ := own_form ho
  have HO6 : Hid (w6.ownsRow (p + 1) 3 1 (.slice Ad xs.length cd) xs.length (xs.flatMap ienc)) := Lib.hid (own_weak ho (show p + 1 ≤ w5.drew.heap.size by show p + 1 ≤ w5.heap.size; omega))
  have HDM := Lib.hid hdm
  obtain ⟨nd, hnd⟩ : ∃ nd, nd = xs.length := ⟨_, rfl⟩
  rw [← hnd] at HO6 hdl ⊢
  have HND := Lib.hid hnd
  clear ho hdm he he5 hX6 y0 y1 p0 HS5 HX5 hnd cD
  by_cases hd0 : nd = 0
  · subst hd0
    go_wp2_with fail
    have hg0 : (0 : Int) ≤ (ob : Int) := by omega
    go_loopw [12] (fun iv wr => ∃ (k : Nat) (x : GMove), k ≤ n2 ∧ iv = .int .i64 k ∧ Hid (LSt w p H A n c ds (some ⟨bp, op, none⟩) n1 ps A2 n2 gs wr) ∧ Hid (Blk wr gm 41 #[.int .i64 x.o, .int .i64 x.t, .int .i64 x.f, .int .i64 x.s]) ∧ Hid (MvIn H n1 n2 x)) (fun iv _ => n2 - (intOf iv).toNat)
    case atStart => exact ⟨0, _, Nat.zero_le _, rfl, HS6, HX6, HM5⟩
    case round =>
      obtain ⟨k, x, hk, rfl, HSr, HXr, HMr⟩ := hrel
      by_cases hlt : k < n2
      · go_wp2_with (go_at_call 39; refine (fun h : Hid _ => h.out) ?_)
        unfold Hid
        refine (spec_l01Once p _ _ HSr.out.cu).mono ?_
        rintro e wo ⟨bo, rfl, hco, hgo⟩
        have HSo := Lib.hid (HSr.out.draw hco hgo)
        have HXo := Lib.hid (blk_grown HXr.out hgp hgo)
        clear hco hgo
        cases bo
        · go_wp2_with fail
          go_loopw [13] (fun jv wr => ∃ (j : Nat) (x : GMove), j ≤ k ∧ jv = .int .i64 j ∧ Hid (LSt w p H A n c ds (some ⟨bp, op, none⟩) n1 ps A2 n2 gs wr) ∧ Hid (Blk wr gm 41 #[.int .i64 x.o, .int .i64 x.t, .int .i64 x.f, .int .i64 x.s]) ∧ Hid (MvIn H n1 n2 x)) (fun jv _ => k - (intOf jv).toNat)
          case atStart => exact ⟨0, x, Nat.zero_le _, rfl, HSo, HXo, HMr⟩
          case round =>
            obtain ⟨j, x, hj, rfl, HSr, HXr, HMr⟩ := hrel
            by_cases hlj : j < k
            · obtain ⟨bg, og, gi, hA2, -, -, p1⟩ := ienc_at HSr.out.r2 hlt
              subst hA2
              obtain ⟨gk, -, p2⟩ := ienc_at' HSr.out.r2 (show j < n2 by omega)
              obtain ⟨zz, -, p3⟩ := ienc_at' HSr.out.r1 hon
              have x1 := HXr.out.cellAt (i := 1) (by simp)
              simp at x1
              have y1 := cell_regrown p1
              have y2 := cell_regrown p2
              have y3 := cell_regrown p3
              have y4 := cell_regrown x1
              have k0 : (0 : Int) ≤ (k : Int) := by omega
              have k1 : (k : Int) < (n2 : Int) := by omega
              have j0 : (0 : Int) ≤ (j : Int) := by omega
              have j1 : (j : Int) < (n2 : Int) := by omega
              have cN1 := Lib.hid (fun W => spec_l35Near gi zz x.t W)
              have cN2 := Lib.hid (fun W => spec_l35Near gk zz x.t W)
              obtain ⟨B1, hB1⟩ : ∃ b, b = ((gi == zz) || (gi == x.t)) := ⟨_, rfl⟩
              obtain ⟨B2, hB2⟩ : ∃ b, b = ((gk == zz) || (gk == x.t)) := ⟨_, rfl⟩
              rw [← hB1] at cN1
              rw [← hB2] at cN2
              clear hB1 hB2
              cases B1
              · go_wp2_with fail
                (refine wp_region_ext (by kernel_rfl) (by kernel_rfl) ?_; (repeat (go_big_quiet_step (first | (go_at_call 48; first | with_reducible exact Calls.rg0 (cN1.out _) | with_reducible exact Calls.rg0 (cN2.out _))))); refine wpQuiet_nil ?_)
                intro w3 he3
                have HS3 := Lib.hid (HSr.out.ext he3)
                have HX3 := Lib.hid (HXr.out.keep he3)
                clear he3 p1 p2 p3 x1 y1 y2 y3 y4
                go_wp2_with fail
                go_roundw
                case rel => exact ⟨j + 1, x, by omega, by go_num, HS3, HX3, HMr⟩
                case measure => simp [intOf]; omega
              cases B2
              · go_wp2_with fail
                (refine wp_region_ext (by kernel_rfl) (by kernel_rfl) ?_; (repeat (go_big_quiet_step (first | (go_at_call 48; first | with_reducible exact Calls.rg0 (cN1.out _) | with_reducible exact Calls.rg0 (cN2.out _))))); refine wpQuiet_nil ?_)
                intro w3 he3
                have HS3 := Lib.hid (HSr.out.ext he3)
                have HX3 := Lib.hid (HXr.out.keep he3)
                clear he3 p1 p2 p3 x1 y1 y2 y3 y4
                go_wp2_with fail
                go_roundw
                case rel => exact ⟨j + 1, x, by omega, by go_num, HS3, HX3, HMr⟩
                case measure => simp [intOf]; omega
              · go_wp2_with fail
                (refine wp_region_ext (by kernel_rfl) (by kernel_rfl) ?_; (repeat (go_big_quiet_step (first | (go_at_call 48; first | with_reducible exact Calls.rg0 (cN1.out _) | with_reducible exact Calls.rg0 (cN2.out _))))); refine wpQuiet_nil ?_)
                intro w3 he3
                have HS3 := Lib.hid (HSr.out.ext he3)
                have HX3 := Lib.hid (HXr.out.keep he3)
                have v0 := HX3.out.cellAt (i := 0) (by simp)
                have v1 := HX3.out.cellAt (i := 1) (by simp)
                have v2 := HX3.out.cellAt (i := 2) (by simp)
                have v3 := HX3.out.cellAt (i := 3) (by simp)
                simp at v0 v1 v2 v3
                have vf := HX3.out.free
                have vl := HX3.out.lt
                clear he3 p1 p2 p3 x1 y1 y2 y3 y4
                go_wp2_with fail
                have hX4 := (HX3.out.set 2 (.int .i64 (k : Int))).set 3 (.int .i64 (j : Int))
                simp only [List.setIfInBounds_toArray, List.set_cons_succ, List.set_cons_zero] at hX4
                have HX4 := Lib.hid hX4
                have HS4 := Lib.hid ((HS3.out.put hgw 2 (.int .i64 (k : Int))).put hgw 3 (.int .i64 (j : Int)))
                clear hX4
                go_roundw
                case rel => exact ⟨j + 1, ⟨x.o, x.t, k, j⟩, by omega, by go_num, HS4, HX4, Lib.hid ⟨HMr.out.1, HMr.out.2.1, ⟨by show (0 : Int) ≤ k; omega, by show (k : Int) < n2; omega⟩, by show (0 : Int) ≤ j; omega, by show (j : Int) < n2; omega⟩⟩
                case measure => simp [intOf]; omega
            · obtain rfl : j = k := by omega
              go_wp2_with fail
              go_roundw
              case rel => exact ⟨j + 1, x, by omega, by go_num, HSr, HXr, HMr⟩
              case measure => simp [intOf]; omega
        · have HSf := HSo
          have HXf := HXo
          have HMf := HMr
          have v0 := HXf.out.cellAt (i := 0) (by simp)
          have v1 := HXf.out.cellAt (i := 1) (by simp)
          have v2 := HXf.out.cellAt (i := 2) (by simp)
          have v3 := HXf.out.cellAt (i := 3) (by simp)
          simp at v0 v1 v2 v3
          have u0 := HSf.out.rb.cellAt (i := 0) (by simp)
          have u1 := HSf.out.rb.cellAt (i := 1) (by simp)
          have u2 := HSf.out.rb.cellAt (i := 2) (by simp)
          have u3 := HSf.out.rb.cellAt (i := 3) (by simp)
          simp at u0 u1 u2 u3
          have uf := HSf.out.rb.free
          have ul := HSf.out.rb.lt
          go_wp2_with fail
          have F := HSf.out
          have FB := (((F.rb.set 0 (.int .i64 x.o)).set 1 (.int .i64 x.t)).set 2 (.int .i64 x.f)).set 3 (.int .i64 x.s)
          have lpw : p < w.heap.size + 1 := by omega
          have FC := cur_far (o := 3) (cur_far (o := 2) (cur_far (o := 1) (cur_far (o := 0) F.cu lpw (.int .i64 x.o)) lpw (.int .i64 x.t)) lpw (.int .i64 x.f)) lpw (.int .i64 x.s)
          have lq : w.heap.size ≤ w.heap.size + 1 := Nat.le_succ _
          have FG := grown_fresh (o := 3) (grown_fresh (o := 2) (grown_fresh (o := 1) (grown_fresh (o := 0) F.g lq (.int .i64 x.o)) lq (.int .i64 x.t)) lq (.int .i64 x.f)) lq (.int .i64 x.s)
          simp only [List.setIfInBounds_toArray, List.set_cons_succ, List.set_cons_zero] at FB
          have z0 := FB.cellAt (i := 0) (by simp)
          have z1 := FB.cellAt (i := 1) (by simp)
          have z2 := FB.cellAt (i := 2) (by simp)
          have z3 := FB.cellAt (i := 3) (by simp)
          simp only [List.getElem_toArray, List.getElem_cons_zero, List.getElem_cons_succ] at z0 z1 z2 z3
          refine bodyPost_ret (v := .agg #[.int .i64 x.o, .int .i64 x.t, .int .i64 x.f, .int .i64 x.s]) (by simp [results, Tryd.results31, go_sem, z0, z1, z2, z3]) rfl ?_
          exact ⟨x, rfl, HMf.out, FC, FG⟩
      · obtain rfl : k = n2 := by omega
        have HSf := HSr
        have HXf := HXr
        have HMf := HMr
        have v0 := HXf.out.cellAt (i := 0) (by simp)
        have v1 := HXf.out.cellAt (i := 1) (by simp)
        have v2 := HXf.out.cellAt (i := 2) (by simp)
        have v3 := HXf.out.cellAt (i := 3) (by simp)
        simp at v0 v1 v2 v3
        have u0 := HSf.out.rb.cellAt (i := 0) (by simp)
        have u1 := HSf.out.rb.cellAt (i := 1) (by simp)
        have u2 := HSf.out.rb.cellAt (i := 2) (by simp)
        have u3 := HSf.out.rb.cellAt (i := 3) (by simp)
        simp at u0 u1 u2 u3
        have uf := HSf.out.rb.free
        have ul := HSf.out.rb.lt
        go_wp2_with fail
        have F := HSf.out
        have FB := (((F.rb.set 0 (.int .i64 x.o)).set 1 (.int .i64 x.t)).set 2 (.int .i64 x.f)).set 3 (.int .i64 x.s)
        have lpw : p < w.heap.size + 1 := by omega
        have FC := cur_far (o := 3) (cur_far (o := 2) (cur_far (o := 1) (cur_far (o := 0) F.cu lpw (.int .i64 x.o)) lpw (.int .i64 x.t)) lpw (.int .i64 x.f)) lpw (.int .i64 x.s)
        have lq : w.heap.size ≤ w.heap.size + 1 := Nat.le_succ _
        have FG := grown_fresh (o := 3) (grown_fresh (o := 2) (grown_fresh (o := 1) (grown_fresh (o := 0) F.g lq (.int .i64 x.o)) lq (.int .i64 x.t)) lq (.int .i64 x.f)) lq (.int .i64 x.s)
        simp only [List.setIfInBounds_toArray, List.set_cons_succ, List.set_cons_zero] at FB
        have z0 := FB.cellAt (i := 0) (by simp)
        have z1 := FB.cellAt (i := 1) (by simp)
        have z2 := FB.cellAt (i := 2) (by simp)
        have z3 := FB.cellAt (i := 3) (by simp)
        simp only [List.getElem_toArray, List.getElem_cons_zero, List.getElem_cons_succ] at z0 z1 z2 z3
        refine bodyPost_ret (v := .agg #[.int .i64 x.o, .int .i64 x.t, .int .i64 x.f, .int .i64 x.s]) (by simp [results, Tryd.results31, go_sem, z0, z1, z2, z3]) rfl ?_
        exact ⟨x, rfl, HMf.out, FC, FG⟩
  · have hd1 : (0 : Int) < (nd : Int) := by omega
    go_wp2_with (go_at_call 39; refine (fun h : Hid _ => h.out) ?_)
    unfold Hid
    refine (spec_l01Once p _ _ HS6.out.cu).mono ?_
    rintro e w7 ⟨b7, rfl, hc7, hg7⟩
    have HS7 := Lib.hid (HS6.out.draw hc7 hg7)
    have HX7 := Lib.hid (blk_grown HX6.out hgp hg7)
    have HO7 := Lib.hid (own_grown HO6.out (Nat.lt_succ_self p) hg7)
    clear hc7 hg7 HS6 HX6 HO6
    cases b7
    rotate_left 1
    · go_wp2_with fail
      have hg0 : (0 : Int) ≤ (ob : Int) := by omega
      go_loopw [12] (fun iv wr => ∃ (k : Nat) (x : GMove), k ≤ n2 ∧ iv = .int .i64 k ∧ Hid (LSt w p H A n c ds (some ⟨bp, op, none⟩) n1 ps A2 n2 gs wr) ∧ Hid (Blk wr gm 41 #[.int .i64 x.o, .int .i64 x.t, .int .i64 x.f, .int .i64 x.s]) ∧ Hid (MvIn H n1 n2 x)) (fun iv _ => n2 - (intOf iv).toNat)
      case atStart => exact ⟨0, _, Nat.zero_le _, rfl, HS7, HX7, HM5⟩
      case round =>
        obtain ⟨k, x, hk, rfl, HSr, HXr, HMr⟩ := hrel
        by_cases hlt : k < n2
        · go_wp2_with (go_at_call 39; refine (fun h : Hid _ => h.out) ?_)
          unfold Hid
          refine (spec_l01Once p _ _ HSr.out.cu).mono ?_
          rintro e wo ⟨bo, rfl, hco, hgo⟩
          have HSo := Lib.hid (HSr.out.draw hco hgo)
          have HXo := Lib.hid (blk_grown HXr.out hgp hgo)
          clear hco hgo
          cases bo
          · go_wp2_with fail
            go_loopw [13] (fun jv wr => ∃ (j : Nat) (x : GMove), j ≤ k ∧ jv = .int .i64 j ∧ Hid (LSt w p H A n c ds (some ⟨bp, op, none⟩) n1 ps A2 n2 gs wr) ∧ Hid (Blk wr gm 41 #[.int .i64 x.o, .int .i64 x.t, .int .i64 x.f, .int .i64 x.s]) ∧ Hid (MvIn H n1 n2 x)) (fun jv _ => k - (intOf jv).toNat)
            case atStart => exact ⟨0, x, Nat.zero_le _, rfl, HSo, HXo, HMr⟩
            case round =>
              obtain ⟨j, x, hj, rfl, HSr, HXr, HMr⟩ := hrel
              by_cases hlj : j < k
              · obtain ⟨bg, og, gi, hA2, -, -, p1⟩ := ienc_at HSr.out.r2 hlt
                subst hA2
                obtain ⟨gk, -, p2⟩ := ienc_at' HSr.out.r2 (show j < n2 by omega)
                obtain ⟨zz, -, p3⟩ := ienc_at' HSr.out.r1 hon
                have x1 := HXr.out.cellAt (i := 1) (by simp)
                simp at x1
                have y1 := cell_regrown p1
                have y2 := cell_regrown p2
                have y3 := cell_regrown p3
                have y4 := cell_regrown x1
                have k0 : (0 : Int) ≤ (k : Int) := by omega
                have k1 : (k : Int) < (n2 : Int) := by omega
                have j0 : (0 : Int) ≤ (j : Int) := by omega
                have j1 : (j : Int) < (n2 : Int) := by omega
                have cN1 := Lib.hid (fun W => spec_l35Near gi zz x.t W)
                have cN2 := Lib.hid (fun W => spec_l35Near gk zz x.t W)
                obtain ⟨B1, hB1⟩ : ∃ b, b = ((gi == zz) || (gi == x.t)) := ⟨_, rfl⟩
                obtain ⟨B2, hB2⟩ : ∃ b, b = ((gk == zz) || (gk == x.t)) := ⟨_, rfl⟩
                rw [← hB1] at cN1
                rw [← hB2] at cN2
                clear hB1 hB2
                cases B1
                · go_wp2_with fail
                  (refine wp_region_ext (by kernel_rfl) (by kernel_rfl) ?_; (repeat (go_big_quiet_step (first | (go_at_call 48; first | with_reducible exact Calls.rg0 (cN1.out _) | with_reducible exact Calls.rg0 (cN2.out _))))); refine wpQuiet_nil ?_)
                  intro w3 he3
                  have HS3 := Lib.hid (HSr.out.ext he3)
                  have HX3 := Lib.hid (HXr.out.keep he3)
                  clear he3 p1 p2 p3 x1 y1 y2 y3 y4
                  go_wp2_with fail
                  go_roundw
                  case rel => exact ⟨j + 1, x, by omega, by go_num, HS3, HX3, HMr⟩
                  case measure => simp [intOf]; omega
                cases B2
                · go_wp2_with fail
                  (refine wp_region_ext (by kernel_rfl) (by kernel_rfl) ?_; (repeat (go_big_quiet_step (first | (go_at_call 48; first | with_reducible exact Calls.rg0 (cN1.out _) | with_reducible exact Calls.rg0 (cN2.out _))))); refine wpQuiet_nil ?_)
                  intro w3 he3
                  have HS3 := Lib.hid (HSr.out.ext he3)
                  have HX3 := Lib.hid (HXr.out.keep he3)
                  clear he3 p1 p2 p3 x1 y1 y2 y3 y4
                  go_wp2_with fail
                  go_roundw
                  case rel => exact ⟨j + 1, x, by omega, by go_num, HS3, HX3, HMr⟩
                  case measure => simp [intOf]; omega
                · go_wp2_with fail
                  (refine wp_region_ext (by kernel_rfl) (by kernel_rfl) ?_; (repeat (go_big_quiet_step (first | (go_at_call 48; first | with_reducible exact Calls.rg0 (cN1.out _) | with_reducible exact Calls.rg0 (cN2.out _))))); refine wpQuiet_nil ?_)
                  intro w3 he3
                  have HS3 := Lib.hid (HSr.out.ext he3)
                  have HX3 := Lib.hid (HXr.out.keep he3)
                  have v0 := HX3.out.cellAt (i := 0) (by simp)
                  have v1 := HX3.out.cellAt (i := 1) (by simp)
                  have v2 := HX3.out.cellAt (i := 2) (by simp)
                  have v3 := HX3.out.cellAt (i := 3) (by simp)
                  simp at v0 v1 v2 v3
                  have vf := HX3.out.free
                  have vl := HX3.out.lt
                  clear he3 p1 p2 p3 x1 y1 y2 y3 y4
                  go_wp2_with fail
                  have hX4 := (HX3.out.set 2 (.int .i64 (k : Int))).set 3 (.int .i64 (j : Int))
                  simp only [List.setIfInBounds_toArray, List.set_cons_succ, List.set_cons_zero] at hX4
                  have HX4 := Lib.hid hX4
                  have HS4 := Lib.hid ((HS3.out.put hgw 2 (.int .i64 (k : Int))).put hgw 3 (.int .i64 (j : Int)))
                  clear hX4
                  go_roundw
                  case rel => exact ⟨j + 1, ⟨x.o, x.t, k, j⟩, by omega, by go_num, HS4, HX4, Lib.hid ⟨HMr.out.1, HMr.out.2.1, ⟨by show (0 : Int) ≤ k; omega, by show (k : Int) < n2; omega⟩, by show (0 : Int) ≤ j; omega, by show (j : Int) < n2; omega⟩⟩
                  case measure => simp [intOf]; omega
              · obtain rfl : j = k := by omega
                go_wp2_with fail
                go_roundw
                case rel => exact ⟨j + 1, x, by omega, by go_num, HSr, HXr, HMr⟩
                case measure => simp [intOf]; omega
          · have HSf := HSo
            have HXf := HXo
            have HMf := HMr
            have v0 := HXf.out.cellAt (i := 0) (by simp)
            have v1 := HXf.out.cellAt (i := 1) (by simp)
            have v2 := HXf.out.cellAt (i := 2) (by simp)
            have v3 := HXf.out.cellAt (i := 3) (by simp)
            simp at v0 v1 v2 v3
            have u0 := HSf.out.rb.cellAt (i := 0) (by simp)
            have u1 := HSf.out.rb.cellAt (i := 1) (by simp)
            have u2 := HSf.out.rb.cellAt (i := 2) (by simp)
            have u3 := HSf.out.rb.cellAt (i := 3) (by simp)
            simp at u0 u1 u2 u3
            have uf := HSf.out.rb.free
            have ul := HSf.out.rb.lt
            go_wp2_with fail
            have F := HSf.out
            have FB := (((F.rb.set 0 (.int .i64 x.o)).set 1 (.int .i64 x.t)).set 2 (.int .i64 x.f)).set 3 (.int .i64 x.s)
            have lpw : p < w.heap.size + 1 := by omega
            have FC := cur_far (o := 3) (cur_far (o := 2) (cur_far (o := 1) (cur_far (o := 0) F.cu lpw (.int .i64 x.o)) lpw (.int .i64 x.t)) lpw (.int .i64 x.f)) lpw (.int .i64 x.s)
            have lq : w.heap.size ≤ w.heap.size + 1 := Nat.le_succ _
            have FG := grown_fresh (o := 3) (grown_fresh (o := 2) (grown_fresh (o := 1) (grown_fresh (o := 0) F.g lq (.int .i64 x.o)) lq (.int .i64 x.t)) lq (.int .i64 x.f)) lq (.int .i64 x.s)
            simp only [List.setIfInBounds_toArray, List.set_cons_succ, List.set_cons_zero] at FB
            have z0 := FB.cellAt (i := 0) (by simp)
            have z1 := FB.cellAt (i := 1) (by simp)
            have z2 := FB.cellAt (i := 2) (by simp)
            have z3 := FB.cellAt (i := 3) (by simp)
            simp only [List.getElem_toArray, List.getElem_cons_zero, List.getElem_cons_succ] at z0 z1 z2 z3
            refine bodyPost_ret (v := .agg #[.int .i64 x.o, .int .i64 x.t, .int .i64 x.f, .int .i64 x.s]) (by simp [results, Tryd.results31, go_sem, z0, z1, z2, z3]) rfl ?_
            exact ⟨x, rfl, HMf.out, FC, FG⟩
        · obtain rfl : k = n2 := by omega
          have HSf := HSr
          have HXf := HXr
          have HMf := HMr
          have v0 := HXf.out.cellAt (i := 0) (by simp)
          have v1 := HXf.out.cellAt (i := 1) (by simp)
          have v2 := HXf.out.cellAt (i := 2) (by simp)
          have v3 := HXf.out.cellAt (i := 3) (by simp)
          simp at v0 v1 v2 v3
          have u0 := HSf.out.rb.cellAt (i := 0) (by simp)
          have u1 := HSf.out.rb.cellAt (i := 1) (by simp)
          have u2 := HSf.out.rb.cellAt (i := 2) (by simp)
          have u3 := HSf.out.rb.cellAt (i := 3) (by simp)
          simp at u0 u1 u2 u3
          have uf := HSf.out.rb.free
          have ul := HSf.out.rb.lt
          go_wp2_with fail
          have F := HSf.out
          have FB := (((F.rb.set 0 (.int .i64 x.o)).set 1 (.int .i64 x.t)).set 2 (.int .i64 x.f)).set 3 (.int .i64 x.s)
          have lpw : p < w.heap.size + 1 := by omega
          have FC := cur_far (o := 3) (cur_far (o := 2) (cur_far (o := 1) (cur_far (o := 0) F.cu lpw (.int .i64 x.o)) lpw (.int .i64 x.t)) lpw (.int .i64 x.f)) lpw (.int .i64 x.s)
          have lq : w.heap.size ≤ w.heap.size + 1 := Nat.le_succ _
          have FG := grown_fresh (o := 3) (grown_fresh (o := 2) (grown_fresh (o := 1) (grown_fresh (o := 0) F.g lq (.int .i64 x.o)) lq (.int .i64 x.t)) lq (.int .i64 x.f)) lq (.int .i64 x.s)
          simp only [List.setIfInBounds_toArray, List.set_cons_succ, List.set_cons_zero] at FB
          have z0 := FB.cellAt (i := 0) (by simp)
          have z1 := FB.cellAt (i := 1) (by simp)
          have z2 := FB.cellAt (i := 2) (by simp)
          have z3 := FB.cellAt (i := 3) (by simp)
          simp only [List.getElem_toArray, List.getElem_cons_zero, List.getElem_cons_succ] at z0 z1 z2 z3
          refine bodyPost_ret (v := .agg #[.int .i64 x.o, .int .i64 x.t, .int .i64 x.f, .int .i64 x.s]) (by simp [results, Tryd.results31, go_sem, z0, z1, z2, z3]) rfl ?_
          exact ⟨x, rfl, HMf.out, FC, FG⟩
    · go_wp2_with (go_at_call 30; refine (fun h : Hid _ => h.out) ?_)
      unfold Hid
      refine (spec_l01Below p _ _ HS7.out.cu).mono ?_
      rintro e w8 ⟨rd, rfl, d0, d1, hc8, hg8⟩
      obtain ⟨rn, rfl⟩ := Int.eq_ofNat_of_zero_le d0
      have hrn : rn < nd := by omega
      have HS8 := Lib.hid (HS7.out.draw hc8 hg8)
      have HX8 := Lib.hid (blk_grown HX7.out hgp hg8)
      have HO8 := Lib.hid (own_grown HO7.out (Nat.lt_succ_self p) hg8)
      clear hc8 hg8 HS7 HX7 HO7 d1
      obtain ⟨bd, od, nt, hAd, -, hnt, p8⟩ := ienc_at (Rd.of_own HO8.out) hrn
      subst hAd
      have hntb := HDM.out nt (List.mem_of_getElem? hnt)
      have e0 : (0 : Int) ≤ (rn : Int) := by omega
      have e1 : (rn : Int) < (nd : Int) := by omega
      have v1 := HX8.out.cellAt (i := 1) (by simp)
      simp at v1
      have vf := HX8.out.free
      have vl := HX8.out.lt
      go_wp2_with fail
      have hX9 := HX8.out.set 1 (.int .i64 nt)
      simp only [List.setIfInBounds_toArray, List.set_cons_succ, List.set_cons_zero] at hX9
      have HX9 := Lib.hid hX9
      have HS9 := Lib.hid (HS8.out.put hgw 1 (.int .i64 nt))
      have HM9 : Hid (MvIn H n1 n2 ⟨ob, nt, rf, rs⟩) := Lib.hid ⟨HM5.out.1, hntb, HM5.out.2.2.1, HM5.out.2.2.2⟩
      clear hX9 v1 vf vl p8
      have hg0 : (0 : Int) ≤ (ob : Int) := by omega
      go_loopw [12] (fun iv wr => ∃ (k : Nat) (x : GMove), k ≤ n2 ∧ iv = .int .i64 k ∧ Hid (LSt w p H A n c ds (some ⟨bp, op, none⟩) n1 ps A2 n2 gs wr) ∧ Hid (Blk wr gm 41 #[.int .i64 x.o, .int .i64 x.t, .int .i64 x.f, .int .i64 x.s]) ∧ Hid (MvIn H n1 n2 x)) (fun iv _ => n2 - (intOf iv).toNat)
      case atStart => exact ⟨0, _, Nat.zero_le _, rfl, HS9, HX9, HM9⟩
      case round =>
        obtain ⟨k, x, hk, rfl, HSr, HXr, HMr⟩ := hrel
        by_cases hlt : k < n2
        · go_wp2_with (go_at_call 39; refine (fun h : Hid _ => h.out) ?_)
          unfold Hid
          refine (spec_l01Once p _ _ HSr.out.cu).mono ?_
          rintro e wo ⟨bo, rfl, hco, hgo⟩
          have HSo := Lib.hid (HSr.out.draw hco hgo)
          have HXo := Lib.hid (blk_grown HXr.out hgp hgo)
          clear hco hgo
          cases bo
          · go_wp2_with fail
            go_loopw [13] (fun jv wr => ∃ (j : Nat) (x : GMove), j ≤ k ∧ jv = .int .i64 j ∧ Hid (LSt w p H A n c ds (some ⟨bp, op, none⟩) n1 ps A2 n2 gs wr) ∧ Hid (Blk wr gm 41 #[.int .i64 x.o, .int .i64 x.t, .int .i64 x.f, .int .i64 x.s]) ∧ Hid (MvIn H n1 n2 x)) (fun jv _ => k - (intOf jv).toNat)
            case atStart => exact ⟨0, x, Nat.zero_le _, rfl, HSo, HXo, HMr⟩
            case round =>
              obtain ⟨j, x, hj, rfl, HSr, HXr, HMr⟩ := hrel
              by_cases hlj : j < k
              · obtain ⟨bg, og, gi, hA2, -, -, p1⟩ := ienc_at HSr.out.r2 hlt
                subst hA2
                obtain ⟨gk, -, p2⟩ := ienc_at' HSr.out.r2 (show j < n2 by omega)
                obtain ⟨zz, -, p3⟩ := ienc_at' HSr.out.r1 hon
                have x1 := HXr.out.cellAt (i := 1) (by simp)
                simp at x1
                have y1 := cell_regrown p1
                have y2 := cell_regrown p2
                have y3 := cell_regrown p3
                have y4 := cell_regrown x1
                have k0 : (0 : Int) ≤ (k : Int) := by omega
                have k1 : (k : Int) < (n2 : Int) := by omega
                have j0 : (0 : Int) ≤ (j : Int) := by omega
                have j1 : (j : Int) < (n2 : Int) := by omega
                have cN1 := Lib.hid (fun W => spec_l35Near gi zz x.t W)
                have cN2 := Lib.hid (fun W => spec_l35Near gk zz x.t W)
                obtain ⟨B1, hB1⟩ : ∃ b, b = ((gi == zz) || (gi == x.t)) := ⟨_, rfl⟩
                obtain ⟨B2, hB2⟩ : ∃ b, b = ((gk == zz) || (gk == x.t)) := ⟨_, rfl⟩
                rw [← hB1] at cN1
                rw [← hB2] at cN2
                clear hB1 hB2
                cases B1
                · go_wp2_with fail
                  (refine wp_region_ext (by kernel_rfl) (by kernel_rfl) ?_; (repeat (go_big_quiet_step (first | (go_at_call 48; first | with_reducible exact Calls.rg0 (cN1.out _) | with_reducible exact Calls.rg0 (cN2.out _))))); refine wpQuiet_nil ?_)
                  intro w3 he3
                  have HS3 := Lib.hid (HSr.out.ext he3)
                  have HX3 := Lib.hid (HXr.out.keep he3)
                  clear he3 p1 p2 p3 x1 y1 y2 y3 y4
                  go_wp2_with fail
                  go_roundw
                  case rel => exact ⟨j + 1, x, by omega, by go_num, HS3, HX3, HMr⟩
                  case measure => simp [intOf]; omega
                cases B2
                · go_wp2_with fail
                  (refine wp_region_ext (by kernel_rfl) (by kernel_rfl) ?_; (repeat (go_big_quiet_step (first | (go_at_call 48; first | with_reducible exact Calls.rg0 (cN1.out _) | with_reducible exact Calls.rg0 (cN2.out _))))); refine wpQuiet_nil ?_)
                  intro w3 he3
                  have HS3 := Lib.hid (HSr.out.ext he3)
                  have HX3 := Lib.hid (HXr.out.keep he3)
                  clear he3 p1 p2 p3 x1 y1 y2 y3 y4
                  go_wp2_with fail
                  go_roundw
                  case rel => exact ⟨j + 1, x, by omega, by go_num, HS3, HX3, HMr⟩
                  case measure => simp [intOf]; omega
                · go_wp2_with fail
                  (refine wp_region_ext (by kernel_rfl) (by kernel_rfl) ?_; (repeat (go_big_quiet_step (first | (go_at_call 48; first | with_reducible exact Calls.rg0 (cN1.out _) | with_reducible exact Calls.rg0 (cN2.out _))))); refine wpQuiet_nil ?_)
                  intro w3 he3
                  have HS3 := Lib.hid (HSr.out.ext he3)
                  have HX3 := Lib.hid (HXr.out.keep he3)
                  have v0 := HX3.out.cellAt (i := 0) (by simp)
                  have v1 := HX3.out.cellAt (i := 1) (by simp)
                  have v2 := HX3.out.cellAt (i := 2) (by simp)
                  have v3 := HX3.out.cellAt (i := 3) (by simp)
                  simp at v0 v1 v2 v3
                  have vf := HX3.out.free
                  have vl := HX3.out.lt
                  clear he3 p1 p2 p3 x1 y1 y2 y3 y4
                  go_wp2_with fail
                  have hX4 := (HX3.out.set 2 (.int .i64 (k : Int))).set 3 (.int .i64 (j : Int))
                  simp only [List.setIfInBounds_toArray, List.set_cons_succ, List.set_cons_zero] at hX4
                  have HX4 := Lib.hid hX4
                  have HS4 := Lib.hid ((HS3.out.put hgw 2 (.int .i64 (k : Int))).put hgw 3 (.int .i64 (j : Int)))
                  clear hX4
                  go_roundw
                  case rel => exact ⟨j + 1, ⟨x.o, x.t, k, j⟩, by omega, by go_num, HS4, HX4, Lib.hid ⟨HMr.out.1, HMr.out.2.1, ⟨by show (0 : Int) ≤ k; omega, by show (k : Int) < n2; omega⟩, by show (0 : Int) ≤ j; omega, by show (j : Int) < n2; omega⟩⟩
                  case measure => simp [intOf]; omega
              · obtain rfl : j = k := by omega
                go_wp2_with fail
                go_roundw
                case rel => exact ⟨j + 1, x, by omega, by go_num, HSr, HXr, HMr⟩
                case measure => simp [intOf]; omega
          · have HSf := HSo
            have HXf := HXo
            have HMf := HMr
            have v0 := HXf.out.cellAt (i := 0) (by simp)
            have v1 := HXf.out.cellAt (i := 1) (by simp)
            have v2 := HXf.out.cellAt (i := 2) (by simp)
            have v3 := HXf.out.cellAt (i := 3) (by simp)
            simp at v0 v1 v2 v3
            have u0 := HSf.out.rb.cellAt (i := 0) (by simp)
            have u1 := HSf.out.rb.cellAt (i := 1) (by simp)
            have u2 := HSf.out.rb.cellAt (i := 2) (by simp)
            have u3 := HSf.out.rb.cellAt (i := 3) (by simp)
            simp at u0 u1 u2 u3
            have uf := HSf.out.rb.free
            have ul := HSf.out.rb.lt
            go_wp2_with fail
            have F := HSf.out
            have FB := (((F.rb.set 0 (.int .i64 x.o)).set 1 (.int .i64 x.t)).set 2 (.int .i64 x.f)).set 3 (.int .i64 x.s)
            have lpw : p < w.heap.size + 1 := by omega
            have FC := cur_far (o := 3) (cur_far (o := 2) (cur_far (o := 1) (cur_far (o := 0) F.cu lpw (.int .i64 x.o)) lpw (.int .i64 x.t)) lpw (.int .i64 x.f)) lpw (.int .i64 x.s)
            have lq : w.heap.size ≤ w.heap.size + 1 := Nat.le_succ _
            have FG := grown_fresh (o := 3) (grown_fresh (o := 2) (grown_fresh (o := 1) (grown_fresh (o := 0) F.g lq (.int .i64 x.o)) lq (.int .i64 x.t)) lq (.int .i64 x.f)) lq (.int .i64 x.s)
            simp only [List.setIfInBounds_toArray, List.set_cons_succ, List.set_cons_zero] at FB
            have z0 := FB.cellAt (i := 0) (by simp)
            have z1 := FB.cellAt (i := 1) (by simp)
            have z2 := FB.cellAt (i := 2) (by simp)
            have z3 := FB.cellAt (i := 3) (by simp)
            simp only [List.getElem_toArray, List.getElem_cons_zero, List.getElem_cons_succ] at z0 z1 z2 z3
            refine bodyPost_ret (v := .agg #[.int .i64 x.o, .int .i64 x.t, .int .i64 x.f, .int .i64 x.s]) (by simp [results, Tryd.results31, go_sem, z0, z1, z2, z3]) rfl ?_
            exact ⟨x, rfl, HMf.out, FC, FG⟩
        · obtain rfl : k = n2 := by omega
          have HSf := HSr
          have HXf := HXr
          have HMf := HMr
          have v0 := HXf.out.cellAt (i := 0) (by simp)
          have v1 := HXf.out.cellAt (i := 1) (by simp)
          have v2 := HXf.out.cellAt (i := 2) (by simp)
          have v3 := HXf.out.cellAt (i := 3) (by simp)
          simp at v0 v1 v2 v3
          have u0 := HSf.out.rb.cellAt (i := 0) (by simp)
          have u1 := HSf.out.rb.cellAt (i := 1) (by simp)
          have u2 := HSf.out.rb.cellAt (i := 2) (by simp)
          have u3 := HSf.out.rb.cellAt (i := 3) (by simp)
          simp at u0 u1 u2 u3
          have uf := HSf.out.rb.free
          have ul := HSf.out.rb.lt
          go_wp2_with fail
          have F := HSf.out
          have FB := (((F.rb.set 0 (.int .i64 x.o)).set 1 (.int .i64 x.t)).set 2 (.int .i64 x.f)).set 3 (.int .i64 x.s)
          have lpw : p < w.heap.size + 1 := by omega
          have FC := cur_far (o := 3) (cur_far (o := 2) (cur_far (o := 1) (cur_far (o := 0) F.cu lpw (.int .i64 x.o)) lpw (.int .i64 x.t)) lpw (.int .i64 x.f)) lpw (.int .i64 x.s)
          have lq : w.heap.size ≤ w.heap.size + 1 := Nat.le_succ _
          have FG := grown_fresh (o := 3) (grown_fresh (o := 2) (grown_fresh (o := 1) (grown_fresh (o := 0) F.g lq (.int .i64 x.o)) lq (.int .i64 x.t)) lq (.int .i64 x.f)) lq (.int .i64 x.s)
          simp only [List.setIfInBounds_toArray, List.set_cons_succ, List.set_cons_zero] at FB
          have z0 := FB.cellAt (i := 0) (by simp)
          have z1 := FB.cellAt (i := 1) (by simp)
          have z2 := FB.cellAt (i := 2) (by simp)
          have z3 := FB.cellAt (i := 3) (by simp)
          simp only [List.getElem_toArray, List.getElem_cons_zero, List.getElem_cons_succ] at z0 z1 z2 z3
          refine bodyPost_ret (v := .agg #[.int .i64 x.o, .int .i64 x.t, .int .i64 x.f, .int .i64 x.s]) (by simp [results, Tryd.results31, go_sem, z0, z1, z2, z3]) rfl ?_
          exact ⟨x, rfl, HMf.out, FC, FG⟩
end Go.Proofs.YtfhibjehnoibeaaDoor
/- Audited museums in plain Lean: what every act keeps, and that a changed place, a changed byte and a lost entry are found; no condition. -/
namespace Go.Proofs.YtfhibjehnoibeaaDoor
set_option linter.unusedSimpArgs false
set_option linter.unusedVariables false
open Go.RowKit Go.Sort
theorem replayF_snoc (H : Int) (ds : List GDoor) (ps : List Int) : ∀ (ms : List GMove) (u : List Int) (x : GMove), replayF H ds ps u (ms ++ [x]) = if (replayF H ds ps u ms).2 then replayF H ds ps (replayF H ds ps u ms).1 [x] else (ps, false)
  | [], u, x => rfl
  | y :: r, u, x => by
    rw [List.cons_append]
    conv => lhs; rw [replayF]
    conv => rhs; rw [replayF]
    split
    · exact replayF_snoc H ds ps r _ x
    · rfl
/-- A valid museum whose record tells the moves that led to its places. -/
def Audited (m : GMuseum) : Prop := museumB m = true ∧ ∃ ms : List GMove, m.rs.map (·.x) = ms.map moveT ∧ (∀ x ∈ ms, mvB x = true) ∧ replayF m.H m.ds m.fs m.fs ms = (m.ps, true)
theorem movesL_of : ∀ {rs : List GEntry} {ms : List GMove}, rs.map (·.x) = ms.map moveT → (∀ x ∈ ms, mvB x = true) → movesL rs = ms ∧ (rs.all fun e => (parseM e.x).2) = true
  | [], [], _, _ => ⟨rfl, rfl⟩
  | [], _ :: _, h, _ => by simp at h
  | _ :: _, [], h, _ => by simp at h
  | e :: r, x :: t, h, hv => by
    simp only [List.map_cons, List.cons.injEq] at h
    obtain ⟨h1, h2⟩ := movesL_of h.2 (fun y hy => hv y (List.mem_cons_of_mem _ hy))
    have hp := parseM_text (hv x (List.mem_cons_self ..))
    refine ⟨?_, ?_⟩
    · unfold movesL at h1 ⊢
      rw [List.map_cons, h1, h.1, hp]
    · rw [List.all_cons, h2, h.1, hp]; rfl
theorem audit_calc {m : GMuseum} {ms : List GMove} (hm : museumB m = true) (ht : m.rs.map (·.x) = ms.map moveT) (hv : ∀ x ∈ ms, mvB x = true) :
    auditB m = ((replayF m.H m.ds m.fs m.fs ms).2 && decide ((replayF m.H m.ds m.fs m.fs ms).1 = m.ps)) := by
  obtain ⟨h1, h2⟩ := movesL_of ht hv
  have hp := museumB_parts.1 hm
  have hl : ms.length = m.rs.length := by have := congrArg List.length ht; simpa using this.symm
  have h30 := sealed_len hp.2.2.2.2.2.2.1
  have hr : replayL m.H m.ds m.fs ms = replayF m.H m.ds m.fs m.fs ms := by
    unfold replayL
    rw [if_pos (by rw [hp.1, Bool.true_and, decide_eq_true_eq]; omega)]
  unfold auditB
  rw [h1, h2, hm, hr]
  simp
theorem audited_audit {m : GMuseum} (h : Audited m) : auditB m = true := by
  obtain ⟨hm, ms, ht, hv, hr⟩ := h
  rw [audit_calc hm ht hv, hr]
  simp
theorem audited_fraud {m : GMuseum} (h : Audited m) : fraudI m = -1 := by unfold fraudI; rw [if_pos (audited_audit h)]
theorem hallsB_houseA {H : Int} {ds : List GDoor} {xs : List Int} (h : hallsB H ds xs = true) : houseB H ds = true := by
  unfold hallsB at h
  simp only [Bool.and_eq_true] at h
  exact h.2
theorem canMove_mv {H : Int} {ds : List GDoor} {ps gs : List Int} {x : GMove} (h : canMoveB H ds ps gs x = true) : mvB x = true := by
  have hg := canMove_go h
  unfold canMoveB at h
  simp only [Bool.and_eq_true] at h
  obtain ⟨hp, hgs, hhg, hgo, hf, hs, -, -⟩ := h
  have hH := hallsB_houseA hhg
  have ht := (hallB_iff hH).1 (goB_to hg)
  have hH7 := house_HG hH
  have ho := goB_obj hg
  unfold placesB at hp
  simp only [Bool.and_eq_true, decide_eq_true_eq] at hp hgs
  simp only [inB, Bool.and_eq_true, decide_eq_true_eq] at hf hs
  unfold mvB inB
  simp only [Bool.and_eq_true, decide_eq_true_eq]
  omega
theorem audited_night {m : GMuseum} (h : Audited m) (x : GMove) : Audited (nightM m x) := by
  obtain ⟨hm, ms, ht, hv, hr⟩ := h
  refine ⟨night_ok hm x, ?_⟩
  unfold nightM
  split
  · rename_i hb
    unfold nightB at hb
    simp only [Bool.and_eq_true] at hb
    obtain ⟨-, hc, ha⟩ := hb
    refine ⟨ms ++ [x], ?_, fun y hy => ?_, ?_⟩
    · simp only [List.map_append, List.map_cons, List.map_nil, ht]; rfl
    · rcases List.mem_append.1 hy with hy | hy
      · exact hv y hy
      · rw [List.mem_singleton] at hy; subst hy; exact canMove_mv hc
    · show replayF m.H m.ds m.fs m.fs (ms ++ [x]) = (m.ps.set x.o.toNat x.t, true)
      rw [replayF_snoc, hr]
      simp only [if_true]
      rw [replayF, if_pos (canMove_go hc)]
      rfl
  · exact ⟨ms, ht, hv, hr⟩
theorem audited_guard {m : GMuseum} (h : Audited m) (g k : Int) : Audited (guardM m g k) := by
  obtain ⟨hm, ms, ht, hv, hr⟩ := h
  refine ⟨guard_ok hm g k, ms, ?_, hv, ?_⟩ <;> unfold guardM <;> split <;> assumption
theorem audited_days {m : GMuseum} (h : Audited m) (d : Int) : Audited (daysM m d) := by
  obtain ⟨hm, ms, ht, hv, hr⟩ := h
  refine ⟨days_ok hm d, ms, ?_, hv, ?_⟩ <;> unfold daysM <;> split <;> assumption
theorem audited_act {m : GMuseum} (h : Audited m) (a : GAct) : Audited (actM m a) := by
  unfold actM
  split
  · split
    · exact audited_guard h _ _
    · split
      · exact audited_night h _
      · split
        · exact audited_days h _
        · exact h
  · exact h
theorem audited_run : ∀ (acts : List GAct) {m : GMuseum} (l : List Int), Audited m → Audited (runF m acts l).1
  | [], m, l, h => h
  | a :: r, m, l, h => audited_run r _ (audited_act h a)
theorem audited_new {H : Int} {ds : List GDoor} {ps gs : List Int} (h : museumB (rawM H ds ps gs) = true) : Audited (newM H ds ps gs) := by
  unfold newM
  rw [if_pos h]
  exact ⟨h, [], rfl, fun x hx => (by cases hx), rfl⟩
/- A changed place. -/
theorem set_self {l : List Int} {k : Nat} (hk : k < l.length) {x : Int} : l.set k x = l ↔ x = l.getD k 0 := by
  have hg : l.getD k 0 = l[k] := by rw [List.getD_eq_getElem?_getD, List.getElem?_eq_getElem hk]; rfl
  constructor
  · intro h
    have : (l.set k x)[k]'(by simpa using hk) = l[k] := by simp only [h]
    rw [List.getElem_set_self] at this
    rw [hg]; exact this
  · intro h
    rw [h, hg]
    exact List.set_getElem_self hk
theorem bad_place {m : GMuseum} (h : Audited m) {k : Nat} (hk : k < m.ps.length) {x : Int} (h0 : 0 ≤ x) (h1 : x < m.H) : auditB { m with ps := m.ps.set k x } = decide (x = m.ps.getD k 0) := by
  obtain ⟨hm, ms, ht, hv, hr⟩ := h
  have hm' : museumB { m with ps := m.ps.set k x } = true := by
    have hH := museumB_house hm
    rw [museumB_parts] at hm ⊢
    obtain ⟨a1, a2, a3, a4, a5, a6, a7, a8⟩ := hm
    exact ⟨a1, placesB_set a2 _ ((hallB_iff hH).2 ⟨h0, h1⟩), by simpa using a3, a4, a5, a6, a7, a8⟩
  rw [audit_calc (ms := ms) hm' ht hv]
  show ((replayF m.H m.ds m.fs m.fs ms).2 && decide ((replayF m.H m.ds m.fs m.fs ms).1 = m.ps.set k x)) = _
  rw [hr, Bool.true_and, Bool.eq_iff_iff, decide_eq_true_eq, decide_eq_true_eq, ← set_self hk]
  exact eq_comm
theorem no_record {m : GMuseum} (h : Audited m) (hr : m.rs = []) : m.fs = m.ps := by
  obtain ⟨hm, ms, ht, hv, he⟩ := h
  rw [hr] at ht
  have : ms = [] := by cases ms with
    | nil => rfl
    | cons a b => simp at ht
  subst this
  simp only [replayF, Prod.mk.injEq] at he
  exact he.1
/- A lost entry. -/
theorem goB_ne {H : Int} {ds : List GDoor} {ps : List Int} {x : GMove} (h : goB H ds ps x = true) : ps.set x.o.toNat x.t ≠ ps := by
  have ho := goB_obj h
  have hk : x.o.toNat < ps.length := by omega
  rw [Ne, set_self hk]
  unfold goB hasDoorB at h
  simp only [Bool.and_eq_true] at h
  have := (doorB_inG h.2.2.1 h.2.2.2).1
  exact fun e => this e.symm
theorem lost_entry {m : GMuseum} (h : Audited m) {rs : List GEntry} {e : GEntry} (hr : m.rs = rs ++ [e]) : auditB { m with rs := rs } = false := by
  obtain ⟨hm, ms, ht, hv, he⟩ := h
  have hm' : museumB { m with rs := rs } = true := by
    rw [museumB_parts] at hm ⊢
    obtain ⟨a1, a2, a3, a4, a5, a6, a7, a8⟩ := hm
    rw [hr] at a7 a8
    exact ⟨a1, a2, a3, a4, a5, a6, sealed_init a7, fun e he => a8 e (List.mem_append_left _ he)⟩
  rw [hr, List.map_append, List.map_cons, List.map_nil] at ht
  have hne : ms ≠ [] := by rintro rfl; simp at ht
  obtain ⟨ms', x, rfl⟩ : ∃ ms' x, ms = ms' ++ [x] := ⟨ms.dropLast, ms.getLast hne, (List.dropLast_concat_getLast hne).symm⟩
  rw [List.map_append, List.map_cons, List.map_nil] at ht
  obtain ⟨ht1, -⟩ := List.append_inj' ht rfl
  rw [audit_calc (ms := ms') hm' ht1 (fun y hy => hv y (List.mem_append_left _ hy))]
  show ((replayF m.H m.ds m.fs m.fs ms').2 && decide ((replayF m.H m.ds m.fs m.fs ms').1 = m.ps)) = false
  rw [replayF_snoc] at he
  split at he
  · rename_i h2
    rw [replayF] at he
    split at he
    · rename_i hg
      simp only [replayF, Prod.mk.injEq, and_true] at he
      have := goB_ne hg
      rw [he] at this
      rw [h2, Bool.true_and, decide_eq_false_iff_not]
      exact fun e => this e.symm
    · simp at he
  · simp at he
/- A changed byte. -/
theorem digS_inj {a b : Nat} (c : UInt8) (ha : a < 1000003) (hb : b < 1000003) (h : a ≠ b) : digS a c ≠ digS b c := by
  unfold digS
  omega
theorem digF_inj : ∀ (l : List UInt8) {a b : Nat}, a < 1000003 → b < 1000003 → a ≠ b → l.foldl digS a ≠ l.foldl digS b
  | [], _, _, _, _, h => h
  | c :: l, a, b, ha, hb, h => digF_inj l (digS_lt a c) (digS_lt b c) (digS_inj c ha hb h)
theorem digS_byte {a : Nat} {c d : UInt8} (ha : a < 1000003) (h : c ≠ d) : digS a c ≠ digS a d := by
  have hc := c.toNat_lt
  have hd := d.toNat_lt
  have : c.toNat ≠ d.toNat := fun e => h (UInt8.toNat_inj.1 e)
  unfold digS
  omega
theorem digL_byte (p q : List UInt8) {c d : UInt8} (h : c ≠ d) : digL (p ++ c :: q) ≠ digL (p ++ d :: q) := by
  unfold digL
  rw [List.foldl_append, List.foldl_append, List.foldl_cons, List.foldl_cons]
  have hp := digL_lt p
  exact digF_inj q (digS_lt _ c) (digS_lt _ d) (digS_byte hp h)
theorem digest_byte {x y : ByteArray} (hs : x.size = y.size) (h : x.size ≤ 200) {p q : List UInt8} {c d : UInt8} (hx : x.data.toList = p ++ c :: q) (hy : y.data.toList = p ++ d :: q) (hcd : c ≠ d) : digest x ≠ digest y := by
  unfold digest
  rw [if_pos h, if_pos (by omega), hx, hy]
  have := digL_byte p q hcd
  omega
theorem seal_byte {s m : Int} {x y : ByteArray} (h0 : 0 ≤ sealB s m x) (hd : digest x ≠ digest y) (hy : 0 ≤ digest y) : sealB s m y ≠ sealB s m x := by
  have b1 := digest_bd x
  have b2 := digest_bd y
  unfold sealB at h0 ⊢
  split at h0
  · rename_i h1
    rw [if_pos h1]
    simp only [Bool.and_eq_true, decide_eq_true_eq] at h1
    rw [if_pos (by simp only [Bool.and_eq_true, decide_eq_true_eq]; exact ⟨h1.1, h1.2.1, hy⟩)]
    omega
  · omega
theorem brok_at : ∀ (a : List GEntry) (s : Int) (p : Option Int) (k : Nat) (e e' : GEntry) (b : List GEntry), brokF s p k (a ++ e :: b) = -1 → e'.m = e.m → e'.s = e.s → (∀ z, 0 ≤ sealB z e.m e.x → sealB z e.m e'.x ≠ sealB z e.m e.x) → brokF s p k (a ++ e' :: b) = (k : Int) + a.length
  | [], s, p, k, e, e', b, h, hm, hs, hd => by
    rw [List.nil_append] at h ⊢
    rw [brokF] at h ⊢
    split at h
    · omega
    · rename_i hc
      simp only [Bool.or_eq_true, not_or, decide_eq_true_eq, bne_iff_ne, ne_eq, Decidable.not_not] at hc
      have h1 := hd s (by omega)
      rw [if_pos, List.length_nil]
      · simp
      · simp only [Bool.or_eq_true, decide_eq_true_eq, bne_iff_ne]
        right; left
        rw [hm, hs]
        rw [hc.2.1] at h1
        exact h1
  | y :: a, s, p, k, e, e', b, h, hm, hs, hd => by
    rw [List.cons_append] at h ⊢
    rw [brokF] at h ⊢
    split at h
    · omega
    · rename_i hc
      rw [if_neg hc, brok_at a _ _ _ e e' b h hm hs hd, List.length_cons]
      omega
theorem changed_byte {m : GMuseum} (h : Audited m) {a b : List GEntry} {e e' : GEntry} (hr : m.rs = a ++ e :: b) (hm : e'.m = e.m) (hs : e'.s = e.s) {p q : List UInt8} {c d : UInt8} (hx : e.x.data.toList = p ++ c :: q) (hy : e'.x.data.toList = p ++ d :: q) (hcd : c ≠ d) :
    auditB { m with rs := a ++ e' :: b } = false ∧ fraudI { m with rs := a ++ e' :: b } = a.length := by
  obtain ⟨hmm, ms, ht, hv, he⟩ := h
  have hp := museumB_parts.1 hmm
  have h7 := hp.2.2.2.2.2.2.1
  rw [hr] at h7
  unfold sealedB brokenI at h7
  simp only [Bool.and_eq_true, decide_eq_true_eq, beq_iff_eq] at h7
  have hex : ∃ x, e.x = moveT x := by
    have : e.x ∈ m.rs.map (·.x) := List.mem_map.2 ⟨e, by rw [hr]; simp, rfl⟩
    rw [ht] at this
    obtain ⟨x, -, hx⟩ := List.mem_map.1 this
    exact ⟨x, hx.symm⟩
  obtain ⟨x, hex⟩ := hex
  have hsz : e.x.size ≤ 200 := by rw [hex]; have := moveT_size x; omega
  have hss : e.x.size = e'.x.size := by
    rw [← toList_size, ← toList_size, hx, hy]; simp
  have hk := brok_at a 1 none 0 e e' b h7.2 hm hs (fun z hz => seal_byte hz (digest_byte hss hsz hx hy hcd) (by unfold digest; rw [if_pos (by omega)]; omega))
  have hbr : brokenI (a ++ e' :: b) = (a.length : Int) := by unfold brokenI; rw [hk]; simp
  have ha : auditB { m with rs := a ++ e' :: b } = false := by
    unfold auditB
    rw [show museumB { m with rs := a ++ e' :: b } = false from ?_]
    · rfl
    · rw [Bool.eq_false_iff, Ne, museumB_parts]
      rintro ⟨-, -, -, -, -, -, h7, -⟩
      unfold sealedB at h7
      simp only [Bool.and_eq_true, decide_eq_true_eq, beq_iff_eq] at h7
      rw [hbr] at h7
      omega
  refine ⟨ha, ?_⟩
  unfold fraudI
  rw [ha]
  show (if brokenI (a ++ e' :: b) = -1 then _ else brokenI (a ++ e' :: b)) = _
  rw [hbr, if_neg (by omega)]
/- When a night move is recorded. -/
theorem lastS_bd {rs : List GEntry} (h : sealedB rs = true) : 0 ≤ lastS rs ∧ lastS rs ≤ 1000002 := by
  unfold sealedB brokenI at h
  simp only [Bool.and_eq_true, decide_eq_true_eq, beq_iff_eq] at h
  cases hl : rs.getLast? with
  | none =>
    have : lastS rs = 1 := by unfold lastS; rw [hl]
    omega
  | some e =>
    have hne : rs ≠ [] := by rintro rfl; cases hl
    obtain ⟨a, y, rfl⟩ : ∃ a y, rs = a ++ [y] := ⟨rs.dropLast, rs.getLast hne, (List.dropLast_concat_getLast hne).symm⟩
    have h2 := h.2
    rw [brokF_snoc] at h2
    rw [List.getLast?_append, List.getLast?_singleton] at hl
    simp only [Option.some_or, Option.some.injEq] at hl
    subst hl
    have hy : lastS (a ++ [y]) = y.s := by unfold lastS; rw [List.getLast?_append, List.getLast?_singleton]; rfl
    rw [hy]
    split at h2
    · rw [brokF] at h2
      split at h2
      · omega
      · rename_i hc
        simp only [Bool.or_eq_true, not_or, decide_eq_true_eq, bne_iff_ne, ne_eq, Decidable.not_not] at hc
        have := sealB_bd ((a.getLast?.map (·.s)).getD 1) y.m y.x
        omega
    · exact absurd h2 (by assumption)
theorem app_iff {m : GMuseum} (h : museumB m = true) {x : GMove} : appB m.rs m.d (moveT x) = decide (m.rs.length < 30) := by
  obtain ⟨-, -, -, -, -, h6, h7, h8⟩ := museumB_parts.1 h
  have h30 := sealed_len h7
  have hb := lastS_bd h7
  unfold appB
  have hse : decide (0 ≤ sealB (lastS m.rs) m.d (moveT x)) = true := by
    have hd : 0 ≤ digest (moveT x) := by
      unfold digest
      rw [if_pos (by have := moveT_size x; omega)]; omega
    unfold sealB
    rw [h6, if_pos (by simp only [inB, Bool.and_eq_true, decide_eq_true_eq]; exact ⟨⟨hb.1, hb.2⟩, trivial, hd⟩), decide_eq_true_eq]
    omega
  have hla : lateB m.rs m.d = true := by
    unfold lateB
    cases hl : m.rs.getLast? with
    | none => rfl
    | some e =>
      simp only [decide_eq_true_eq]
      exact h8 e (List.mem_of_getLast? hl)
  rw [h7, hse, hla, Bool.true_and, Bool.and_true, Bool.and_true, Bool.eq_iff_iff]
  simp only [Bool.not_eq_true', decide_eq_false_iff_not, decide_eq_true_eq]
  omega
end Go.Proofs.YtfhibjehnoibeaaDoor
