/- Texts of one proof, laid one behind the other (MA, ST8, STa, STb, STg, STe, STf, LV, SHo); no condition but what stands at each theorem. -/
import Derived.BigRegion
import Derived.Test.YtfmifllcbbfpoaaGreatDoorZA
import Derived.Test.YtfmifllcbbfpoaaGreatDoorZG
import Derived.Test.YtfmifllcbbfpoaaGreatDoorZH
import Derived.Test.YtfmifllcbbfpoaaGreatDoorZI
/- Audited museums in plain Lean: what every act keeps, and that a changed place, a changed byte and a lost entry are found; no condition. -/
namespace Go.Proofs.YtfmifllcbbfpoaaGreatDoor
set_option linter.unusedSimpArgs false
set_option linter.unusedVariables false
open Go.RowKit Go.Sort
theorem replayF_snoc (H : Int) (ds : List GDoor) (ps : List Int) : ∀ (ms : List GMove) (u : List Int) (x : GMove), replayF H ds ps u (ms ++ [x]) = if (replayF H ds ps u ms).2 then replayF H ds ps (replayF H ds ps u ms).1 [x] else (ps, false)
  | [], u, x => rfl
  | y :: r, u, x => by
    rw [List.cons_append]
    conv => lhs; rw [replayF]
    conv => rhs; rw [replayF]
    split
    · exact replayF_snoc H ds ps r _ x
    · rfl
/-- A valid museum whose record tells the moves that led to its places. -/
def Audited (m : GMuseum) : Prop := museumB m = true ∧ ∃ ms : List GMove, m.rs.map (·.x) = ms.map moveT ∧ (∀ x ∈ ms, mvB x = true) ∧ replayF m.H m.ds m.fs m.fs ms = (m.ps, true)
theorem movesL_of : ∀ {rs : List GEntry} {ms : List GMove}, rs.map (·.x) = ms.map moveT → (∀ x ∈ ms, mvB x = true) → movesL rs = ms ∧ (rs.all fun e => (parseM e.x).2) = true
  | [], [], _, _ => ⟨rfl, rfl⟩
  | [], _ :: _, h, _ => by simp at h
  | _ :: _, [], h, _ => by simp at h
  | e :: r, x :: t, h, hv => by
    simp only [List.map_cons, List.cons.injEq] at h
    obtain ⟨h1, h2⟩ := movesL_of h.2 (fun y hy => hv y (List.mem_cons_of_mem _ hy))
    have hp := parseM_text (hv x (List.mem_cons_self ..))
    refine ⟨?_, ?_⟩
    · unfold movesL at h1 ⊢
      rw [List.map_cons, h1, h.1, hp]
    · rw [List.all_cons, h2, h.1, hp]; rfl
theorem audit_calc {m : GMuseum} {ms : List GMove} (hm : museumB m = true) (ht : m.rs.map (·.x) = ms.map moveT) (hv : ∀ x ∈ ms, mvB x = true) :
    auditB m = ((replayF m.H m.ds m.fs m.fs ms).2 && decide ((replayF m.H m.ds m.fs m.fs ms).1 = m.ps)) := by
  obtain ⟨h1, h2⟩ := movesL_of ht hv
  have hp := museumB_parts.1 hm
  have hl : ms.length = m.rs.length := by have := congrArg List.length ht; simpa using this.symm
  have h30 := sealed_len hp.2.2.2.2.2.2.1
  have hr : replayL m.H m.ds m.fs ms = replayF m.H m.ds m.fs m.fs ms := by
    unfold replayL
    rw [if_pos (by rw [hp.1, Bool.true_and, decide_eq_true_eq]; omega)]
  unfold auditB
  rw [h1, h2, hm, hr]
  simp
theorem audited_audit {m : GMuseum} (h : Audited m) : auditB m = true := by
  obtain ⟨hm, ms, ht, hv, hr⟩ := h
  rw [audit_calc hm ht hv, hr]
  simp
theorem audited_fraud {m : GMuseum} (h : Audited m) : fraudI m = -1 := by unfold fraudI; rw [if_pos (audited_audit h)]
theorem hallsB_houseA {H : Int} {ds : List GDoor} {xs : List Int} (h : hallsB H ds xs = true) : houseB H ds = true := by
  unfold hallsB at h
  simp only [Bool.and_eq_true] at h
  exact h.2
theorem canMove_mv {H : Int} {ds : List GDoor} {ps gs : List Int} {x : GMove} (h : canMoveB H ds ps gs x = true) : mvB x = true := by
  have hg := canMove_go h
  unfold canMoveB at h
  simp only [Bool.and_eq_true] at h
  obtain ⟨hp, hgs, hhg, hgo, hf, hs, -, -⟩ := h
  have hH := hallsB_houseA hhg
  have ht := (hallB_iff hH).1 (goB_to hg)
  have hH7 := house_HG hH
  have ho := goB_obj hg
  unfold placesB at hp
  simp only [Bool.and_eq_true, decide_eq_true_eq] at hp hgs
  simp only [inB, Bool.and_eq_true, decide_eq_true_eq] at hf hs
  unfold mvB inB
  simp only [Bool.and_eq_true, decide_eq_true_eq]
  omega
theorem audited_night {m : GMuseum} (h : Audited m) (x : GMove) : Audited (nightM m x) := by
  obtain ⟨hm, ms, ht, hv, hr⟩ := h
  refine ⟨night_ok hm x, ?_⟩
  unfold nightM
  split
  · rename_i hb
    unfold nightB at hb
    simp only [Bool.and_eq_true] at hb
    obtain ⟨-, hc, ha⟩ := hb
    refine ⟨ms ++ [x], ?_, fun y hy => ?_, ?_⟩
    · simp only [List.map_append, List.map_cons, List.map_nil, ht]; rfl
    · rcases List.mem_append.1 hy with hy | hy
      · exact hv y hy
      · rw [List.mem_singleton] at hy; subst hy; exact canMove_mv hc
    · show replayF m.H m.ds m.fs m.fs (ms ++ [x]) = (m.ps.set x.o.toNat x.t, true)
      rw [replayF_snoc, hr]
      simp only [if_true]
      rw [replayF, if_pos (canMove_go hc)]
      rfl
  · exact ⟨ms, ht, hv, hr⟩
theorem audited_guard {m : GMuseum} (h : Audited m) (g k : Int) : Audited (guardM m g k) := by
  obtain ⟨hm, ms, ht, hv, hr⟩ := h
  refine ⟨guard_ok hm g k, ms, ?_, hv, ?_⟩ <;> unfold guardM <;> split <;> assumption
theorem audited_days {m : GMuseum} (h : Audited m) (d : Int) : Audited (daysM m d) := by
  obtain ⟨hm, ms, ht, hv, hr⟩ := h
  refine ⟨days_ok hm d, ms, ?_, hv, ?_⟩ <;> unfold daysM <;> split <;> assumption
theorem audited_act {m : GMuseum} (h : Audited m) (a : GAct) : Audited (actM m a) := by
  unfold actM
  split
  · split
    · exact audited_guard h _ _
    · split
      · exact audited_night h _
      · split
        · exact audited_days h _
        · exact h
  · exact h
theorem audited_run : ∀ (acts : List GAct) {m : GMuseum} (l : List Int), Audited m → Audited (runF m acts l).1
  | [], m, l, h => h
  | a :: r, m, l, h => audited_run r _ (audited_act h a)
theorem audited_new {H : Int} {ds : List GDoor} {ps gs : List Int} (h : museumB (rawM H ds ps gs) = true) : Audited (newM H ds ps gs) := by
  unfold newM
  rw [if_pos h]
  exact ⟨h, [], rfl, fun x hx => (by cases hx), rfl⟩
/- A changed place. -/
theorem set_self {l : List Int} {k : Nat} (hk : k < l.length) {x : Int} : l.set k x = l ↔ x = l.getD k 0 := by
  have hg : l.getD k 0 = l[k] := by rw [List.getD_eq_getElem?_getD, List.getElem?_eq_getElem hk]; rfl
  constructor
  · intro h
    have : (l.set k x)[k]'(by simpa using hk) = l[k] := by simp only [h]
    rw [List.getElem_set_self] at this
    rw [hg]; exact this
  · intro h
    rw [h, hg]
    exact List.set_getElem_self hk
theorem bad_place {m : GMuseum} (h : Audited m) {k : Nat} (hk : k < m.ps.length) {x : Int} (h0 : 0 ≤ x) (h1 : x < m.H) : auditB { m with ps := m.ps.set k x } = decide (x = m.ps.getD k 0) := by
  obtain ⟨hm, ms, ht, hv, hr⟩ := h
  have hm' : museumB { m with ps := m.ps.set k x } = true := by
    have hH := museumB_house hm
    rw [museumB_parts] at hm ⊢
    obtain ⟨a1, a2, a3, a4, a5, a6, a7, a8⟩ := hm
    exact ⟨a1, placesB_set a2 _ ((hallB_iff hH).2 ⟨h0, h1⟩), by simpa using a3, a4, a5, a6, a7, a8⟩
  rw [audit_calc (ms := ms) hm' ht hv]
  show ((replayF m.H m.ds m.fs m.fs ms).2 && decide ((replayF m.H m.ds m.fs m.fs ms).1 = m.ps.set k x)) = _
  rw [hr, Bool.true_and, Bool.eq_iff_iff, decide_eq_true_eq, decide_eq_true_eq, ← set_self hk]
  exact eq_comm
theorem no_record {m : GMuseum} (h : Audited m) (hr : m.rs = []) : m.fs = m.ps := by
  obtain ⟨hm, ms, ht, hv, he⟩ := h
  rw [hr] at ht
  have : ms = [] := by cases ms with
    | nil => rfl
    | cons a b => simp at ht
  subst this
  simp only [replayF, Prod.mk.injEq] at he
  exact he.1
/- A lost entry. -/
theorem goB_ne {H : Int} {ds : List GDoor} {ps : List Int} {x : GMove} (h : goB H ds ps x = true) : ps.set x.o.toNat x.t ≠ ps := by
  have ho := goB_obj h
  have hk : x.o.toNat < ps.length := by omega
  rw [Ne, set_self hk]
  unfold goB hasDoorB at h
  simp only [Bool.and_eq_true] at h
  have := (doorB_inG h.2.2.1 h.2.2.2).1
  exact fun e => this e.symm
theorem lost_entry {m : GMuseum} (h : Audited m) {rs : List GEntry} {e : GEntry} (hr : m.rs = rs ++ [e]) : auditB { m with rs := rs } = false := by
  obtain ⟨hm, ms, ht, hv, he⟩ := h
  have hm' : museumB { m with rs := rs } = true := by
    rw [museumB_parts] at hm ⊢
    obtain ⟨a1, a2, a3, a4, a5, a6, a7, a8⟩ := hm
    rw [hr] at a7 a8
    exact ⟨a1, a2, a3, a4, a5, a6, sealed_init a7, fun e he => a8 e (List.mem_append_left _ he)⟩
  rw [hr, List.map_append, List.map_cons, List.map_nil] at ht
  have hne : ms ≠ [] := by rintro rfl; simp at ht
  obtain ⟨ms', x, rfl⟩ : ∃ ms' x, ms = ms' ++ [x] := ⟨ms.dropLast, ms.getLast hne, (List.dropLast_concat_getLast hne).symm⟩
  rw [List.map_append, List.map_cons, List.map_nil] at ht
  obtain ⟨ht1, -⟩ := List.append_inj' ht rfl
  rw [audit_calc (ms := ms') hm' ht1 (fun y hy => hv y (List.mem_append_left _ hy))]
  show ((replayF m.H m.ds m.fs m.fs ms').2 && decide ((replayF m.H m.ds m.fs m.fs ms').1 = m.ps)) = false
  rw [replayF_snoc] at he
  split at he
  · rename_i h2
    rw [replayF] at he
    split at he
    · rename_i hg
      simp only [replayF, Prod.mk.injEq, and_true] at he
      have := goB_ne hg
      rw [he] at this
      rw [h2, Bool.true_and, decide_eq_false_iff_not]
      exact fun e => this e.symm
    · simp at he
  · simp at he
/- A changed byte. -/
theorem digS_inj {a b : Nat} (c : UInt8) (ha : a < 1000003) (hb : b < 1000003) (h : a ≠ b) : digS a c ≠ digS b c := by
  unfold digS
  omega
theorem digF_inj : ∀ (l : List UInt8) {a b : Nat}, a < 1000003 → b < 1000003 → a ≠ b → l.foldl digS a ≠ l.foldl digS b
  | [], _, _, _, _, h => h
  | c :: l, a, b, ha, hb, h => digF_inj l (digS_lt a c) (digS_lt b c) (digS_inj c ha hb h)
theorem digS_byte {a : Nat} {c d : UInt8} (ha : a < 1000003) (h : c ≠ d) : digS a c ≠ digS a d := by
  have hc := c.toNat_lt
  have hd := d.toNat_lt
  have : c.toNat ≠ d.toNat := fun e => h (UInt8.toNat_inj.1 e)
  unfold digS
  omega
theorem digL_byte (p q : List UInt8) {c d : UInt8} (h : c ≠ d) : digL (p ++ c :: q) ≠ digL (p ++ d :: q) := by
  unfold digL
  rw [List.foldl_append, List.foldl_append, List.foldl_cons, List.foldl_cons]
  have hp := digL_lt p
  exact digF_inj q (digS_lt _ c) (digS_lt _ d) (digS_byte hp h)
theorem digest_byte {x y : ByteArray} (hs : x.size = y.size) (h : x.size ≤ 200) {p q : List UInt8} {c d : UInt8} (hx : x.data.toList = p ++ c :: q) (hy : y.data.toList = p ++ d :: q) (hcd : c ≠ d) : digest x ≠ digest y := by
  unfold digest
  rw [if_pos h, if_pos (by omega), hx, hy]
  have := digL_byte p q hcd
  omega
theorem seal_byte {s m : Int} {x y : ByteArray} (h0 : 0 ≤ sealB s m x) (hd : digest x ≠ digest y) (hy : 0 ≤ digest y) : sealB s m y ≠ sealB s m x := by
  have b1 := digest_bd x
  have b2 := digest_bd y
  unfold sealB at h0 ⊢
  split at h0
  · rename_i h1
    rw [if_pos h1]
    simp only [Bool.and_eq_true, decide_eq_true_eq] at h1
    rw [if_pos (by simp only [Bool.and_eq_true, decide_eq_true_eq]; exact ⟨h1.1, h1.2.1, hy⟩)]
    omega
  · omega
theorem brok_at : ∀ (a : List GEntry) (s : Int) (p : Option Int) (k : Nat) (e e' : GEntry) (b : List GEntry), brokF s p k (a ++ e :: b) = -1 → e'.m = e.m → e'.s = e.s → (∀ z, 0 ≤ sealB z e.m e.x → sealB z e.m e'.x ≠ sealB z e.m e.x) → brokF s p k (a ++ e' :: b) = (k : Int) + a.length
  | [], s, p, k, e, e', b, h, hm, hs, hd => by
    rw [List.nil_append] at h ⊢
    rw [brokF] at h ⊢
    split at h
    · omega
    · rename_i hc
      simp only [Bool.or_eq_true, not_or, decide_eq_true_eq, bne_iff_ne, ne_eq, Decidable.not_not] at hc
      have h1 := hd s (by omega)
      rw [if_pos, List.length_nil]
      · simp
      · simp only [Bool.or_eq_true, decide_eq_true_eq, bne_iff_ne]
        right; left
        rw [hm, hs]
        rw [hc.2.1] at h1
        exact h1
  | y :: a, s, p, k, e, e', b, h, hm, hs, hd => by
    rw [List.cons_append] at h ⊢
    rw [brokF] at h ⊢
    split at h
    · omega
    · rename_i hc
      rw [if_neg hc, brok_at a _ _ _ e e' b h hm hs hd, List.length_cons]
      omega
theorem changed_byte {m : GMuseum} (h : Audited m) {a b : List GEntry} {e e' : GEntry} (hr : m.rs = a ++ e :: b) (hm : e'.m = e.m) (hs : e'.s = e.s) {p q : List UInt8} {c d : UInt8} (hx : e.x.data.toList = p ++ c :: q) (hy : e'.x.data.toList = p ++ d :: q) (hcd : c ≠ d) :
    auditB { m with rs := a ++ e' :: b } = false ∧ fraudI { m with rs := a ++ e' :: b } = a.length := by
  obtain ⟨hmm, ms, ht, hv, he⟩ := h
  have hp := museumB_parts.1 hmm
  have h7 := hp.2.2.2.2.2.2.1
  rw [hr] at h7
  unfold sealedB brokenI at h7
  simp only [Bool.and_eq_true, decide_eq_true_eq, beq_iff_eq] at h7
  have hex : ∃ x, e.x = moveT x := by
    have : e.x ∈ m.rs.map (·.x) := List.mem_map.2 ⟨e, by rw [hr]; simp, rfl⟩
    rw [ht] at this
    obtain ⟨x, -, hx⟩ := List.mem_map.1 this
    exact ⟨x, hx.symm⟩
  obtain ⟨x, hex⟩ := hex
  have hsz : e.x.size ≤ 200 := by rw [hex]; have := moveT_size x; omega
  have hss : e.x.size = e'.x.size := by
    rw [← toList_size, ← toList_size, hx, hy]; simp
  have hk := brok_at a 1 none 0 e e' b h7.2 hm hs (fun z hz => seal_byte hz (digest_byte hss hsz hx hy hcd) (by unfold digest; rw [if_pos (by omega)]; omega))
  have hbr : brokenI (a ++ e' :: b) = (a.length : Int) := by unfold brokenI; rw [hk]; simp
  have ha : auditB { m with rs := a ++ e' :: b } = false := by
    unfold auditB
    rw [show museumB { m with rs := a ++ e' :: b } = false from ?_]
    · rfl
    · rw [Bool.eq_false_iff, Ne, museumB_parts]
      rintro ⟨-, -, -, -, -, -, h7, -⟩
      unfold sealedB at h7
      simp only [Bool.and_eq_true, decide_eq_true_eq, beq_iff_eq] at h7
      rw [hbr] at h7
      omega
  refine ⟨ha, ?_⟩
  unfold fraudI
  rw [ha]
  show (if brokenI (a ++ e' :: b) = -1 then _ else brokenI (a ++ e' :: b)) = _
  rw [hbr, if_neg (by omega)]
/- When a night move is recorded. -/
theorem lastS_bd {rs : List GEntry} (h : sealedB rs = true) : 0 ≤ lastS rs ∧ lastS rs ≤ 1000002 := by
  unfold sealedB brokenI at h
  simp only [Bool.and_eq_true, decide_eq_true_eq, beq_iff_eq] at h
  cases hl : rs.getLast? with
  | none =>
    have : lastS rs = 1 := by unfold lastS; rw [hl]
    omega
  | some e =>
    have hne : rs ≠ [] := by rintro rfl; cases hl
    obtain ⟨a, y, rfl⟩ : ∃ a y, rs = a ++ [y] := ⟨rs.dropLast, rs.getLast hne, (List.dropLast_concat_getLast hne).symm⟩
    have h2 := h.2
    rw [brokF_snoc] at h2
    rw [List.getLast?_append, List.getLast?_singleton] at hl
    simp only [Option.some_or, Option.some.injEq] at hl
    subst hl
    have hy : lastS (a ++ [y]) = y.s := by unfold lastS; rw [List.getLast?_append, List.getLast?_singleton]; rfl
    rw [hy]
    split at h2
    · rw [brokF] at h2
      split at h2
      · omega
      · rename_i hc
        simp only [Bool.or_eq_true, not_or, decide_eq_true_eq, bne_iff_ne, ne_eq, Decidable.not_not] at hc
        have := sealB_bd ((a.getLast?.map (·.s)).getD 1) y.m y.x
        omega
    · exact absurd h2 (by assumption)
theorem app_iff {m : GMuseum} (h : museumB m = true) {x : GMove} : appB m.rs m.d (moveT x) = decide (m.rs.length < 30) := by
  obtain ⟨-, -, -, -, -, h6, h7, h8⟩ := museumB_parts.1 h
  have h30 := sealed_len h7
  have hb := lastS_bd h7
  unfold appB
  have hse : decide (0 ≤ sealB (lastS m.rs) m.d (moveT x)) = true := by
    have hd : 0 ≤ digest (moveT x) := by
      unfold digest
      rw [if_pos (by have := moveT_size x; omega)]; omega
    unfold sealB
    rw [h6, if_pos (by simp only [inB, Bool.and_eq_true, decide_eq_true_eq]; exact ⟨⟨hb.1, hb.2⟩, trivial, hd⟩), decide_eq_true_eq]
    omega
  have hla : lateB m.rs m.d = true := by
    unfold lateB
    cases hl : m.rs.getLast? with
    | none => rfl
    | some e =>
      simp only [decide_eq_true_eq]
      exact h8 e (List.mem_of_getLast? hl)
  rw [h7, hse, hla, Bool.true_and, Bool.and_true, Bool.and_true, Bool.eq_iff_iff]
  simp only [Bool.not_eq_true', decide_eq_false_iff_not, decide_eq_true_eq]
  omega
end Go.Proofs.YtfmifllcbbfpoaaGreatDoor
/- The reference's l40Number; no condition but what stands at each theorem. -/
namespace Go.Proofs.YtfmifllcbbfpoaaGreatDoor
set_option linter.unusedSimpArgs false
set_option linter.unusedVariables false
open Go.RowKit Go.Sort
def PN (x : ByteArray) (w : World) (e : Ending) (w' : World) : Prop :=
  ∃ z : Int, e = .returned (.int .i64 z) ∧ Ext w w' ∧ ∀ i : Nat, i ≤ 1000 → x = itext i → z = i
theorem nominus {x : ByteArray} (hk : 1 < x.size) (h : x[0].toNat = 45) : ∀ i : Nat, x ≠ itext i := nodig (k := 0) (by omega) (by omega)
set_option maxRecDepth 100000 in
set_option maxHeartbeats 2000000 in
theorem spec_l40Number (x : ByteArray) (w : World) (hx : x.size ≤ 1000000) : Calls Tryz.prog 114 #[.string x] w (PN x w) := by
  have cP := Lib.hid (spec_ParseUint x w (by omega))
  by_cases h1 : 1 < x.size
  · have h1i : (1 : Int) < x.size := by omega
    by_cases h45 : x[0].toNat = 45
    · have HN := Lib.hid (nominus h1 h45)
      go_enter Tryz.func114, Tryz.ntmps114
      go_wp2_with (refine (spec_ParseUint _ w ?_).mono ?_; (first | (simp; omega) | omega); rintro e w1 ⟨z, b, rfl, hz, hb, -⟩; have HB := Lib.hid hb; clear hb)
      go_ret
      exact ⟨_, rfl, HB.out, fun i _ he => absurd he (HN.out i)⟩
    · have h45i : ((x[0].toNat : Int) == 45) = false := beq_false_of_ne (show (x[0].toNat : Int) ≠ 45 by omega)
      go_enter Tryz.func114, Tryz.ntmps114
      go_wp2_with (refine cP.out.mono ?_; rintro e w1 ⟨z, b, rfl, hz, hb, h⟩; have HB := Lib.hid hb; have HH := Lib.hid h; clear hb h)
      go_ret
      exact ⟨_, rfl, HB.out, fun i hi he => by rw [(HH.out i hi he).1]⟩
  · go_enter Tryz.func114, Tryz.ntmps114
    go_wp2_with (refine cP.out.mono ?_; rintro e w1 ⟨z, b, rfl, hz, hb, h⟩; have HB := Lib.hid hb; have HH := Lib.hid h; clear hb h)
    go_ret
    exact ⟨_, rfl, HB.out, fun i hi he => by rw [(HH.out i hi he).1]⟩
end Go.Proofs.YtfmifllcbbfpoaaGreatDoor
/- The program's SplitFields; no condition but what stands at each theorem. -/
namespace Go.Proofs.YtfmifllcbbfpoaaGreatDoor
set_option linter.unusedSimpArgs false
set_option linter.unusedVariables false
open Go.RowKit Go.Sort
set_option maxRecDepth 100000 in
set_option maxHeartbeats 4000000 in
theorem impl_SplitFields (x : ByteArray) (w : World) (hx : x.size ≤ 1048576) : Calls Tryz.prog 74 #[.string x] w (SplitPost x w) := by
  have Hbad := Lib.hid (fun (v : Value) (w' : World) (e : Ext w w') (h : spOk x = false) => (show SplitPost x w (.returned (.tuple #[v, .bool false])) w' from ⟨v, by rw [h], e, fun h' => by rw [h] at h'; cases h'⟩))
  have Ho0 := Lib.hid (own_empty w w.heap.size 9 1 (Nat.le_refl _))
  by_cases h600 : 600 < x.size
  · have h600i : (600 : Int) < x.size := by omega
    have HN := Lib.hid (sp_long h600)
    go_enter Tryz.func74, Tryz.ntmps74
    go_wp2_with fail
    exact bodyPost_ret (v := .tuple #[.slice none 0 0, .bool false]) (by simp [results, Tryz.results74, go_sem, *]) rfl (Hbad.out _ _ (Ext.refl w) HN.out)
  have h600i : (x.size : Int) ≤ 600 := by omega
  obtain ⟨L, hL⟩ : ∃ L, L = x.data.toList := ⟨_, rfl⟩
  have HL := Lib.hid hL
  have hLl : L.length = x.size := by rw [hL]; exact toList_size x
  clear hL
  go_enter Tryz.func74, Tryz.ntmps74
  go_wp2_with fail
  go_loop [4] (fun i => ∃ (k : Nat), k ≤ x.size ∧ i = .int .i64 k ∧ Hid (∀ j (hj : j < x.size), j < k → ¬ (x[j].toNat < 32 ∨ 126 < x[j].toNat))) (fun i => x.size - (intOf i).toNat)
  case atStart => exact ⟨0, by omega, rfl, Lib.hid (fun j _ h => absurd h (by omega))⟩
  case round =>
    obtain ⟨k, hk, rfl, hpr⟩ := hrel
    by_cases hlt : k < x.size
    · have hlti : (k : Int) < x.size := by omega
      by_cases hbad : x[k].toNat < 32 ∨ 126 < x[k].toNat
      · have HN := Lib.hid (sp_bad hlt hbad)
        rcases hbad with hd | hd
        · go_wp2_with fail
          exact bodyPost_ret (v := .tuple #[.slice none 0 0, .bool false]) (by simp [results, Tryz.results74, go_sem, *]) rfl (Hbad.out _ _ (Ext.refl w) HN.out)
        · have hd2 : ¬ x[k].toNat < 32 := by omega
          go_wp2_with fail
          exact bodyPost_ret (v := .tuple #[.slice none 0 0, .bool false]) (by simp [results, Tryz.results74, go_sem, *]) rfl (Hbad.out _ _ (Ext.refl w) HN.out)
      · have HPR : Hid (∀ j (hj : j < x.size), j < k + 1 → ¬ (x[j].toNat < 32 ∨ 126 < x[j].toNat)) := fun j hj h => by
          by_cases h2 : j < k
          · exact hpr.out j hj h2
          · obtain rfl : j = k := by omega
            exact hbad
        have hd1 : ¬ x[k].toNat < 32 := by omega
        have hd2 : ¬ 126 < x[k].toNat := by omega
        go_wp2_with fail
        go_round
        case rel => exact ⟨k + 1, by omega, by go_num, HPR⟩
        case measure => simp [intOf] <;> omega
    · obtain rfl : k = x.size := by omega
      go_wp2_with fail
      go_loopw [5, 6] (fun v i wr => ∃ (k : Nat) (W : List (List UInt8)), k ≤ x.size ∧ i = .int .i64 k ∧ Hid (wr.ownsRow w.heap.size 9 1 v W.length (sval W)) ∧ W.length ≤ k ∧ Hid (wds [] (L ++ [32]) = W ++ wds [] ((L ++ [32]).drop k)) ∧ Ext w wr) (fun _ i _ => x.size - (intOf i).toNat)
      case atStart => exact ⟨0, [], by omega, rfl, Ho0, Nat.le_refl _, rfl, (Ext.refl _).alloc _⟩
      case round =>
        obtain ⟨k, W, hk, rfl, hown, hWl, hz, hb⟩ := hrel
        have HB := Lib.hid hb
        have hsw := hb.size
        clear hb
        obtain ⟨A, c', rfl, hnc⟩ := own_form hown.out
        by_cases hlt : k < x.size
        · have hlti : (k : Int) < x.size := by omega
          have hLk : L[k]? = some x[k] := by rw [HL.out]; exact byte_at x k hlt
          by_cases h32 : x[k].toNat = 32
          · have hb32 : x[k] = 32 := UInt8.toNat_inj.1 h32
            have h32i : ((x[k].toNat : Int) == 32) = true := by simp [h32]
            have HZ : Hid (wds [] (L ++ [32]) = W ++ wds [] ((L ++ [32]).drop (k + 1))) := by unfold Hid; rw [hz.out, dropB hLk, hb32, wd_e]
            clear hLk hb32
            go_wp2_with fail
            go_roundw
            case rel => exact ⟨k + 1, W, by omega, by go_num, hown, by omega, HZ, HB.out⟩
            case measure => simp [intOf] <;> omega
          · have h32i : ((x[k].toNat : Int) == 32) = false := beq_false_of_ne (show (x[k].toNat : Int) ≠ 32 by omega)
            have hb32 := h32
            clear hLk
            go_wp2_with fail
            go_loop [6] (fun i => ∃ (j : Nat), k ≤ j ∧ j ≤ x.size ∧ i = .int .i64 j ∧ Hid (wds [] ((L ++ [32]).drop k) = wds ((L.drop k).take (j - k)) ((L ++ [32]).drop j))) (fun i => x.size - (intOf i).toNat)
            case atStart => exact ⟨k, Nat.le_refl _, hk, rfl, Lib.hid (by rw [cur_nil])⟩
            case round =>
              obtain ⟨j, hkj, hj, rfl, hq⟩ := hrel
              have key : ∀ (HD : Hid ((L ++ [32]).drop j = 32 :: (L ++ [32]).drop (j + 1))) (hjk : k < j), Hid (wds [] (L ++ [32]) = (W ++ [(L.drop k).take (j - k)]) ++ wds [] ((L ++ [32]).drop j)) := fun HD hjk => by
                unfold Hid; rw [hz.out, hq.out, HD.out, wd_n (cur_ne hjk (by omega)), wd_e]; simp
              by_cases hlj : j < x.size
              · have hLj : L[j]? = some x[j] := by rw [HL.out]; exact byte_at x j hlj
                by_cases h2 : x[j].toNat = 32
                · have hjb : x[j] = 32 := UInt8.toNat_inj.1 h2
                  have hjk : k < j := by
                    rcases Nat.lt_or_ge k j with h | h
                    · exact h
                    · obtain rfl : j = k := by omega
                      exact absurd h2 h32
                  have HZ := key (by unfold Hid; rw [dropB hLj, hjb]) hjk
                  have h2i : ((x[j].toNat : Int) == 32) = true := by simp [h2]
                  clear key hLj hjb
                  have HT : Hid (x.extract k j = ⟨((L.drop k).take (j - k)).toArray⟩) := by unfold Hid; rw [ext_bs, HL.out]
                  have hkji : (k : Int) ≤ (j : Nat) := by omega
                  go_wp2_with (at_builtin; refine (fun h : Hid _ => h.out) ?_)
                  unfold Hid
                  refine append1 ei_S rfl _ _ rfl w.heap.size wr _ _ W.length _ (by rfl) hown.out [.string (x.extract k j)] (by rfl) rfl (one_str1 _) (by omega) (by omega) ?_
                  intro v' w2 ho2 he2
                  have HO2 := Lib.hid ho2
                  have HE2 := Lib.hid (he2 w HB.out (Nat.le_refl _))
                  clear ho2 he2
                  go_wp2_with fail
                  go_roundw
                  case rel => exact ⟨j, W ++ [(L.drop k).take (j - k)], by omega, by go_num, by (unfold Hid; rw [sval_snoc, ← HT.out, List.length_append]; exact HO2.out), by simp; omega, HZ, HE2.out⟩
                  case measure => simp [intOf] <;> omega
                · have h2i : ((x[j].toNat : Int) == 32) = false := beq_false_of_ne (show (x[j].toNat : Int) ≠ 32 by omega)
                  have HQ : Hid (wds [] ((L ++ [32]).drop k) = wds ((L.drop k).take (j + 1 - k)) ((L ++ [32]).drop (j + 1))) := by
                    unfold Hid; rw [hq.out, dropB hLj, wd_ne (fun e => h2 (by rw [e]; rfl)), cur_snoc hLj hkj]
                  clear key hLj
                  go_wp2_with fail
                  go_round
                  case rel => exact ⟨j + 1, by omega, by omega, by go_num, HQ⟩
                  case measure => simp [intOf] <;> omega
              · obtain rfl : j = x.size := by omega
                have hjk : k < x.size := hlt
                have HZ := key (by unfold Hid; rw [← hLl]; exact dropE L) hjk
                clear key
                have HT : Hid (x.extract k x.size = ⟨((L.drop k).take (x.size - k)).toArray⟩) := by unfold Hid; rw [ext_bs, HL.out]
                have hkji : (k : Int) ≤ (x.size : Nat) := by omega
                go_wp2_with (at_builtin; refine (fun h : Hid _ => h.out) ?_)
                unfold Hid
                refine append1 ei_S rfl _ _ rfl w.heap.size wr _ _ W.length _ (by rfl) hown.out [.string (x.extract k x.size)] (by rfl) rfl (one_str1 _) (by omega) (by omega) ?_
                intro v' w2 ho2 he2
                have HO2 := Lib.hid ho2
                have HE2 := Lib.hid (he2 w HB.out (Nat.le_refl _))
                clear ho2 he2
                go_wp2_with fail
                go_roundw
                case rel => exact ⟨x.size, W ++ [(L.drop k).take (x.size - k)], by omega, by go_num, by (unfold Hid; rw [sval_snoc, ← HT.out, List.length_append]; exact HO2.out), by simp; omega, HZ, HE2.out⟩
                case measure => simp [intOf] <;> omega
        · obtain rfl : k = x.size := by omega
          have hF : fieldsOf x = W := by
            have h := hz.out
            have hd0 : (L ++ [32]).drop x.size = [32] := by rw [← hLl]; simp
            rw [hd0, wd_e, wd_nil, List.append_nil] at h
            unfold fieldsOf
            rw [← HL.out, h]
          by_cases h24 : 24 < W.length
          · have h24i : (24 : Int) < W.length := by omega
            have HN := Lib.hid (sp_many (x := x) (by rw [hF]; exact h24))
            clear hF
            go_wp2_with fail
            exact bodyPost_ret (v := .tuple #[.slice none 0 0, .bool false]) (by simp [results, Tryz.results74, go_sem, *]) rfl (Hbad.out _ _ HB.out HN.out)
          · have h24i : (W.length : Int) ≤ 24 := by omega
            have hok : spOk x = true := sp_good (by omega) (fun j hj => hpr.out j hj (by omega)) (by rw [hF]; omega)
            have HOK : Hid (SplitPost x w (.returned (.tuple #[.slice A W.length c', .bool true])) wr) := ⟨_, by rw [hok], HB.out, fun _ => by rw [hF]; exact hown.out⟩
            clear hF hok
            go_wp2_with fail
            exact bodyPost_ret (v := .tuple #[.slice A W.length c', .bool true]) (by simp [results, Tryz.results74, go_sem, *]) rfl HOK.out
end Go.Proofs.YtfmifllcbbfpoaaGreatDoor
/- ParseAct of the reference; no condition but what stands at each theorem. -/
namespace Go.Proofs.YtfmifllcbbfpoaaGreatDoor
set_option linter.unusedSimpArgs false
set_option linter.unusedVariables false
open Go.RowKit Go.Sort
theorem jb_snoc {L : List (List UInt8)} (h : L ≠ []) (f : List UInt8) : jb (L ++ [f]) = jb L ++ sp1 ++ ⟨f.toArray⟩ := by
  cases L with
  | nil => exact absurd rfl h
  | cons g r =>
    unfold jb sp1
    rw [List.cons_append, Lib.join_cons, Lib.join_cons, str_app _ [32], str_app]
    simp [Lib.joinTail]
theorem wds_len : ∀ (r cur : List UInt8), ∀ l ∈ wds cur r, l.length ≤ cur.length + r.length
  | [], _, l, hl => by rw [wd_nil] at hl; cases hl
  | b :: r, cur, l, hl => by
    by_cases hb : b = 32
    · subst hb
      by_cases hcur : cur = []
      · subst hcur
        rw [wd_e] at hl
        have := wds_len r [] l hl
        simp at this ⊢; omega
      · rw [wd_n hcur] at hl
        rcases List.mem_cons.1 hl with rfl | hl
        · omega
        · have := wds_len r [] l hl
          simp at this ⊢; omega
    · rw [wd_ne hb] at hl
      have := wds_len r _ l hl
      simp at this ⊢; omega
theorem fields_len (x : ByteArray) : ∀ l ∈ fieldsOf x, l.length ≤ x.size + 1 := by
  intro l hl
  have := wds_len _ [] l hl
  rw [List.length_append, toList_size] at this
  simpa using this
def PAPost (x : ByteArray) (w : World) (e : Ending) (w' : World) : Prop :=
  ∃ (a : GAct) (b : Bool), e = .returned (.tuple #[.agg #[.int .i64 a.k, .int .i64 a.a, .int .i64 a.b, .int .i64 a.c, .int .i64 a.d], .bool b]) ∧ Ext w w' ∧ PA x a b
theorem pa_none {x : ByteArray} {w w' : World} (h : ∀ a', spOk x = true → acOk a' = true → fieldsOf x ≠ actW a') (e : Ext w w') :
    PAPost x w (.returned (.tuple #[.agg #[.int .i64 0, .int .i64 0, .int .i64 0, .int .i64 0, .int .i64 0], .bool false])) w' :=
  ⟨⟨0, 0, 0, 0, 0⟩, false, rfl, e, .inr ⟨rfl, rfl, h⟩⟩
/-- The numbers read so far. -/
def NumsOf (fs : List (List UInt8)) (zs : List Int) : Prop := ∀ (j : Nat) (f : List UInt8) (z : Int), zs[j]? = some z → fs[j + 1]? = some f → NumOf f z
theorem nums_snoc {fs : List (List UInt8)} {zs : List Int} {f : List UInt8} {z : Int} (h : NumsOf fs zs) (hf : fs[zs.length + 1]? = some f) (hz : NumOf f z) : NumsOf fs (zs ++ [z]) := by
  intro j g y hy hg
  by_cases hj : j < zs.length
  · rw [List.getElem?_append_left hj] at hy
    exact h j g y hy hg
  · rw [List.getElem?_append_right (by omega)] at hy
    have hj2 : j - zs.length = 0 := by
      cases hjl : j - zs.length with
      | zero => rfl
      | succ q => rw [hjl] at hy; simp at hy
    obtain rfl : j = zs.length := by omega
    rw [hf] at hg
    simp at hy
    injection hg with hg
    subst hg hy
    exact hz
theorem nums_at {fs : List (List UInt8)} {zs : List Int} (h : NumsOf fs zs) (hl : zs.length + 1 = fs.length) (j : Nat) (hj : j < 4) : NumAt fs j ((zs ++ [0, 0, 0, 0]).getD j 0) := by
  by_cases hz : j < zs.length
  · have hf : fs[j + 1]? = some fs[j + 1] := List.getElem?_eq_getElem (by omega)
    refine .inl ⟨_, hf, h j _ _ ?_ hf⟩
    rw [List.getD_eq_getElem?_getD, List.getElem?_append_left hz, List.getElem?_eq_getElem hz]; rfl
  · refine .inr ⟨by omega, ?_⟩
    rw [List.getD_eq_getElem?_getD, List.getElem?_append_right (by omega)]
    have : j - zs.length < 4 := by omega
    match h : j - zs.length, this with
    | 0, _ => rfl
    | 1, _ => rfl
    | 2, _ => rfl
    | 3, _ => rfl
def set5 (W : World) (g : Nat) (u0 u1 u2 u3 u4 : Value) : World := ((((W.setCell ⟨g, 0, none⟩ u0).setCell ⟨g, 1, none⟩ u1).setCell ⟨g, 2, none⟩ u2).setCell ⟨g, 3, none⟩ u3).setCell ⟨g, 4, none⟩ u4
theorem set5_blk {W : World} {g : Nat} {t : TypeId} {v0 v1 v2 v3 v4 : Value} (hB : Blk W g t #[v0, v1, v2, v3, v4]) (u0 u1 u2 u3 u4 : Value) : Blk (set5 W g u0 u1 u2 u3 u4) g t #[u0, u1, u2, u3, u4] :=
  ((((hB.set 0 u0).set 1 u1).set 2 u2).set 3 u3).set 4 u4
theorem set5_ext {w W : World} {g : Nat} (h : Ext w W) (hg : w.heap.size ≤ g) (u0 u1 u2 u3 u4 : Value) : Ext w (set5 W g u0 u1 u2 u3 u4) :=
  ((((h.setCell (p := ⟨g, 0, none⟩) hg u0).setCell (p := ⟨g, 1, none⟩) hg u1).setCell (p := ⟨g, 2, none⟩) hg u2).setCell (p := ⟨g, 3, none⟩) hg u3).setCell (p := ⟨g, 4, none⟩) hg u4
theorem bytes_eq {a b : ByteArray} (h : (a.toList == b.toList) = true) : a = b := by
  have h1 := eq_of_beq h
  rw [Lib.toList_data, Lib.toList_data] at h1
  exact Go.WideShapes.bytes_inj h1
theorem bytes_ne {a b : ByteArray} (h : (a.toList == b.toList) = false) : a ≠ b := by
  rintro rfl
  simp at h
theorem pa_some {x : ByteArray} {w w' : World} (a : GAct) (hs : spOk x = true) (ha : acOk a = true) (he : fieldsOf x = actW a) (e : Ext w w') :
    PAPost x w (.returned (.tuple #[.agg #[.int .i64 a.k, .int .i64 a.a, .int .i64 a.b, .int .i64 a.c, .int .i64 a.d], .bool true])) w' :=
  ⟨a, true, rfl, e, .inl ⟨rfl, hs, ha, he⟩⟩
theorem no_snoc {p : Nat → Prop} {k : Nat} (h : ∀ q, 1 ≤ q → q < k → ¬ p q) (hk : ¬ p k) : ∀ q, 1 ≤ q → q < k + 1 → ¬ p q := by
  intro q h1 h2
  by_cases h3 : q < k
  · exact h q h1 h3
  · obtain rfl : q = k := by omega
    exact hk
theorem ei_N : EI Tryz.prog 27 3 1 := ei_of Tryz.underlying27 (by omega) (by kernel_rfl)
theorem one_intN (k : Int) : ∀ u ∈ [Value.int .i64 k], u.oneCell' = true := by intro u hu; simp at hu; subst hu; rfl
theorem one_iencN (zs : List Int) : ∀ u ∈ zs.flatMap ienc, u.oneCell' = true := by
  intro u hu
  rw [ienc_map] at hu
  obtain ⟨z, _, rfl⟩ := List.mem_map.1 hu
  rfl
theorem mk_size (f : List UInt8) : (⟨f.toArray⟩ : ByteArray).size = f.length := by simp [ByteArray.size]
set_option maxRecDepth 100000 in
set_option maxHeartbeats 4000000 in
theorem spec_ParseAct (x : ByteArray) (w : World) (hx : x.size ≤ 1048576) : Calls Tryz.prog 79 #[.string x] w (PAPost x w) := by
  obtain ⟨wa, hwa⟩ : ∃ wa, wa = w.alloc (.cells #[.int .i64 0, .int .i64 0, .int .i64 0, .int .i64 0, .int .i64 0] 37) := ⟨_, rfl⟩
  have hEa : Ext w wa := by rw [hwa]; exact (Ext.refl w).alloc _
  have hsa : wa.heap.size = w.heap.size + 1 := by rw [hwa]; simp
  have hB : Blk wa w.heap.size 37 #[.int .i64 0, .int .i64 0, .int .i64 0, .int .i64 0, .int .i64 0] := by rw [hwa]; exact Blk.new _ _ _
  have Hwa := Lib.hid hwa
  have HEa := Lib.hid hEa
  have cS := Lib.hid (spec_SplitFields x wa hx)
  clear hwa hEa
  go_enter Tryz.func79, Tryz.ntmps79
  go_wp2_with fail
  rw [← Hwa.out]
  refine cS.out.mono ?_
  rintro e w1 ⟨v, rfl, hb1, hown⟩
  have hB1 := hB.keep hb1
  have hs1 := hb1.size
  have HE1 := Lib.hid (HEa.out.trans hb1)
  have l0 : w.heap.size < w1.heap.size := by omega
  have m0 : w1.heap.size ≠ w.heap.size := by omega
  have c0 : w1.cell? ⟨w.heap.size, 0, none⟩ = some (.int .i64 0) := hB1.cell 0
  have c1 : w1.cell? ⟨w.heap.size, 1, none⟩ = some (.int .i64 0) := hB1.cell 1
  have c2 : w1.cell? ⟨w.heap.size, 2, none⟩ = some (.int .i64 0) := hB1.cell 2
  have c3 : w1.cell? ⟨w.heap.size, 3, none⟩ = some (.int .i64 0) := hB1.cell 3
  have c4 : w1.cell? ⟨w.heap.size, 4, none⟩ = some (.int .i64 0) := hB1.cell 4
  have fz : ∀ o, w1.frozen? ⟨w.heap.size, o, none⟩ = false := fun o => hB1.free o
  clear hb1 hB
  cases hok : spOk x
  case false =>
    have HN : Hid (∀ a', spOk x = true → acOk a' = true → fieldsOf x ≠ actW a') := fun a' h _ => by rw [hok] at h; cases h
    clear hown hok
    go_wp2_with fail
    obtain ⟨WF, hWF⟩ : ∃ WF, WF = set5 w1 w.heap.size (.int .i64 0) (.int .i64 0) (.int .i64 0) (.int .i64 0) (.int .i64 0) := ⟨_, rfl⟩
    have FB := set5_blk hB1 (.int .i64 0) (.int .i64 0) (.int .i64 0) (.int .i64 0) (.int .i64 0)
    have FE := set5_ext HE1.out (Nat.le_refl _) (.int .i64 0) (.int .i64 0) (.int .i64 0) (.int .i64 0) (.int .i64 0)
    rw [← hWF] at FB FE
    unfold set5 at hWF
    rw [← hWF]
    clear hWF
    have y0 := FB.cell 0
    have y1 := FB.cell 1
    have y2 := FB.cell 2
    have y3 := FB.cell 3
    have y4 := FB.cell 4
    refine bodyPost_ret (v := .tuple #[.agg #[.int .i64 0, .int .i64 0, .int .i64 0, .int .i64 0, .int .i64 0], .bool false]) (by simp [results, Tryz.results79, go_sem, y0, y1, y2, y3, y4]) rfl (pa_none HN.out FE)
  case true =>
    replace hown := hown hok
    have hfl := fields_len x
    have hfg := fields_good x
    have hx6 : x.size ≤ 600 := by
      unfold spOk at hok; simp at hok; exact hok.1.1
    obtain ⟨fs, hfs⟩ : ∃ fs, fs = fieldsOf x := ⟨_, rfl⟩
    have Hfs := Lib.hid hfs
    have HOK := Lib.hid hok
    rw [← hfs] at hown hfl hfg
    have Hfg := Lib.hid hfg
    have Hfl := Lib.hid hfl
    clear hfs hok hfl hfg
    obtain ⟨A, c', rfl, hnc⟩ := own_form hown
    have HOW := Lib.hid hown
    clear hown
    by_cases hm : 1 ≤ fs.length ∧ fs.length ≤ 5
    case neg =>
      have HN : Hid (∀ a', spOk x = true → acOk a' = true → fieldsOf x ≠ actW a') := fun a' _ _ h => by
        have := actW_len a'
        rw [← h, ← Hfs.out] at this
        exact hm this
      have hin : inB (fs.length : Int) 1 5 = false := by
        rw [Bool.eq_false_iff]; intro h; simp [inB] at h; omega
      clear hm
      go_wp2_with (go_at_call 66; refine (spec_l01In _ _ _ _).mono ?_; rintro e w2 ⟨rfl, rfl⟩; rw [hin])
      obtain ⟨WF, hWF⟩ : ∃ WF, WF = set5 w1 w.heap.size (.int .i64 0) (.int .i64 0) (.int .i64 0) (.int .i64 0) (.int .i64 0) := ⟨_, rfl⟩
      have FB := set5_blk hB1 (.int .i64 0) (.int .i64 0) (.int .i64 0) (.int .i64 0) (.int .i64 0)
      have FE := set5_ext HE1.out (Nat.le_refl _) (.int .i64 0) (.int .i64 0) (.int .i64 0) (.int .i64 0) (.int .i64 0)
      rw [← hWF] at FB FE
      unfold set5 at hWF
      rw [← hWF]
      clear hWF
      have y0 := FB.cell 0
      have y1 := FB.cell 1
      have y2 := FB.cell 2
      have y3 := FB.cell 3
      have y4 := FB.cell 4
      refine bodyPost_ret (v := .tuple #[.agg #[.int .i64 0, .int .i64 0, .int .i64 0, .int .i64 0, .int .i64 0], .bool false]) (by simp [results, Tryz.results79, go_sem, y0, y1, y2, y3, y4]) rfl (pa_none HN.out FE)
    case pos =>
    obtain ⟨hm1, hm5⟩ := hm
    have hin : inB (fs.length : Int) 1 5 = true := by simp [inB]; omega
    obtain ⟨-, -, hr⟩ := Rd.of_own HOW.out
    obtain ⟨g, o, rfl, hg, hcell⟩ := hr (by omega)
    have Hcell := Lib.hid hcell
    clear hr hcell
    obtain ⟨f0, hf0⟩ : ∃ f0, fs[0]? = some f0 := ⟨fs[0], List.getElem?_eq_getElem (by omega)⟩
    have HF0 := Lib.hid hf0
    have q0 : w1.cell? ⟨g, o, none⟩ = some (.string ⟨f0.toArray⟩) := Hcell.out 0 _ (by rw [sval, List.getElem?_map, HF0.out]; rfl)
    clear hf0
    have hgw : w1.heap.size ≠ g := by omega
    go_wp2_with (go_at_call 66; refine (spec_l01In _ _ _ _).mono ?_; rintro e w2 ⟨rfl, rfl⟩; rw [hin])
    obtain ⟨wo, hwo⟩ : ∃ wo, wo = w1.alloc (.cells #[] 3) := ⟨_, rfl⟩
    rw [← hwo]
    have hEo : Ext w1 wo := by rw [hwo]; exact (Ext.refl w1).alloc _
    have Ho0 : Hid (wo.ownsRow w1.heap.size 3 1 (.slice (some ⟨w1.heap.size, 0, none⟩) 0 0) 0 []) := by rw [hwo]; exact own_empty w1 w1.heap.size 3 1 (Nat.le_refl _)
    have HEo := Lib.hid hEo
    have hso := hEo.size
    clear hwo hEo
    have hf0l := Hfl.out f0 (List.mem_of_getElem? HF0.out)
    go_loopw [6, 7, 8] (fun t v i wr => ∃ (k : Nat) (T : ByteArray) (zs : List Int), 1 ≤ k ∧ k ≤ fs.length ∧ i = .int .i64 k ∧ t = .string T ∧ T.size ≤ 700 * k ∧ zs.length + 1 = k ∧ Hid (wr.ownsRow w1.heap.size 3 1 v zs.length (zs.flatMap ienc)) ∧ Hid (T = jb (fs.take k)) ∧ Hid (NumsOf fs zs) ∧ Ext w1 wr) (fun _ _ i _ => fs.length - (intOf i).toNat)
    case atStart =>
      refine ⟨1, ⟨f0.toArray⟩, [], Nat.le_refl _, hm1, rfl, rfl, by rw [mk_size]; omega, rfl, Ho0, ?_, Lib.hid (fun j f z hz => by simp at hz), HEo.out⟩
      unfold Hid jb
      rw [List.take_add_one, HF0.out]
      simp [Lib.join_one]
    case round =>
      obtain ⟨k, T, zs, hk1, hkm, rfl, rfl, hT, hzl, hown, hJ, hN, hb⟩ := hrel
      have HB1 := Lib.hid hb
      have hsw := hb.size
      clear hb
      by_cases hlt : k < fs.length
      · obtain ⟨f, hf⟩ : ∃ f, fs[k]? = some f := ⟨fs[k], List.getElem?_eq_getElem hlt⟩
        have hfl := Hfl.out f (List.mem_of_getElem? hf)
        have q1 : wr.cell? ⟨g, o + k, none⟩ = some (.string ⟨f.toArray⟩) := (HB1.out.cellAt g hg (o + k)).trans (Hcell.out k _ (by rw [sval, List.getElem?_map, hf]; rfl))
        have HJ : Hid (T ++ sp1 ++ ⟨f.toArray⟩ = jb (fs.take (k + 1))) := by
          unfold Hid
          rw [hJ.out, List.take_add_one, hf, Option.toList_some, jb_snoc]
          intro h
          have := congrArg List.length h
          rw [List.length_take, List.length_nil] at this
          omega
        have HF := Lib.hid hf
        have hNs := Lib.hid (fun (z : Int) (hz : NumOf f z) => nums_snoc hN.out (by rw [show zs.length + 1 = k from hzl]; exact hf) hz)
        obtain ⟨F, hF⟩ : ∃ F : ByteArray, F = ⟨f.toArray⟩ := ⟨_, rfl⟩
        have hFs : F.size ≤ 601 := by rw [hF, mk_size]; omega
        have HFF := Lib.hid hF
        rw [← hF] at q1 HJ
        clear hf hF
        have cN := Lib.hid (spec_l40Number F wr (by omega))
        have hgr : wr.heap.size ≠ g := by omega
        have hts : (T ++ sp1 ++ F).size ≤ 700 * (k + 1) := by
          rw [ByteArray.size_append, ByteArray.size_append]
          have : sp1.size = 1 := rfl
          omega
        have hkl : zs.length ≤ 5 := by omega
        go_wp2_with (first
          | (go_at_call 114; refine cN.out.mono ?_; rintro e w2 ⟨z, rfl, hb2, hz⟩; have HB2 := Lib.hid hb2; have hs2 := hb2.size; have HZ := Lib.hid hz; clear hb2 hz)
          | (at_builtin; refine append1 ei_N rfl _ _ rfl w1.heap.size w2 _ _ zs.length _ (by rfl) (own_keep hown.out HB2.out) [.int .i64 z] (by rfl) rfl (one_intN _) (by omega) (by omega) ?_; intro v' w3 ho3 he3; have HO3 := Lib.hid ho3; have HE3 := Lib.hid (he3 w1 (HB1.out.trans HB2.out) (Nat.le_refl _)); have HE4 := Lib.hid he3; clear ho3 he3))
        go_roundw
        case rel => exact ⟨k + 1, T ++ sp1 ++ F, zs ++ [z], by omega, by omega, by go_num, by first | rfl | (rw [ByteArray.append_assoc]; rfl), hts, by simp; omega, by (unfold Hid; rw [List.length_append, List.flatMap_append]; exact HO3.out), HJ, hNs.out z (fun i hi he => HZ.out i hi (by rw [HFF.out]; exact he)), HE3.out⟩
        case measure => simp [intOf] <;> omega
      · obtain rfl : k = fs.length := by omega
        have hJf : T = jb fs := by rw [hJ.out, List.take_of_length_le (Nat.le_refl _)]
        have HJf := Lib.hid hJf
        clear hJf
        have hz4 : zs.length ≤ 4 := by omega
        obtain ⟨Az, cz, rfl, hcz⟩ := own_form hown.out
        have hEl : Ext w1 (wr.alloc (.cells (([0, 0, 0, 0] : List Int).map (Value.int .i64)).toArray 3)) := HB1.out.alloc _
        have HEl := Lib.hid hEl
        clear hEl
        go_wp2_with (at_builtin; refine appendRd ei_N rfl _ _ rfl w1.heap.size (wr.alloc (.cells (([0, 0, 0, 0] : List Int).map (Value.int .i64)).toArray 3)) _ zs.length _ (by rfl) (hown.out.alloc _) (some ⟨wr.heap.size, 0, none⟩) 4 4 (([0, 0, 0, 0] : List Int).flatMap ienc) (by rfl) (rd_lit wr 3 [0, 0, 0, 0] (by simp)) (fun h => by cases h) (one_iencN _) (by omega) (by simp; omega) ?_; intro v' w3 ho3 he3; have HO3 := Lib.hid ho3; have HE3 := Lib.hid (he3 w1 HEl.out (Nat.le_refl _)); clear ho3 he3)
        have hO3 : w3.ownsRow w1.heap.size 3 1 v' (zs.length + 4) ((zs ++ [0, 0, 0, 0]).flatMap ienc) := by rw [List.flatMap_append]; exact HO3.out
        obtain ⟨N, hNN, hN4⟩ : ∃ N, N = zs.length + 4 ∧ 4 ≤ N := ⟨_, rfl, by omega⟩
        rw [← hNN] at hO3
        clear hNN
        obtain ⟨Av, cv, rfl, hcv⟩ := own_form hO3
        obtain ⟨-, -, hr3⟩ := Rd.of_own hO3
        obtain ⟨g3, o3, rfl, hg3, hc3⟩ := hr3 (by omega)
        have hc4 : ∀ j, j < 4 → w3.cell? ⟨g3, o3 + j, none⟩ = some (.int .i64 ((zs ++ [0, 0, 0, 0]).getD j 0)) := fun j hj => hc3 j _ (by
          rw [ienc_map, List.getElem?_map, List.getD_eq_getElem?_getD, List.getElem?_eq_getElem (by simp; omega)]; rfl)
        have A0 := nums_at hN.out hzl 0 (by omega)
        have r0 := hc4 0 (by omega)
        obtain ⟨n0, hn0⟩ : ∃ n, n = (zs ++ [0, 0, 0, 0]).getD 0 0 := ⟨_, rfl⟩
        rw [← hn0] at A0 r0
        have A1 := nums_at hN.out hzl 1 (by omega)
        have r1 := hc4 1 (by omega)
        obtain ⟨n1, hn1⟩ : ∃ n, n = (zs ++ [0, 0, 0, 0]).getD 1 0 := ⟨_, rfl⟩
        rw [← hn1] at A1 r1
        have A2 := nums_at hN.out hzl 2 (by omega)
        have r2 := hc4 2 (by omega)
        obtain ⟨n2, hn2⟩ : ∃ n, n = (zs ++ [0, 0, 0, 0]).getD 2 0 := ⟨_, rfl⟩
        rw [← hn2] at A2 r2
        have A3 := nums_at hN.out hzl 3 (by omega)
        have r3 := hc4 3 (by omega)
        obtain ⟨n3, hn3⟩ : ∃ n, n = (zs ++ [0, 0, 0, 0]).getD 3 0 := ⟨_, rfl⟩
        rw [← hn3] at A3 r3
        rw [Nat.add_zero] at r0
        have HA := Lib.hid (fun (a' : GAct) (ha : acOk a' = true) (he : fs = actW a') => act_nums ha he A0 A1 A2 A3)
        have HR := Lib.hid (And.intro r0 (And.intro r1 (And.intro r2 r3)))
        have hs3 := HE3.out.size
        clear hc3 hc4 hr3 hO3 A0 A1 A2 A3 hn0 hn1 hn2 hn3 r0 r1 r2 r3
        go_loopw [9] (fun i wr => ∃ k : Nat, 1 ≤ k ∧ k ≤ 6 ∧ i = .int .i64 k ∧ Hid (∀ q : Nat, 1 ≤ q → q < k → ¬ (acOk ⟨q, n0, n1, n2, n3⟩ = true ∧ fs = actW ⟨q, n0, n1, n2, n3⟩)) ∧ Ext w3 wr) (fun i _ => 6 - (intOf i).toNat)
        case atStart => exact ⟨1, Nat.le_refl _, by omega, rfl, Lib.hid (fun q h1 h2 => absurd h2 (by omega)), Ext.refl _⟩
        case round =>
          obtain ⟨k, hk1, hk6, rfl, hno, hb⟩ := hrel
          have hBr := hB1.keep (HE3.out.trans hb)
          have HBR := Lib.hid hBr
          have HEr := Lib.hid (HE1.out.trans (HE3.out.trans hb))
          have HEb := Lib.hid hb
          have hsr := hb.size
          have lr : w.heap.size < wr.heap.size := by omega
          have mr : wr.heap.size ≠ w.heap.size := by omega
          by_cases hle : k ≤ 5
          case neg =>
            have d0 : wr.cell? ⟨w.heap.size, 0, none⟩ = some (.int .i64 0) := hBr.cell 0
            have d1 : wr.cell? ⟨w.heap.size, 1, none⟩ = some (.int .i64 0) := hBr.cell 1
            have d2 : wr.cell? ⟨w.heap.size, 2, none⟩ = some (.int .i64 0) := hBr.cell 2
            have d3 : wr.cell? ⟨w.heap.size, 3, none⟩ = some (.int .i64 0) := hBr.cell 3
            have d4 : wr.cell? ⟨w.heap.size, 4, none⟩ = some (.int .i64 0) := hBr.cell 4
            have dz : ∀ o, wr.frozen? ⟨w.heap.size, o, none⟩ = false := fun o => hBr.free o
            have HN : Hid (∀ a', spOk x = true → acOk a' = true → fieldsOf x ≠ actW a') := fun a' _ ha he => by
              have he' : fs = actW a' := Hfs.out.trans he
              have h1 := HA.out a' ha he'
              have h2 := (ac_cases ha).1
              rcases h2 with h2 | h2 | h2 | h2 | h2
              · exact hno.out 1 (by omega) (by omega) (by rw [h2] at h1; rw [h1] at ha he'; exact ⟨ha, he'⟩)
              · exact hno.out 2 (by omega) (by omega) (by rw [h2] at h1; rw [h1] at ha he'; exact ⟨ha, he'⟩)
              · exact hno.out 3 (by omega) (by omega) (by rw [h2] at h1; rw [h1] at ha he'; exact ⟨ha, he'⟩)
              · exact hno.out 4 (by omega) (by omega) (by rw [h2] at h1; rw [h1] at ha he'; exact ⟨ha, he'⟩)
              · exact hno.out 5 (by omega) (by omega) (by rw [h2] at h1; rw [h1] at ha he'; exact ⟨ha, he'⟩)
            clear hb hBr
            go_wp2_with fail
            obtain ⟨WF, hWF⟩ : ∃ WF, WF = set5 wr w.heap.size (.int .i64 0) (.int .i64 0) (.int .i64 0) (.int .i64 0) (.int .i64 0) := ⟨_, rfl⟩
            have FB := set5_blk HBR.out (.int .i64 0) (.int .i64 0) (.int .i64 0) (.int .i64 0) (.int .i64 0)
            have FE := set5_ext HEr.out (Nat.le_refl _) (.int .i64 0) (.int .i64 0) (.int .i64 0) (.int .i64 0) (.int .i64 0)
            rw [← hWF] at FB FE
            unfold set5 at hWF
            rw [← hWF]
            clear hWF
            have y0 := FB.cell 0
            have y1 := FB.cell 1
            have y2 := FB.cell 2
            have y3 := FB.cell 3
            have y4 := FB.cell 4
            refine bodyPost_ret (v := .tuple #[.agg #[.int .i64 0, .int .i64 0, .int .i64 0, .int .i64 0, .int .i64 0], .bool false]) (by simp [results, Tryz.results79, go_sem, y0, y1, y2, y3, y4]) rfl (pa_none HN.out FE)
          case pos =>
            have s0 := (hb.cellAt g3 hg3 o3).trans HR.out.1
            have s1 := (hb.cellAt g3 hg3 (o3 + 1)).trans HR.out.2.1
            have s2 := (hb.cellAt g3 hg3 (o3 + 2)).trans HR.out.2.2.1
            have s3 := (hb.cellAt g3 hg3 (o3 + 3)).trans HR.out.2.2.2
            have hg3r : g3 < wr.heap.size := by omega
            clear hb hBr
            have i0 : (0 : Int) < N := by omega
            have i1 : (1 : Int) < N := by omega
            have i2 : (2 : Int) < N := by omega
            have i3 : (3 : Int) < N := by omega
            have j0 : 0 < N := by omega
            have j1 : 1 < N := by omega
            have j2 : 2 < N := by omega
            have j3 : 3 < N := by omega
            have e1 : (1 : Int) ≤ N := by omega
            go_wp2_with fail
            have mg3 : wr.heap.size ≠ g3 := by omega
            go_region
            obtain ⟨W4, hW4⟩ : ∃ W4, W4 = (wr.alloc (.cells #[.int .i64 (k : Int), .int .i64 n0, .int .i64 n1, .int .i64 n2, .int .i64 n3] 37)).drew := ⟨_, rfl⟩
            have hE4 : Ext wr W4 := by rw [hW4]; exact ((Ext.refl wr).alloc _).drew
            have hB4 : Blk W4 wr.heap.size 37 #[.int .i64 (k : Int), .int .i64 n0, .int .i64 n1, .int .i64 n2, .int .i64 n3] := by rw [hW4]; exact (Blk.new _ _ _).drew
            rw [← hW4]
            clear hW4 s0 s1 s2 s3
            have b0 : W4.cell? ⟨wr.heap.size, 0, none⟩ = some (.int .i64 (k : Int)) := hB4.cell 0
            have b1 : W4.cell? ⟨wr.heap.size, 1, none⟩ = some (.int .i64 n0) := hB4.cell 1
            have b2 : W4.cell? ⟨wr.heap.size, 2, none⟩ = some (.int .i64 n1) := hB4.cell 2
            have b3 : W4.cell? ⟨wr.heap.size, 3, none⟩ = some (.int .i64 n2) := hB4.cell 3
            have b4 : W4.cell? ⟨wr.heap.size, 4, none⟩ = some (.int .i64 n3) := hB4.cell 4
            have cF := Lib.hid (spec_FormatAct (⟨(k : Int), n0, n1, n2, n3⟩ : GAct) W4)
            have HE4 := Lib.hid hE4
            have HB4 := Lib.hid hB4
            clear hE4 hB4
            have step : ∀ (w5 : World), Ext W4 w5 → ¬ (acOk (⟨(k : Int), n0, n1, n2, n3⟩ : GAct) = true ∧ fs = actW (⟨(k : Int), n0, n1, n2, n3⟩ : GAct)) → Hid (∀ q : Nat, 1 ≤ q → q < k + 1 → ¬ (acOk ⟨(q : Int), n0, n1, n2, n3⟩ = true ∧ fs = actW ⟨(q : Int), n0, n1, n2, n3⟩)) ∧ Hid (Ext w3 w5) := fun w5 e hk =>
              ⟨no_snoc (p := fun q : Nat => acOk ⟨(q : Int), n0, n1, n2, n3⟩ = true ∧ fs = actW ⟨(q : Int), n0, n1, n2, n3⟩) hno.out hk, HEb.out.trans (HE4.out.trans e)⟩
            have HS := Lib.hid step
            clear step
            cases hok2 : acOk (⟨(k : Int), n0, n1, n2, n3⟩ : GAct)
            case false =>
              rw [hok2] at cF
              have hbad : Hid (¬ (acOk (⟨(k : Int), n0, n1, n2, n3⟩ : GAct) = true ∧ fs = actW (⟨(k : Int), n0, n1, n2, n3⟩ : GAct))) := fun h => by rw [hok2] at h; cases h.1
              clear hok2
              go_wp2_with (go_at_call 115; refine cF.out.mono ?_; rintro e w5 ⟨rfl, hb5⟩; have HB5 := Lib.hid hb5; clear hb5)
              go_roundw
              case rel => exact ⟨k + 1, by omega, by omega, by go_num, (HS.out _ HB5.out hbad.out).1, (HS.out _ HB5.out hbad.out).2.out⟩
              case measure => simp [intOf] <;> omega
            case true =>
              rw [hok2] at cF
              obtain ⟨T2, hT2⟩ : ∃ T2, T2 = actT (⟨(k : Int), n0, n1, n2, n3⟩ : GAct) := ⟨_, rfl⟩
              rw [← hT2] at cF
              have HT2 := Lib.hid hT2
              have HO2 := Lib.hid hok2
              clear hT2 hok2
              cases hq : (T2.toList == T.toList)
              case false =>
                have hbad : Hid (¬ (acOk (⟨(k : Int), n0, n1, n2, n3⟩ : GAct) = true ∧ fs = actW (⟨(k : Int), n0, n1, n2, n3⟩ : GAct))) := fun h => bytes_ne hq (by rw [HT2.out, actT_jb HO2.out, HJf.out, ← h.2])
                go_wp2_with (go_at_call 115; refine cF.out.mono ?_; rintro e w5 ⟨rfl, hb5⟩; have HB5 := Lib.hid hb5; clear hb5)
                go_roundw
                case rel => exact ⟨k + 1, by omega, by omega, by go_num, (HS.out _ HB5.out hbad.out).1, (HS.out _ HB5.out hbad.out).2.out⟩
                case measure => simp [intOf] <;> omega
              case true =>
                have hfin : Hid (fieldsOf x = actW (⟨(k : Int), n0, n1, n2, n3⟩ : GAct)) := by
                  unfold Hid
                  rw [← Hfs.out]
                  exact act_words HO2.out Hfg.out (fun h => by rw [h] at hm1; simp at hm1) (by rw [← HT2.out, bytes_eq hq, HJf.out])
                go_wp2_with (go_at_call 115; refine cF.out.mono ?_; rintro e w5 ⟨rfl, hb5⟩; have HB5 := Lib.hid hb5; have z5 := hb5.size; have x0 := (hb5.cellAt wr.heap.size HB4.out.lt 0).trans b0; have x1 := (hb5.cellAt wr.heap.size HB4.out.lt 1).trans b1; have x2 := (hb5.cellAt wr.heap.size HB4.out.lt 2).trans b2; have x3 := (hb5.cellAt wr.heap.size HB4.out.lt 3).trans b3; have x4 := (hb5.cellAt wr.heap.size HB4.out.lt 4).trans b4; have D5 := Lib.hid (HBR.out.keep (HE4.out.trans hb5)); have d0 := D5.out.cell 0; have d1 := D5.out.cell 1; have d2 := D5.out.cell 2; have d3 := D5.out.cell 3; have d4 := D5.out.cell 4; have dz : ∀ o, w5.frozen? ⟨w.heap.size, o, none⟩ = false := fun o => D5.out.free o; clear hb5)
                obtain ⟨WF, hWF⟩ : ∃ WF, WF = set5 w5 w.heap.size (.int .i64 (k : Int)) (.int .i64 n0) (.int .i64 n1) (.int .i64 n2) (.int .i64 n3) := ⟨_, rfl⟩
                have FB := set5_blk D5.out (.int .i64 (k : Int)) (.int .i64 n0) (.int .i64 n1) (.int .i64 n2) (.int .i64 n3)
                have FE := set5_ext (HEr.out.trans (HE4.out.trans HB5.out)) (Nat.le_refl _) (.int .i64 (k : Int)) (.int .i64 n0) (.int .i64 n1) (.int .i64 n2) (.int .i64 n3)
                rw [← hWF] at FB FE
                unfold set5 at hWF
                rw [← hWF]
                clear hWF
                have y0 := FB.cell 0
                have y1 := FB.cell 1
                have y2 := FB.cell 2
                have y3 := FB.cell 3
                have y4 := FB.cell 4
                refine bodyPost_ret (v := .tuple #[.agg #[.int .i64 (k : Int), .int .i64 n0, .int .i64 n1, .int .i64 n2, .int .i64 n3], .bool true]) (by simp [results, Tryz.results79, go_sem, y0, y1, y2, y3, y4]) rfl (pa_some (⟨(k : Int), n0, n1, n2, n3⟩ : GAct) HOK.out HO2.out hfin.out FE)
end Go.Proofs.YtfmifllcbbfpoaaGreatDoor
/- The words of a text as strings, rows of four numbers, the tail of a row; no condition but what stands at each theorem. -/
namespace Go.Proofs.YtfmifllcbbfpoaaGreatDoor
set_option linter.unusedSimpArgs false
set_option linter.unusedVariables false
open Go.RowKit Go.Sort
theorem mk_intP (n : Nat) (hn : n ≤ 1048576) (w : World) : (Instr.makeSlice 27 (.int .i64 (n : Int)) (.int .i64 (n : Int))).run Tryz.prog w = .ok (.slice (some ⟨w.heap.size, 0, none⟩) n n) (w.alloc (.cells ((List.replicate n (0 : Int)).map (Value.int .i64)).toArray 3)) := by
  have hin : (Tryz.prog.info? 3).map (fun i => (i.zero.map (·.cells.size), i.size, decide (i.bytes ≤ 4096))) = some (some 1, 1, true) := by kernel_rfl
  cases hi : Tryz.prog.info? 3 with
  | none => rw [hi] at hin; cases hin
  | some i =>
  have hz : i.zero = some (.int .i64 0) := by
    have h : (Tryz.prog.info? 3).map (fun i => i.zero) = some (some (.int .i64 0)) := by kernel_rfl
    rw [hi] at h; simpa using h
  rw [hi] at hin
  simp only [Option.map_some, Option.some.injEq, Prod.mk.injEq, decide_eq_true_eq] at hin
  obtain ⟨-, hsz, hby⟩ := hin
  have h := make_row (P := Tryz.prog) 27 3 i _ Tryz.underlying27 hi hz n (by have := Nat.mul_le_mul hby hn; omega) (by omega) w
  rw [hsz, made_ints] at h
  exact h
theorem mk4P (w : World) : (Instr.makeSlice 27 (.int .i64 4) (.int .i64 4)).run Tryz.prog w = .ok (.slice (some ⟨w.heap.size, 0, none⟩) 4 4) (w.alloc (.cells #[.int .i64 0, .int .i64 0, .int .i64 0, .int .i64 0] 3)) := mk_intP 4 (by omega) w
set_option maxRecDepth 100000 in
set_option maxHeartbeats 400000 in
theorem tail_of (g o m c' : Nat) (hc : m + 1 ≤ c') : ∃ (A28 : Option Addr) (c28 : Nat), (0 < m → A28 = some ⟨g, o + 1, none⟩) ∧ ∀ W, (Instr.slice 62 (.slice (some ⟨g, o, none⟩) (m + 1) c') (some (.int .i64 1)) none none).run Tryz.prog W = .ok (.slice A28 m c28) W := by
  have hz : ∀ W, (sizeOf (Tryz.prog.elem 62)).run Tryz.prog W = .ok 1 W := fun W => by kernel_rfl
  by_cases hc1 : c' = 1
  · subst hc1
    obtain rfl : m = 0 := by omega
    refine ⟨some ⟨g, o, none⟩, 0, fun h => absurd h (by omega), fun W => ?_⟩
    rw [run_slice_l (ht := Tryz.underlying62) (h0 := by omega) (h1 := by omega), hz]
    rfl
  · refine ⟨some ⟨g, o + 1, none⟩, c' - 1, fun _ => rfl, fun W => ?_⟩
    rw [run_slice_l (ht := Tryz.underlying62) (h0 := by omega) (h1 := by omega), hz]
    have : c' - 1 ≠ 0 := by omega
    simp [sliced, Result.andThen, Addr.add, hc1]
/-- The words as strings. -/
def bas (fs : List (List UInt8)) : List ByteArray := fs.map fun l => ⟨l.toArray⟩
theorem bas_len (fs : List (List UInt8)) : (bas fs).length = fs.length := by simp [bas]
theorem bas_data (fs : List (List UInt8)) : (bas fs).map (·.data.toList) = fs := by
  unfold bas
  rw [List.map_map]
  conv => rhs; rw [← List.map_id fs]
  exact List.map_congr_left (fun l _ => by simp)
theorem bas_at {fs : List (List UInt8)} {j : Nat} {x : ByteArray} (h : (bas fs)[j]? = some x) : (sval fs)[j]? = some (.string x) := by
  unfold bas at h
  rw [List.getElem?_map] at h
  rw [sval, List.getElem?_map]
  cases hf : fs[j]? with
  | none => rw [hf] at h; cases h
  | some l => rw [hf] at h; simp at h; subst h; rfl
theorem tail_len (n : Nat) : ∀ (fs : List (List UInt8)), (∀ l ∈ fs, l.length ≤ n) → (Lib.joinTail [32] fs).length ≤ fs.length * (n + 1)
  | [], _ => by simp [Lib.joinTail]
  | f :: r, h => by
    have h1 := tail_len n r (fun l hl => h l (List.mem_cons_of_mem _ hl))
    have h2 := h f (List.mem_cons_self ..)
    rw [show Lib.joinTail [32] (f :: r) = 32 :: (f ++ Lib.joinTail [32] r) by simp [Lib.joinTail], List.length_cons, List.length_append, List.length_cons, Nat.add_mul, Nat.one_mul]
    omega
theorem jb_len {n : Nat} (fs : List (List UInt8)) (h : ∀ l ∈ fs, l.length ≤ n) : (Lib.join fs [32]).length ≤ fs.length * (n + 1) := by
  cases fs with
  | nil => simp [Lib.join]
  | cons f r =>
    have h1 := tail_len n r (fun l hl => h l (List.mem_cons_of_mem _ hl))
    have h2 := h f (List.mem_cons_self ..)
    rw [Lib.join_cons, List.length_append, List.length_cons, Nat.add_mul]
    omega
end Go.Proofs.YtfmifllcbbfpoaaGreatDoor
/- ParseMove of both sides; no condition but what stands at each theorem. -/
namespace Go.Proofs.YtfmifllcbbfpoaaGreatDoor
set_option linter.unusedSimpArgs false
set_option linter.unusedVariables false
open Go.RowKit Go.Sort
def PMPost (x : ByteArray) (w : World) (e : Ending) (w' : World) : Prop :=
  ∃ (m : GMove) (b : Bool), e = .returned (.tuple #[.agg #[.int .i64 m.o, .int .i64 m.t, .int .i64 m.f, .int .i64 m.s], .bool b]) ∧ Ext w w' ∧ PM x m b
theorem pm_none {x : ByteArray} {w w' : World} (h : ∀ m', mvB m' = true → x ≠ moveT m') (e : Ext w w') :
    PMPost x w (.returned (.tuple #[.agg #[.int .i64 0, .int .i64 0, .int .i64 0, .int .i64 0], .bool false])) w' :=
  ⟨⟨0, 0, 0, 0⟩, false, rfl, e, .inr ⟨rfl, rfl, h⟩⟩
theorem pm_some {x : ByteArray} {w w' : World} (m : GMove) (hm : mvB m = true) (hx : x = moveT m) (e : Ext w w') :
    PMPost x w (.returned (.tuple #[.agg #[.int .i64 m.o, .int .i64 m.t, .int .i64 m.f, .int .i64 m.s], .bool true])) w' :=
  ⟨m, true, rfl, e, .inl ⟨rfl, hm, hx⟩⟩
def set4 (W : World) (g : Nat) (u0 u1 u2 u3 : Value) : World := (((W.setCell ⟨g, 0, none⟩ u0).setCell ⟨g, 1, none⟩ u1).setCell ⟨g, 2, none⟩ u2).setCell ⟨g, 3, none⟩ u3
theorem set4_blk {W : World} {g : Nat} {t : TypeId} {v0 v1 v2 v3 : Value} (hB : Blk W g t #[v0, v1, v2, v3]) (u0 u1 u2 u3 : Value) : Blk (set4 W g u0 u1 u2 u3) g t #[u0, u1, u2, u3] :=
  (((hB.set 0 u0).set 1 u1).set 2 u2).set 3 u3
theorem set4_ext {w W : World} {g : Nat} (h : Ext w W) (hg : w.heap.size ≤ g) (u0 u1 u2 u3 : Value) : Ext w (set4 W g u0 u1 u2 u3) :=
  (((h.setCell (p := ⟨g, 0, none⟩) hg u0).setCell (p := ⟨g, 1, none⟩) hg u1).setCell (p := ⟨g, 2, none⟩) hg u2).setCell (p := ⟨g, 3, none⟩) hg u3
theorem nums_get {fs : List (List UInt8)} {zs : List Int} (h : NumsOf fs zs) {j : Nat} (hj : j < zs.length) : ∀ f, fs[j + 1]? = some f → NumOf f (zs.getD j 0) := fun f hf =>
  h j f _ (by rw [List.getD_eq_getElem?_getD, List.getElem?_eq_getElem hj]; rfl) hf
theorem mv_len {x : ByteArray} (h : (fieldsOf x).length ≠ 5) : ∀ m', mvB m' = true → x ≠ moveT m' := by
  rintro m' hm rfl
  rw [mv_fields hm] at h
  exact h rfl
/-- The end of ParseMove: the numbers of the words, the text compared. -/
theorem mv_end {x : ByteArray} {fs : List (List UInt8)} {n0 n1 n2 n3 : Int} (hx : x ≠ ByteArray.empty) (hw : ∀ m', mvB m' = true → x = moveT m' → fs = mvW m') (h0 : ∀ f, fs[1]? = some f → NumOf f n0) (h1 : ∀ f, fs[2]? = some f → NumOf f n1) (h2 : ∀ f, fs[3]? = some f → NumOf f n2) (h3 : ∀ f, fs[4]? = some f → NumOf f n3) :
    (((moveT ⟨n0, n1, n2, n3⟩).toList == x.toList) = true → mvB ⟨n0, n1, n2, n3⟩ = true ∧ x = moveT ⟨n0, n1, n2, n3⟩) ∧ (((moveT ⟨n0, n1, n2, n3⟩).toList == x.toList) = false → ∀ m', mvB m' = true → x ≠ moveT m') := by
  refine ⟨fun h => ?_, fun h m' hm e => ?_⟩
  · have e := bytes_eq h
    refine ⟨?_, e.symm⟩
    cases hb : mvB ⟨n0, n1, n2, n3⟩
    · rw [moveT_bad hb] at e
      exact absurd e.symm hx
    · rfl
  · have := mv_nums hm (hw m' hm e) h0 h1 h2 h3
    subst this
    exact bytes_ne h e.symm
theorem fields_nil : fieldsOf ByteArray.empty = [] := rfl
set_option maxRecDepth 100000 in
set_option maxHeartbeats 4000000 in
theorem spec_ParseMove (x : ByteArray) (w : World) (hx : x.size ≤ 1048576) : Calls Tryz.prog 94 #[.string x] w (PMPost x w) := by
  obtain ⟨wa, hwa⟩ : ∃ wa, wa = w.alloc (.cells #[.int .i64 0, .int .i64 0, .int .i64 0, .int .i64 0] 46) := ⟨_, rfl⟩
  have hEa : Ext w wa := by rw [hwa]; exact (Ext.refl w).alloc _
  have hsa : wa.heap.size = w.heap.size + 1 := by rw [hwa]; simp
  have hB : Blk wa w.heap.size 46 #[.int .i64 0, .int .i64 0, .int .i64 0, .int .i64 0] := by rw [hwa]; exact Blk.new _ _ _
  have Hwa := Lib.hid hwa
  have HEa := Lib.hid hEa
  have cS := Lib.hid (spec_SplitFields x wa hx)
  clear hwa hEa
  go_enter Tryz.func94, Tryz.ntmps94
  go_wp2_with fail
  rw [← Hwa.out]
  refine cS.out.mono ?_
  rintro e w1 ⟨v, rfl, hb1, hown⟩
  have hB1 := hB.keep hb1
  have hs1 := hb1.size
  have HE1 := Lib.hid (HEa.out.trans hb1)
  have l0 : w.heap.size < w1.heap.size := by omega
  have m0 : w1.heap.size ≠ w.heap.size := by omega
  have c0 : w1.cell? ⟨w.heap.size, 0, none⟩ = some (.int .i64 0) := hB1.cell 0
  have c1 : w1.cell? ⟨w.heap.size, 1, none⟩ = some (.int .i64 0) := hB1.cell 1
  have c2 : w1.cell? ⟨w.heap.size, 2, none⟩ = some (.int .i64 0) := hB1.cell 2
  have c3 : w1.cell? ⟨w.heap.size, 3, none⟩ = some (.int .i64 0) := hB1.cell 3
  have fz : ∀ o, w1.frozen? ⟨w.heap.size, o, none⟩ = false := fun o => hB1.free o
  clear hb1 hB
  cases hok : spOk x
  case false =>
    have HN : Hid (∀ m', mvB m' = true → x ≠ moveT m') := fun m' h e => by rw [e, mv_sp h] at hok; cases hok
    clear hown hok
    go_wp2_with fail
    obtain ⟨WF, hWF⟩ : ∃ WF, WF = set4 w1 w.heap.size (.int .i64 0) (.int .i64 0) (.int .i64 0) (.int .i64 0) := ⟨_, rfl⟩
    have FB := set4_blk hB1 (.int .i64 0) (.int .i64 0) (.int .i64 0) (.int .i64 0)
    have FE := set4_ext HE1.out (Nat.le_refl _) (.int .i64 0) (.int .i64 0) (.int .i64 0) (.int .i64 0)
    rw [← hWF] at FB FE
    unfold set4 at hWF
    rw [← hWF]
    clear hWF
    have y0 := FB.cell 0
    have y1 := FB.cell 1
    have y2 := FB.cell 2
    have y3 := FB.cell 3
    refine bodyPost_ret (v := .tuple #[.agg #[.int .i64 0, .int .i64 0, .int .i64 0, .int .i64 0], .bool false]) (by simp [results, Tryz.results94, go_sem, y0, y1, y2, y3]) rfl (pm_none HN.out FE)
  case true =>
    replace hown := hown hok
    have hfl := fields_len x
    have hx6 : x.size ≤ 600 := by
      unfold spOk at hok; simp at hok; exact hok.1.1
    obtain ⟨fs, hfs⟩ : ∃ fs, fs = fieldsOf x := ⟨_, rfl⟩
    have Hfs := Lib.hid hfs
    rw [← hfs] at hown hfl
    have Hfl := Lib.hid hfl
    clear hfs hok hfl
    obtain ⟨A, c', rfl, hnc⟩ := own_form hown
    have HOW := Lib.hid hown
    clear hown
    by_cases hm : fs.length = 5
    case neg =>
      have HN : Hid (∀ m', mvB m' = true → x ≠ moveT m') := mv_len (by rw [← Hfs.out]; exact hm)
      have hne : ((fs.length : Int) == 5) = false := beq_false_of_ne (by omega)
      clear hm
      go_wp2_with fail
      obtain ⟨WF, hWF⟩ : ∃ WF, WF = set4 w1 w.heap.size (.int .i64 0) (.int .i64 0) (.int .i64 0) (.int .i64 0) := ⟨_, rfl⟩
      have FB := set4_blk hB1 (.int .i64 0) (.int .i64 0) (.int .i64 0) (.int .i64 0)
      have FE := set4_ext HE1.out (Nat.le_refl _) (.int .i64 0) (.int .i64 0) (.int .i64 0) (.int .i64 0)
      rw [← hWF] at FB FE
      unfold set4 at hWF
      rw [← hWF]
      clear hWF
      have y0 := FB.cell 0
      have y1 := FB.cell 1
      have y2 := FB.cell 2
      have y3 := FB.cell 3
      refine bodyPost_ret (v := .tuple #[.agg #[.int .i64 0, .int .i64 0, .int .i64 0, .int .i64 0], .bool false]) (by simp [results, Tryz.results94, go_sem, y0, y1, y2, y3]) rfl (pm_none HN.out FE)
    case pos =>
    have Hm := Lib.hid hm
    obtain ⟨-, -, hr⟩ := Rd.of_own HOW.out
    obtain ⟨g, o, rfl, hg, hcell⟩ := hr (by omega)
    have Hcell := Lib.hid hcell
    rw [hm] at hnc ⊢
    clear hr hcell hm
    have hgw : w1.heap.size ≠ g := by omega
    go_wp2_with fail
    obtain ⟨wo, hwo⟩ : ∃ wo, wo = w1.alloc (.cells #[] 3) := ⟨_, rfl⟩
    rw [← hwo]
    have hEo : Ext w1 wo := by rw [hwo]; exact (Ext.refl w1).alloc _
    have Ho0 : Hid (wo.ownsRow w1.heap.size 3 1 (.slice (some ⟨w1.heap.size, 0, none⟩) 0 0) 0 []) := by rw [hwo]; exact own_empty w1 w1.heap.size 3 1 (Nat.le_refl _)
    have HEo := Lib.hid hEo
    have hso := hEo.size
    clear hwo hEo
    go_loopw [6, 7] (fun v i wr => ∃ (k : Nat) (zs : List Int), 1 ≤ k ∧ k ≤ 5 ∧ i = .int .i64 k ∧ zs.length + 1 = k ∧ Hid (wr.ownsRow w1.heap.size 3 1 v zs.length (zs.flatMap ienc)) ∧ Hid (NumsOf fs zs) ∧ Ext w1 wr) (fun _ i _ => 5 - (intOf i).toNat)
    case atStart => exact ⟨1, [], Nat.le_refl _, by omega, rfl, rfl, Ho0, Lib.hid (fun j f z hz => by simp at hz), HEo.out⟩
    case round =>
      obtain ⟨k, zs, hk1, hkm, rfl, hzl, hown, hN, hb⟩ := hrel
      have HB1 := Lib.hid hb
      have hsw := hb.size
      clear hb
      by_cases hlt : k < 5
      · obtain ⟨f, hf⟩ : ∃ f, fs[k]? = some f := ⟨fs[k]'(by rw [Hm.out]; exact hlt), List.getElem?_eq_getElem (by rw [Hm.out]; exact hlt)⟩
        have hfl := Hfl.out f (List.mem_of_getElem? hf)
        have q1 : wr.cell? ⟨g, o + k, none⟩ = some (.string ⟨f.toArray⟩) := (HB1.out.cellAt g hg (o + k)).trans (Hcell.out k _ (by rw [sval, List.getElem?_map, hf]; rfl))
        have hNs := Lib.hid (fun (z : Int) (hz : NumOf f z) => nums_snoc hN.out (by rw [show zs.length + 1 = k from hzl]; exact hf) hz)
        obtain ⟨F, hF⟩ : ∃ F : ByteArray, F = ⟨f.toArray⟩ := ⟨_, rfl⟩
        have hFs : F.size ≤ 601 := by rw [hF, mk_size]; omega
        have HFF := Lib.hid hF
        rw [← hF] at q1
        clear hf hF
        have cN := Lib.hid (spec_ParseUint F wr (by omega))
        have hgr : wr.heap.size ≠ g := by omega
        have hkl : zs.length ≤ 5 := by omega
        go_wp2_with (first
          | (go_at_call 121; refine cN.out.mono ?_; rintro e w2 ⟨z, b, rfl, hz9, hb2, hz⟩; have HB2 := Lib.hid hb2; have hs2 := hb2.size; have HZ := Lib.hid hz; clear hb2 hz)
          | (at_builtin; refine append1 ei_N rfl _ _ rfl w1.heap.size w2 _ _ zs.length _ (by rfl) (own_keep hown.out HB2.out) [.int .i64 z] (by rfl) rfl (one_intN _) (by omega) (by omega) ?_; intro v' w3 ho3 he3; have HO3 := Lib.hid ho3; have HE3 := Lib.hid (he3 w1 (HB1.out.trans HB2.out) (Nat.le_refl _)); clear ho3 he3))
        go_roundw
        case rel => exact ⟨k + 1, zs ++ [(z : Int)], by omega, by omega, by go_num, by simp; omega, by (unfold Hid; rw [List.length_append, List.flatMap_append]; exact HO3.out), hNs.out (z : Int) (fun i hi he => by have h := (HZ.out i hi (by rw [HFF.out]; exact he)).1; show z = (i : Int); omega), HE3.out⟩
        case measure => simp [intOf] <;> omega
      · obtain rfl : k = 5 := by omega
        have hz4 : zs.length = 4 := by omega
        obtain ⟨Av, cv, rfl, hcv⟩ := own_form hown.out
        obtain ⟨-, -, hr3⟩ := Rd.of_own hown.out
        obtain ⟨g3, o3, rfl, hg3, hc3⟩ := hr3 (by omega)
        have hc4 : ∀ j, j < 4 → wr.cell? ⟨g3, o3 + j, none⟩ = some (.int .i64 (zs.getD j 0)) := fun j hj => hc3 j _ (by
          rw [ienc_map, List.getElem?_map, List.getD_eq_getElem?_getD, List.getElem?_eq_getElem (by omega)]; rfl)
        have A0 := nums_get hN.out (j := 0) (by omega)
        have r0 := hc4 0 (by omega)
        have A1 := nums_get hN.out (j := 1) (by omega)
        have r1 := hc4 1 (by omega)
        have A2 := nums_get hN.out (j := 2) (by omega)
        have r2 := hc4 2 (by omega)
        have A3 := nums_get hN.out (j := 3) (by omega)
        have r3 := hc4 3 (by omega)
        rw [hz4] at hcv ⊢
        obtain ⟨n0, hn0⟩ : ∃ n, n = zs.getD 0 0 := ⟨_, rfl⟩
        rw [← hn0] at A0 r0
        obtain ⟨n1, hn1⟩ : ∃ n, n = zs.getD 1 0 := ⟨_, rfl⟩
        rw [← hn1] at A1 r1
        obtain ⟨n2, hn2⟩ : ∃ n, n = zs.getD 2 0 := ⟨_, rfl⟩
        rw [← hn2] at A2 r2
        obtain ⟨n3, hn3⟩ : ∃ n, n = zs.getD 3 0 := ⟨_, rfl⟩
        rw [← hn3] at A3 r3
        rw [Nat.add_zero] at r0
        have hxne : x ≠ ByteArray.empty := fun e => by
          have h5 := Hm.out
          rw [Hfs.out, e, fields_nil] at h5
          cases h5
        have HA := Lib.hid (mv_end hxne (fun m' hm e => by rw [Hfs.out, e]; exact mv_fields hm) A0 A1 A2 A3)
        have mg3 : wr.heap.size ≠ g3 := by omega
        have hBr := hB1.keep HB1.out
        clear hc3 hc4 hr3 A0 A1 A2 A3 hn0 hn1 hn2 hn3 hxne
        go_wp2_with fail
        go_region
        obtain ⟨W4, hW4⟩ : ∃ W4, W4 = (wr.alloc (.cells #[.int .i64 n0, .int .i64 n1, .int .i64 n2, .int .i64 n3] 46)).drew := ⟨_, rfl⟩
        have hE4 : Ext wr W4 := by rw [hW4]; exact ((Ext.refl wr).alloc _).drew
        have hB4 : Blk W4 wr.heap.size 46 #[.int .i64 n0, .int .i64 n1, .int .i64 n2, .int .i64 n3] := by rw [hW4]; exact (Blk.new _ _ _).drew
        rw [← hW4]
        clear hW4 r0 r1 r2 r3
        have b0 : W4.cell? ⟨wr.heap.size, 0, none⟩ = some (.int .i64 n0) := hB4.cell 0
        have b1 : W4.cell? ⟨wr.heap.size, 1, none⟩ = some (.int .i64 n1) := hB4.cell 1
        have b2 : W4.cell? ⟨wr.heap.size, 2, none⟩ = some (.int .i64 n2) := hB4.cell 2
        have b3 : W4.cell? ⟨wr.heap.size, 3, none⟩ = some (.int .i64 n3) := hB4.cell 3
        have cF := Lib.hid (spec_MoveText (⟨n0, n1, n2, n3⟩ : GMove) W4)
        obtain ⟨T2, hT2⟩ : ∃ T2, T2 = moveT (⟨n0, n1, n2, n3⟩ : GMove) := ⟨_, rfl⟩
        rw [← hT2] at cF HA
        have HT2 := Lib.hid hT2
        have HE4 := Lib.hid hE4
        have HB4 := Lib.hid hB4
        have HBR := Lib.hid hBr
        have l4 := HB4.out.lt
        have z4 := hE4.size
        have hwr : w.heap.size < wr.heap.size := hBr.lt
        clear hE4 hB4 hT2 hBr
        cases hq : (T2.toList == x.toList)
        case false =>
          have HN := Lib.hid (HA.out.2 hq)
          go_wp2_with (go_at_call 93; refine cF.out.mono ?_; rintro e w5 ⟨rfl, hb5⟩; have HB5 := Lib.hid hb5; have D5 := Lib.hid (HBR.out.keep (HE4.out.trans hb5)); have d0 := D5.out.cell 0; have d1 := D5.out.cell 1; have d2 := D5.out.cell 2; have d3 := D5.out.cell 3; have dz : ∀ o, w5.frozen? ⟨w.heap.size, o, none⟩ = false := fun o => D5.out.free o; have z5 := hb5.size; have m5 : w5.heap.size ≠ w.heap.size := (by omega); have l5 : w.heap.size < w5.heap.size := (by omega); clear hb5)
          obtain ⟨WF, hWF⟩ : ∃ WF, WF = set4 w5 w.heap.size (.int .i64 0) (.int .i64 0) (.int .i64 0) (.int .i64 0) := ⟨_, rfl⟩
          have FB := set4_blk D5.out (.int .i64 0) (.int .i64 0) (.int .i64 0) (.int .i64 0)
          have FE := set4_ext (HE1.out.trans (HB1.out.trans (HE4.out.trans HB5.out))) (Nat.le_refl _) (.int .i64 0) (.int .i64 0) (.int .i64 0) (.int .i64 0)
          rw [← hWF] at FB FE
          unfold set4 at hWF
          rw [← hWF]
          clear hWF
          have y0 := FB.cell 0
          have y1 := FB.cell 1
          have y2 := FB.cell 2
          have y3 := FB.cell 3
          refine bodyPost_ret (v := .tuple #[.agg #[.int .i64 0, .int .i64 0, .int .i64 0, .int .i64 0], .bool false]) (by simp [results, Tryz.results94, go_sem, y0, y1, y2, y3]) rfl (pm_none HN.out FE)
        case true =>
          have HY := Lib.hid (HA.out.1 hq)
          go_wp2_with (go_at_call 93; refine cF.out.mono ?_; rintro e w5 ⟨rfl, hb5⟩; have HB5 := Lib.hid hb5; have z5 := hb5.size; have x0 := (hb5.cellAt wr.heap.size HB4.out.lt 0).trans b0; have x1 := (hb5.cellAt wr.heap.size HB4.out.lt 1).trans b1; have x2 := (hb5.cellAt wr.heap.size HB4.out.lt 2).trans b2; have x3 := (hb5.cellAt wr.heap.size HB4.out.lt 3).trans b3; have D5 := Lib.hid (HBR.out.keep (HE4.out.trans hb5)); have d0 := D5.out.cell 0; have d1 := D5.out.cell 1; have d2 := D5.out.cell 2; have d3 := D5.out.cell 3; have dz : ∀ o, w5.frozen? ⟨w.heap.size, o, none⟩ = false := fun o => D5.out.free o; have m5 : w5.heap.size ≠ w.heap.size := (by omega); have l5 : w.heap.size < w5.heap.size := (by omega); clear hb5)
          obtain ⟨WF, hWF⟩ : ∃ WF, WF = set4 w5 w.heap.size (.int .i64 n0) (.int .i64 n1) (.int .i64 n2) (.int .i64 n3) := ⟨_, rfl⟩
          have FB := set4_blk D5.out (.int .i64 n0) (.int .i64 n1) (.int .i64 n2) (.int .i64 n3)
          have FE := set4_ext (HE1.out.trans (HB1.out.trans (HE4.out.trans HB5.out))) (Nat.le_refl _) (.int .i64 n0) (.int .i64 n1) (.int .i64 n2) (.int .i64 n3)
          rw [← hWF] at FB FE
          unfold set4 at hWF
          rw [← hWF]
          clear hWF
          have y0 := FB.cell 0
          have y1 := FB.cell 1
          have y2 := FB.cell 2
          have y3 := FB.cell 3
          refine bodyPost_ret (v := .tuple #[.agg #[.int .i64 n0, .int .i64 n1, .int .i64 n2, .int .i64 n3], .bool true]) (by simp [results, Tryz.results94, go_sem, y0, y1, y2, y3]) rfl (pm_some (⟨n0, n1, n2, n3⟩ : GMove) HY.out.1 (HY.out.2.trans HT2.out) FE)
end Go.Proofs.YtfmifllcbbfpoaaGreatDoor
/- The program's ParseMove; no condition but what stands at each theorem. -/
namespace Go.Proofs.YtfmifllcbbfpoaaGreatDoor
set_option linter.unusedSimpArgs false
set_option linter.unusedVariables false
open Go.RowKit Go.Sort
theorem bas_of {L : List ByteArray} {fs : List (List UInt8)} (h : L.map (·.data.toList) = fs) : L = bas fs := by
  subst h
  unfold bas
  rw [List.map_map]
  conv => lhs; rw [← List.map_id L]
  exact List.map_congr_left (fun l _ => by simp)
theorem bas_sval (fs : List (List UInt8)) : (bas fs).map Value.string = sval fs := by
  unfold bas sval
  rw [List.map_map]
  rfl
theorem cuts_empty : cuts 32 ByteArray.empty.data.toList = [[]] := rfl
theorem mv_lenC {x : ByteArray} (h : (cuts 32 x.data.toList).length ≠ 5) : ∀ m', mvB m' = true → x ≠ moveT m' := by
  rintro m' hm rfl
  rw [mv_cuts hm] at h
  exact h rfl
set_option maxRecDepth 100000 in
set_option maxHeartbeats 4000000 in
theorem impl_ParseMove (x : ByteArray) (w : World) (hx : x.size ≤ 1048576) (hM : Hid (∃ m, w.cell? ⟨0, 0, none⟩ = some (.int .i64 m))) : Calls Tryz.prog 56 #[.string x] w (PMPost x w) := by
  obtain ⟨wa, hwa⟩ : ∃ wa, wa = w.alloc (.cells #[.int .i64 0, .int .i64 0, .int .i64 0, .int .i64 0] 46) := ⟨_, rfl⟩
  have hEa : Ext w wa := by rw [hwa]; exact (Ext.refl w).alloc _
  have hsa : wa.heap.size = w.heap.size + 1 := by rw [hwa]; simp
  have hB : Blk wa w.heap.size 46 #[.int .i64 0, .int .i64 0, .int .i64 0, .int .i64 0] := by rw [hwa]; exact Blk.new _ _ _
  have Hwa := Lib.hid hwa
  have HEa := Lib.hid hEa
  obtain ⟨mm, hm0⟩ := hM
  have hm1 : wa.cell? ⟨0, 0, none⟩ = some (.int .i64 mm) := (hEa.cellAt _ (World.block_lt_of_cell? w _ hm0) 0).trans hm0
  have cS := Lib.hid (Tryz.strings_Split x ⟨#[32]⟩ mm wa (by omega) hm1 (by decide))
  clear hwa hEa hm0 hm1
  go_enter Tryz.func56, Tryz.ntmps56
  go_wp2_with fail
  rw [← Hwa.out]
  refine cS.out.mono ?_
  rintro e w1 ⟨rfl, hw1⟩
  obtain ⟨fs, hfs⟩ : ∃ fs, fs = cuts 32 x.data.toList := ⟨_, rfl⟩
  have hbs := bas_of (splitB_cuts 32 x)
  have hfn : Lib.countB x ⟨#[32]⟩ + 1 = fs.length := by rw [← Lib.splitB_all ⟨#[32]⟩ (by decide) 0 _ x rfl, hbs, bas_len, hfs]
  rw [hfn]
  rw [hbs, ← hfs] at hw1
  have hb1 : Ext wa w1 := by rw [hw1]; exact (Ext.refl _).alloc _
  have hcell : ∀ j u, (sval fs)[j]? = some u → w1.cell? ⟨wa.heap.size, 0 + j, none⟩ = some u := fun j u hu => by
    rw [hw1, World.cell?_alloc_new, Nat.zero_add]
    rw [← bas_sval] at hu
    simpa using hu
  have hg : wa.heap.size < w1.heap.size := by rw [hw1]; simp
  obtain ⟨g, hgg⟩ : ∃ g, g = wa.heap.size := ⟨_, rfl⟩
  rw [← hgg] at hcell hg ⊢
  have Hcell := Lib.hid hcell
  have hB1 := hB.keep hb1
  have hs1 := hb1.size
  have HE1 := Lib.hid (HEa.out.trans hb1)
  have l0 : w.heap.size < w1.heap.size := by omega
  have m0 : w1.heap.size ≠ w.heap.size := by omega
  have hgw : w1.heap.size ≠ g := by omega
  have c0 : w1.cell? ⟨w.heap.size, 0, none⟩ = some (.int .i64 0) := hB1.cell 0
  have c1 : w1.cell? ⟨w.heap.size, 1, none⟩ = some (.int .i64 0) := hB1.cell 1
  have c2 : w1.cell? ⟨w.heap.size, 2, none⟩ = some (.int .i64 0) := hB1.cell 2
  have c3 : w1.cell? ⟨w.heap.size, 3, none⟩ = some (.int .i64 0) := hB1.cell 3
  have fz : ∀ o, w1.frozen? ⟨w.heap.size, o, none⟩ = false := fun o => hB1.free o
  have hfl : ∀ l ∈ fs, l.length ≤ x.size := fun l hl => by
    have := cuts_len 32 x.data.toList l (by rw [← hfs]; exact hl)
    rwa [toList_size] at this
  have hfp : 1 ≤ fs.length := by omega
  have Hfl := Lib.hid hfl
  have Hfs := Lib.hid hfs
  clear hb1 hB hw1 hbs hfn hcell hfl hfs
  obtain rfl : g = w.heap.size + 1 := by omega
  clear hgg
  by_cases hm : fs.length = 5
  case neg =>
    have HN : Hid (∀ m', mvB m' = true → x ≠ moveT m') := mv_lenC (by rw [← Hfs.out]; exact hm)
    have hne : ((fs.length : Int) == 5) = false := beq_false_of_ne (by omega)
    clear hm
    go_wp2_with fail
    obtain ⟨WF, hWF⟩ : ∃ WF, WF = set4 w1 w.heap.size (.int .i64 0) (.int .i64 0) (.int .i64 0) (.int .i64 0) := ⟨_, rfl⟩
    have FB := set4_blk hB1 (.int .i64 0) (.int .i64 0) (.int .i64 0) (.int .i64 0)
    have FE := set4_ext HE1.out (Nat.le_refl _) (.int .i64 0) (.int .i64 0) (.int .i64 0) (.int .i64 0)
    rw [← hWF] at FB FE
    unfold set4 at hWF
    rw [← hWF]
    clear hWF
    have y0 := FB.cell 0
    have y1 := FB.cell 1
    have y2 := FB.cell 2
    have y3 := FB.cell 3
    refine bodyPost_ret (v := .tuple #[.agg #[.int .i64 0, .int .i64 0, .int .i64 0, .int .i64 0], .bool false]) (by simp [results, Tryz.results56, go_sem, y0, y1, y2, y3]) rfl (pm_none HN.out FE)
  case pos =>
    have Hm := Lib.hid hm
    rw [hm]
    clear hm
    obtain ⟨A28, c28, h28, hsl⟩ := tail_of (w.heap.size + 1) 0 4 5 (by omega)
    obtain rfl := h28 (by omega)
    clear h28
    go_wp2_with fail
    clear hsl
    obtain ⟨wo, hwo⟩ : ∃ wo, wo = w1.alloc (.cells #[] 3) := ⟨_, rfl⟩
    rw [← hwo]
    have hEo : Ext w1 wo := by rw [hwo]; exact (Ext.refl w1).alloc _
    have Ho0 : Hid (wo.ownsRow w1.heap.size 3 1 (.slice (some ⟨w1.heap.size, 0, none⟩) 0 0) 0 []) := by rw [hwo]; exact own_empty w1 w1.heap.size 3 1 (Nat.le_refl _)
    have HEo := Lib.hid hEo
    have hso := hEo.size
    clear hwo hEo
    go_loopw [5, 21] (fun v i wr => ∃ (k : Nat) (zs : List Int), k ≤ 4 ∧ i = .int .i64 k ∧ zs.length = k ∧ Hid (wr.ownsRow w1.heap.size 3 1 v zs.length (zs.flatMap ienc)) ∧ Hid (NumsOf fs zs) ∧ Ext w1 wr) (fun _ i _ => 4 - (intOf i).toNat)
    case atStart => exact ⟨0, [], by omega, rfl, rfl, Ho0, Lib.hid (fun j f z hz => by simp at hz), HEo.out⟩
    case round =>
      obtain ⟨k, zs, hkm, rfl, hzl, hown, hN, hb⟩ := hrel
      have HB1 := Lib.hid hb
      have hsw := hb.size
      clear hb
      by_cases hlt : k < 4
      · obtain ⟨f, hf⟩ : ∃ f, fs[k + 1]? = some f := ⟨fs[k + 1]'(by rw [Hm.out]; omega), List.getElem?_eq_getElem (by rw [Hm.out]; omega)⟩
        have hfl := Hfl.out f (List.mem_of_getElem? hf)
        have q1 : wr.cell? ⟨w.heap.size + 1, 1 + k, none⟩ = some (.string ⟨f.toArray⟩) := by
          rw [Nat.add_comm 1 k, ← Nat.zero_add (k + 1)]
          exact (HB1.out.cellAt (w.heap.size + 1) hg (0 + (k + 1))).trans (Hcell.out (k + 1) _ (by rw [sval, List.getElem?_map, hf]; rfl))
        have hNs := Lib.hid (fun (z : Int) (hz : NumOf f z) => nums_snoc hN.out (by rw [show zs.length = k from hzl]; exact hf) hz)
        obtain ⟨F, hF⟩ : ∃ F : ByteArray, F = ⟨f.toArray⟩ := ⟨_, rfl⟩
        have hFs : F.size ≤ 1048576 := by rw [hF, mk_size]; omega
        have HFF := Lib.hid hF
        rw [← hF] at q1
        clear hf hF
        have cN := Lib.hid (impl_ParseUint F wr (by omega))
        have hgr : wr.heap.size ≠ w.heap.size + 1 := by omega
        have hgl : w.heap.size + 1 < wr.heap.size := by omega
        have hkl : zs.length ≤ 5 := by omega
        have hki : (k : Int) < 4 := by omega
        go_wp2_with (first
          | (go_at_call 98; refine cN.out.mono ?_; rintro e w2 ⟨z, b, rfl, hz9, hb2, hz⟩; have HB2 := Lib.hid hb2; have hs2 := hb2.size; have HZ := Lib.hid hz; clear hb2 hz)
          | (at_builtin; refine append1 ei_N rfl _ _ rfl w1.heap.size w2 _ _ zs.length _ (by rfl) (own_keep hown.out HB2.out) [.int .i64 z] (by rfl) rfl (one_intN _) (by omega) (by omega) ?_; intro v' w3 ho3 he3; have HO3 := Lib.hid ho3; have HE3 := Lib.hid (he3 w1 (HB1.out.trans HB2.out) (Nat.le_refl _)); clear ho3 he3))
        go_roundw
        case rel => exact ⟨k + 1, zs ++ [(z : Int)], by omega, by go_num, by simp; omega, by (unfold Hid; rw [List.length_append, List.flatMap_append]; exact HO3.out), hNs.out (z : Int) (fun i hi he => by have h := (HZ.out i hi (by rw [HFF.out]; exact he)).1; show z = (i : Int); omega), HE3.out⟩
        case measure => simp [intOf] <;> omega
      · obtain rfl : k = 4 := by omega
        have hz4 : zs.length = 4 := hzl
        have hki : ¬ ((4 : Nat) : Int) < 4 := by omega
        obtain ⟨Av, cv, rfl, hcv⟩ := own_form hown.out
        obtain ⟨-, -, hr3⟩ := Rd.of_own hown.out
        obtain ⟨g3, o3, rfl, hg3, hc3⟩ := hr3 (by omega)
        have hc4 : ∀ j, j < 4 → wr.cell? ⟨g3, o3 + j, none⟩ = some (.int .i64 (zs.getD j 0)) := fun j hj => hc3 j _ (by
          rw [ienc_map, List.getElem?_map, List.getD_eq_getElem?_getD, List.getElem?_eq_getElem (by omega)]; rfl)
        have A0 := nums_get hN.out (j := 0) (by omega)
        have r0 := hc4 0 (by omega)
        have A1 := nums_get hN.out (j := 1) (by omega)
        have r1 := hc4 1 (by omega)
        have A2 := nums_get hN.out (j := 2) (by omega)
        have r2 := hc4 2 (by omega)
        have A3 := nums_get hN.out (j := 3) (by omega)
        have r3 := hc4 3 (by omega)
        rw [hz4] at hcv ⊢
        obtain ⟨n0, hn0⟩ : ∃ n, n = zs.getD 0 0 := ⟨_, rfl⟩
        rw [← hn0] at A0 r0
        obtain ⟨n1, hn1⟩ : ∃ n, n = zs.getD 1 0 := ⟨_, rfl⟩
        rw [← hn1] at A1 r1
        obtain ⟨n2, hn2⟩ : ∃ n, n = zs.getD 2 0 := ⟨_, rfl⟩
        rw [← hn2] at A2 r2
        obtain ⟨n3, hn3⟩ : ∃ n, n = zs.getD 3 0 := ⟨_, rfl⟩
        rw [← hn3] at A3 r3
        rw [Nat.add_zero] at r0
        have hxne : x ≠ ByteArray.empty := fun e => by
          have h5 := Hm.out
          rw [Hfs.out, e, cuts_empty] at h5
          cases h5
        have HA := Lib.hid (mv_end hxne (fun m' hm e => by rw [Hfs.out, e]; exact mv_cuts hm) A0 A1 A2 A3)
        have mg3 : wr.heap.size ≠ g3 := by omega
        have hBr := hB1.keep HB1.out
        clear hc3 hc4 hr3 A0 A1 A2 A3 hn0 hn1 hn2 hn3 hxne
        go_wp2_with fail
        go_region
        obtain ⟨W4, hW4⟩ : ∃ W4, W4 = (wr.alloc (.cells #[.int .i64 n0, .int .i64 n1, .int .i64 n2, .int .i64 n3] 46)).drew := ⟨_, rfl⟩
        have hE4 : Ext wr W4 := by rw [hW4]; exact ((Ext.refl wr).alloc _).drew
        have hB4 : Blk W4 wr.heap.size 46 #[.int .i64 n0, .int .i64 n1, .int .i64 n2, .int .i64 n3] := by rw [hW4]; exact (Blk.new _ _ _).drew
        rw [← hW4]
        clear hW4 r0 r1 r2 r3
        have b0 : W4.cell? ⟨wr.heap.size, 0, none⟩ = some (.int .i64 n0) := hB4.cell 0
        have b1 : W4.cell? ⟨wr.heap.size, 1, none⟩ = some (.int .i64 n1) := hB4.cell 1
        have b2 : W4.cell? ⟨wr.heap.size, 2, none⟩ = some (.int .i64 n2) := hB4.cell 2
        have b3 : W4.cell? ⟨wr.heap.size, 3, none⟩ = some (.int .i64 n3) := hB4.cell 3
        have cF := Lib.hid (impl_MoveText (⟨n0, n1, n2, n3⟩ : GMove) W4)
        obtain ⟨T2, hT2⟩ : ∃ T2, T2 = moveT (⟨n0, n1, n2, n3⟩ : GMove) := ⟨_, rfl⟩
        rw [← hT2] at cF HA
        have HT2 := Lib.hid hT2
        have HE4 := Lib.hid hE4
        have HB4 := Lib.hid hB4
        have HBR := Lib.hid hBr
        have l4 := HB4.out.lt
        have z4 := hE4.size
        have hwr : w.heap.size < wr.heap.size := hBr.lt
        clear hE4 hB4 hT2 hBr
        cases hq : (T2.toList == x.toList)
        case false =>
          have HN := Lib.hid (HA.out.2 hq)
          go_wp2_with (go_at_call 62; refine cF.out.mono ?_; rintro e w5 ⟨rfl, hb5⟩; have HB5 := Lib.hid hb5; have z5 := hb5.size; have x0 := (hb5.cellAt wr.heap.size HB4.out.lt 0).trans b0; have x1 := (hb5.cellAt wr.heap.size HB4.out.lt 1).trans b1; have x2 := (hb5.cellAt wr.heap.size HB4.out.lt 2).trans b2; have x3 := (hb5.cellAt wr.heap.size HB4.out.lt 3).trans b3; have D5 := Lib.hid (HBR.out.keep (HE4.out.trans hb5)); have d0 := D5.out.cell 0; have d1 := D5.out.cell 1; have d2 := D5.out.cell 2; have d3 := D5.out.cell 3; have dz : ∀ o, w5.frozen? ⟨w.heap.size, o, none⟩ = false := fun o => D5.out.free o; have m5 : w5.heap.size ≠ w.heap.size := (by omega); have l5 : w.heap.size < w5.heap.size := (by omega); clear hb5)
          obtain ⟨WF, hWF⟩ : ∃ WF, WF = set4 w5 w.heap.size (.int .i64 0) (.int .i64 0) (.int .i64 0) (.int .i64 0) := ⟨_, rfl⟩
          have FB := set4_blk D5.out (.int .i64 0) (.int .i64 0) (.int .i64 0) (.int .i64 0)
          have FE := set4_ext (HE1.out.trans (HB1.out.trans (HE4.out.trans HB5.out))) (Nat.le_refl _) (.int .i64 0) (.int .i64 0) (.int .i64 0) (.int .i64 0)
          rw [← hWF] at FB FE
          unfold set4 at hWF
          rw [← hWF]
          clear hWF
          have y0 := FB.cell 0
          have y1 := FB.cell 1
          have y2 := FB.cell 2
          have y3 := FB.cell 3
          refine bodyPost_ret (v := .tuple #[.agg #[.int .i64 0, .int .i64 0, .int .i64 0, .int .i64 0], .bool false]) (by simp [results, Tryz.results56, go_sem, y0, y1, y2, y3]) rfl (pm_none HN.out FE)
        case true =>
          have HY := Lib.hid (HA.out.1 hq)
          go_wp2_with (go_at_call 62; refine cF.out.mono ?_; rintro e w5 ⟨rfl, hb5⟩; have HB5 := Lib.hid hb5; have z5 := hb5.size; have x0 := (hb5.cellAt wr.heap.size HB4.out.lt 0).trans b0; have x1 := (hb5.cellAt wr.heap.size HB4.out.lt 1).trans b1; have x2 := (hb5.cellAt wr.heap.size HB4.out.lt 2).trans b2; have x3 := (hb5.cellAt wr.heap.size HB4.out.lt 3).trans b3; have D5 := Lib.hid (HBR.out.keep (HE4.out.trans hb5)); have d0 := D5.out.cell 0; have d1 := D5.out.cell 1; have d2 := D5.out.cell 2; have d3 := D5.out.cell 3; have dz : ∀ o, w5.frozen? ⟨w.heap.size, o, none⟩ = false := fun o => D5.out.free o; have m5 : w5.heap.size ≠ w.heap.size := (by omega); have l5 : w.heap.size < w5.heap.size := (by omega); clear hb5)
          obtain ⟨WF, hWF⟩ : ∃ WF, WF = set4 w5 w.heap.size (.int .i64 n0) (.int .i64 n1) (.int .i64 n2) (.int .i64 n3) := ⟨_, rfl⟩
          have FB := set4_blk D5.out (.int .i64 n0) (.int .i64 n1) (.int .i64 n2) (.int .i64 n3)
          have FE := set4_ext (HE1.out.trans (HB1.out.trans (HE4.out.trans HB5.out))) (Nat.le_refl _) (.int .i64 n0) (.int .i64 n1) (.int .i64 n2) (.int .i64 n3)
          rw [← hWF] at FB FE
          unfold set4 at hWF
          rw [← hWF]
          clear hWF
          have y0 := FB.cell 0
          have y1 := FB.cell 1
          have y2 := FB.cell 2
          have y3 := FB.cell 3
          refine bodyPost_ret (v := .tuple #[.agg #[.int .i64 n0, .int .i64 n1, .int .i64 n2, .int .i64 n3], .bool true]) (by simp [results, Tryz.results56, go_sem, y0, y1, y2, y3]) rfl (pm_some (⟨n0, n1, n2, n3⟩ : GMove) HY.out.1 (HY.out.2.trans HT2.out) FE)
end Go.Proofs.YtfmifllcbbfpoaaGreatDoor
/- The walk of the law of ParseMove; no condition but what stands at each theorem. -/
namespace Go.Proofs.YtfmifllcbbfpoaaGreatDoor
set_option linter.unusedSimpArgs false
set_option linter.unusedVariables false
open Go.RowKit Go.Sort
theorem max_ext {w w' : World} {g : Nat} (h : ∃ m, w.cell? ⟨g, 0, none⟩ = some (.int .i64 m)) (e : Ext w w') : ∃ m, w'.cell? ⟨g, 0, none⟩ = some (.int .i64 m) := by
  obtain ⟨m, h⟩ := h
  exact ⟨m, (e.cellAt _ (World.block_lt_of_cell? w _ h) 0).trans h⟩
end Go.Proofs.YtfmifllcbbfpoaaGreatDoor
/- Contract of the program's ReplayMoves; no condition but what stands at each theorem. -/
namespace Go.Proofs.YtfmifllcbbfpoaaGreatDoor
set_option linter.unusedSimpArgs false
set_option linter.unusedVariables false
open Go.RowKit Go.Sort
set_option maxRecDepth 100000 in
set_option maxHeartbeats 4000000 in
theorem impl_ReplayMoves (H : Int) (A : Option Addr) (n c : Nat) (ds : List GDoor) (A1 : Option Addr) (n1 c1 : Nat) (ps : List Int) (A2 : Option Addr) (n2 c2 : Nat) (ms : List GMove) (w : World) (hx : Rd w 2 A n (ds.flatMap GDoor.enc)) (hx1 : Rd w 1 A1 n1 (ps.flatMap ienc)) (hx2 : Rd w 4 A2 n2 (ms.flatMap GMove.enc)) (hnc : Hid (A1 = none → c1 = 0)) (hn1 : n1 ≤ 1048576) :
    Calls Tryz.prog 57 #[.agg #[.int .i64 H, .slice A n c], .slice A1 n1 c1, .slice A2 n2 c2] w (ListBool (replayL H ds ps ms).1 (replayL H ds ps ms).2 w) := by
  have hn2 := hx2.2.1
  have hl1 := Lib.hid (hx1.len ienc_len (by omega))
  have hl2 := Lib.hid (hx2.len GMove.len (by omega))
  obtain ⟨wb, hwb⟩ : ∃ wb, wb = w.alloc (.cells #[.int .i64 H, .slice A n c] 26) := ⟨_, rfl⟩
  obtain ⟨hE, hsb, a0, a1⟩ := box2 w _ _ _ wb hwb
  have HE := Lib.hid hE
  have Hwb := Lib.hid hwb
  have Ha0 := Lib.hid a0
  have Ha1 := Lib.hid a1
  have hxb := Lib.hid (hx.keep hE)
  have hxb1 := Lib.hid (hx1.keep hE)
  have hxb2 := Lib.hid (hx2.keep hE)
  have hbl : w.heap.size < wb.heap.size := by omega
  clear hE hwb a0 a1 hx hx1 hx2
  go_enter Tryz.func57, Tryz.ntmps57
  go_wp2_with (at_builtin; refine (fun h : Hid _ => h.out) ?_)
  unfold Hid
  rw [← Hwb.out]
  refine appendRdN ei_I rfl _ _ rfl wb.heap.size _ _ 0 [] (by rw [hsb]; rfl) (own_empty wb wb.heap.size 3 1 (Nat.le_refl _)) A1 n1 c1 (ps.flatMap ienc) (by rfl) (hxb1.out.alloc _) hnc.out (one_ienc _) (by omega) (by simp) (by intro h; cases h) ?_
  intro g c' w1
  rw [Nat.zero_add, List.nil_append]
  intro ho he
  have HO1 := Lib.hid ho
  have HE1 := Lib.hid (he wb ((Ext.refl wb).alloc _) (Nat.le_refl _))
  clear ho he
  have cP := Lib.hid (impl_PlacesOk H A n c ds A1 n1 c1 ps w1 (hxb.out.keep HE1.out) (hxb1.out.keep HE1.out))
  have a0 := (HE1.out.cellAt w.heap.size hbl 0).trans Ha0.out
  have a1 := (HE1.out.cellAt w.heap.size hbl 1).trans Ha1.out
  cases hok : (placesB H ds ps && decide (n2 ≤ 30))
  case false =>
    have HL : Hid (replayL H ds ps ms = (ps, false)) := by unfold Hid replayL; rw [hl2.out, hok]; rfl
    cases hP : placesB H ds ps
    case false =>
      rw [hP] at cP
      clear hok hP
      go_wp2_with fail
      refine cP.out.mono ?_
      rintro e w2 ⟨rfl, he2⟩
      have HE2 := Lib.hid (Ext.trans HE1.out he2)
      have HO2 := Lib.hid (own_keep HO1.out he2)
      clear he2 a0 a1
      go_wp2_with fail
      go_ret2
      exact ⟨.slice (some ⟨g, 0, none⟩) n1 c', (by rw [HL.out]; rfl), HE.out.trans HE2.out, by rw [HL.out, hl1.out]; exact own_weak HO2.out (by omega)⟩
    case true =>
      have h30 : ¬ n2 ≤ 30 := by rw [hP] at hok; simpa using hok
      rw [hP] at cP
      clear hok hP
      go_wp2_with fail
      refine cP.out.mono ?_
      rintro e w2 ⟨rfl, he2⟩
      have HE2 := Lib.hid (Ext.trans HE1.out he2)
      have HO2 := Lib.hid (own_keep HO1.out he2)
      clear he2 a0 a1
      go_wp2_with fail
      go_ret2
      exact ⟨.slice (some ⟨g, 0, none⟩) n1 c', (by rw [HL.out]; rfl), HE.out.trans HE2.out, by rw [HL.out, hl1.out]; exact own_weak HO2.out (by omega)⟩
  case true =>
    obtain ⟨hP, h30⟩ : placesB H ds ps = true ∧ n2 ≤ 30 := by simpa using hok
    have HL : Hid (replayL H ds ps ms = replayF H ds ps ps ms) := by unfold Hid replayL; rw [hl2.out, hok]; rfl
    rw [hP] at cP
    clear hok hP
    go_wp2_with fail
    refine cP.out.mono ?_
    rintro e w2 ⟨rfl, he2⟩
    have HE2 := Lib.hid (Ext.trans HE1.out he2)
    have HO2 := Lib.hid (own_keep HO1.out he2)
    clear he2 a0 a1
    go_wp2_with fail
    go_loopw [26] (fun i wr => ∃ (k : Nat) (u : List Int), k ≤ n2 ∧ i = .int .i64 k ∧ wr.ownsRow wb.heap.size 3 1 (.slice (some ⟨g, 0, none⟩) n1 c') n1 (u.flatMap ienc) ∧ Hid (u.length = n1) ∧ Hid (replayF H ds ps ps ms = replayF H ds ps u (ms.drop k)) ∧ Ext wb wr) (fun i _ => n2 - (intOf i).toNat)
    case atStart => exact ⟨0, ps, Nat.zero_le _, rfl, HO2.out, hl1, rfl, HE2.out⟩
    case round =>
      obtain ⟨k, u, hk, rfl, hown, hul, hz, hb⟩ := hrel
      have HO := Lib.hid hown
      have HB := Lib.hid hb
      have a0 := (hb.cellAt w.heap.size hbl 0).trans Ha0.out
      have a1 := (hb.cellAt w.heap.size hbl 1).trans Ha1.out
      have hbr := hb.size
      have m0 : wr.heap.size ≠ w.heap.size := by omega
      have l0 : w.heap.size < wr.heap.size := by omega
      by_cases hlt : k < n2
      · obtain ⟨b, off, m, rfl, hbs, hmk, p0, p1, p2, p3⟩ := GMove.at_ (hxb2.out.keep hb) hlt
        have HD := Lib.hid (drop_cons hmk)
        clear hmk hb hown
        go_wp2_with fail
        obtain ⟨wd, hwd⟩ : ∃ wd, wd = wr.alloc (.cells #[.int .i64 m.o, .int .i64 m.t, .int .i64 m.f, .int .i64 m.s] 46) := ⟨_, rfl⟩
        rw [← hwd]
        obtain ⟨hEd, hsd, b0, b1, b2, b3⟩ := box4 wr _ _ _ _ _ wd hwd
        have HBd := Lib.hid (HB.out.trans hEd)
        have HOd := Lib.hid (own_keep HO.out hEd)
        have cG := Lib.hid (impl_canGo H A n c ds (some ⟨g, 0, none⟩) n1 c' u m wd (hxb.out.keep HBd.out) (Rd.of_own HOd.out))
        clear hwd a0 a1
        have hsw : w.heap.size + 1 ≤ wb.heap.size := by omega
        cases hG : goB H ds u m
        case false =>
          rw [hG] at cG
          have HF : Hid (replayF H ds ps ps ms = (ps, false)) := by unfold Hid; rw [hz.out, HD.out, replayF, hG]; rfl
          clear hG
          refine cG.out.mono ?_
          rintro e w3 ⟨rfl, he3⟩
          have HE3 := Lib.hid (HBd.out.trans he3)
          clear he3 hEd b0 b1 b2 b3
          go_wp2_with (at_builtin; refine (fun h : Hid _ => h.out) ?_)
          unfold Hid
          refine appendRdN ei_I rfl _ _ rfl w3.heap.size _ _ 0 [] (by rfl) (own_empty w3 w3.heap.size 3 1 (Nat.le_refl _)) A1 n1 c1 (ps.flatMap ienc) (by rfl) ((hxb1.out.keep HE3.out).alloc _) hnc.out (one_ienc _) (by omega) (by simp) (by intro h; cases h) ?_
          intro g2 c2' w4
          rw [Nat.zero_add, List.nil_append]
          intro ho4 he4
          have HO4 := Lib.hid ho4
          have HE4 := Lib.hid (he4 w3 ((Ext.refl w3).alloc _) (Nat.le_refl _))
          have hs3 := HE3.out.size
          clear ho4 he4
          go_wp2_with fail
          go_ret2
          exact ⟨.slice (some ⟨g2, 0, none⟩) n1 c2', (by rw [HL.out, HF.out]; rfl), HE.out.trans (HE3.out.trans HE4.out), by rw [HL.out, HF.out, hl1.out]; exact own_weak HO4.out (by omega)⟩
        case true =>
          rw [hG] at cG
          obtain ⟨ho0, ho1⟩ := goB_obj hG
          obtain ⟨j, hj⟩ := Int.eq_ofNat_of_zero_le ho0
          have hjn : j < n1 := by (have := hul.out; omega)
          have HF : Hid (replayF H ds ps ps ms = replayF H ds ps (u.set j m.t) (ms.drop (k + 1))) := by unfold Hid; rw [hz.out, HD.out, replayF, hG, hj]; rfl
          have Hb0 : Hid (wd.cell? ⟨wr.heap.size, 0, none⟩ = some (.int .i64 (j : Int))) := by unfold Hid; rw [b0, hj]
          have Hb1 := Lib.hid b1
          clear hG ho0 ho1 hj b0 b1 b2 b3
          refine cG.out.mono ?_
          rintro e w3 ⟨rfl, he3⟩
          have HE3 := Lib.hid (HBd.out.trans he3)
          have ho3 := own_keep HOd.out he3
          obtain ⟨g', hg', hbg, hblk⟩ := PBlk.of_own ho3 (by omega)
          injection hg' with hg'
          injection hg' with hg'
          subst hg'
          have HO3 := Lib.hid ho3
          have q0 := hblk.cell (i := j) (by rw [hul.out]; exact hjn)
          have q1 := hblk.free j
          have q2 := hblk.lt
          have b0 := (he3.cellAt wr.heap.size (by omega) 0).trans Hb0.out
          have b1 := (he3.cellAt wr.heap.size (by omega) 1).trans Hb1.out
          clear he3 hblk ho3 hEd
          go_wp2_with fail
          go_roundw
          case rel => exact ⟨k + 1, u.set j m.t, by omega, by go_num, own_set HO3.out j m.t, by unfold Hid; rw [List.length_set]; exact hul.out, HF, HE3.out.setCell hbg _⟩
          case measure => simp [intOf]; omega
      · obtain rfl : k = n2 := by omega
        clear a0 a1
        go_wp2_with fail
        go_ret2
        have hF : replayF H ds ps ps ms = (u, true) := by rw [hz.out, drop_nil (by rw [hl2.out]; omega)]; rfl
        exact ⟨.slice (some ⟨g, 0, none⟩) n1 c', (by rw [HL.out, hF]; rfl), HE.out.trans HB.out, by rw [HL.out, hF]; simp only; rw [hul.out]; exact own_weak HO.out (by omega)⟩
end Go.Proofs.YtfmifllcbbfpoaaGreatDoor
