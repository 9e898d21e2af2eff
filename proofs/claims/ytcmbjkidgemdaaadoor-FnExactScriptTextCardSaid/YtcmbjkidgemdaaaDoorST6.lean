/- ScriptText of both sides; no condition but what stands at each theorem. -/
import Derived.Test.YtcmbjkidgemdaaaDoorST5
import Derived.Lib.AppendStr
namespace Go.Proofs.YtcmbjkidgemdaaaDoor
set_option linter.unusedSimpArgs false
set_option linter.unusedVariables false
open Go.RowKit Go.Sort
/-- A string appended to a row of bytes of the call's own. -/
theorem appendStr {ops : Array Oper} {rest : List Oper} {o : Oper} {a : Act} {Q : Exit → Act → World → Prop} (hgd : o.guard = none) (sl x : Operand)
    (ho : o.op = .call { callee := .builtin .append, args := #[sl, x], argTypes := #[49, 9] }) (base : Nat) (W : World) (v : Value) (n : Nat) (xs : List Value) (hs : a.eval sl = v) (hown : W.ownsRow base 5 1 v n xs)
    (s : ByteArray) (hx : a.eval x = .string s) (hn : n + s.size ≤ 1048576) (hbase : base ≤ W.heap.size)
    (h : ∀ v' w', w'.ownsRow base 5 1 v' (n + s.size) (xs ++ Lib.strCells s) → (∀ b, Ext b W → b.heap.size ≤ base → Ext b w') → wpList Tryd.prog ops Q rest (a.put o.dst v') w') : wpList Tryd.prog ops Q (o :: rest) a W := by
  have hin : (Tryd.prog.info? 5).map (fun i => (i.zero, i.size, i.bytes)) = some (some (.int .u8 0), 1, 1) := by kernel_rfl
  cases hi : Tryd.prog.info? 5 with
  | none => rw [hi] at hin; cases hin
  | some i =>
    rw [hi] at hin
    simp only [Option.map_some, Option.some.injEq, Prod.mk.injEq] at hin
    obtain ⟨hz, hsz, hby⟩ := hin
    refine Lib.wpList_append_own_string (w := W) hgd sl x 49 9 ho base 5 i Tryd.underlying49 Tryd.underlying9 hi hz hsz hby v n xs hs hown s hx (by unfold maxLen; omega) (by omega) hbase ?_
    intro v' w' h2 h3 _
    refine h v' w' h2 fun b hb hbb => Ext.grown hb h3 fun k hk => ?_
    rcases hown.2 with ⟨rfl, _⟩ | ⟨g, cap, cur, rfl, hg, _⟩
    · cases hk
    · injection hk with hk
      subst hk
      show b.heap.size ≤ g
      omega
theorem conv_own (w : World) (base : Nat) (v : Value) (s : ByteArray) (A : Option Addr) (n c : Nat) (hv : v = .slice A n c) (h : w.ownsRow base 5 1 v n (Lib.strCells s)) (hn : n = s.size) (hA : ∃ a, A = some a) :
    (convert 49 9 v).run Tryd.prog w = .ok (.string s) w := by
  subst hv hn
  obtain ⟨a, rfl⟩ := hA
  have hl : s.data.toList.length = s.size := by rw [Array.length_toList]; rfl
  obtain ⟨-, -, hr⟩ := Rd.of_own h
  have := run_convert_bytes_back (P := Tryd.prog) w 49 9 5 a c s.data.toList Tryd.underlying49 Tryd.underlying5 Tryd.underlying9 (by
    intro j hj
    obtain ⟨b, o, e, hb, hc⟩ := hr (by omega)
    injection e with e
    subst e
    rw [show (Addr.add ⟨b, o, none⟩ j) = ⟨b, o + j, none⟩ by simp [Addr.add]]
    exact hc j _ (by rw [Lib.strCells, List.getElem?_map, List.getElem?_eq_getElem hj]; rfl))
  rw [hl] at this
  exact this
def nl1 : ByteArray := ⟨#[10]⟩
/-- The texts of acts, each closed by a new line, behind a text. -/
def scF (t : ByteArray) : List GAct → ByteArray
  | [] => t
  | a :: r => scF (t ++ (actT a ++ nl1)) r
def scOk (ac : List GAct) : Bool := decide (ac.length ≤ 40) && ac.all acOk
def scT (ac : List GAct) : ByteArray := if scOk ac then scF ⟨#[]⟩ ac else ⟨#[]⟩
theorem actT_size (a : GAct) : (actT a).size ≤ 96 := by
  unfold actT
  split
  · next hok =>
    obtain ⟨hk, hx, hy, hz, hu⟩ := ac_cases hok
    have h1 := numsF_size ([a.a, a.b, a.c, a.d].take (cntOf a.k)) (wordOf a.k) (fun v hv => vals_ok hx hy hz hu v (List.mem_of_mem_take hv))
    have h2 : ([a.a, a.b, a.c, a.d].take (cntOf a.k)).length ≤ 4 := by rw [List.length_take]; simp; omega
    have h3 : (wordOf a.k).size ≤ 5 := by
      unfold wordOf
      repeat (split; decide)
      decide
    omega
  · decide
theorem strCells_app (a b : ByteArray) : Lib.strCells (a ++ b) = Lib.strCells a ++ Lib.strCells b := by
  simp [Lib.strCells]
theorem sc_bad {ac : List GAct} {k : Nat} {a : GAct} (h : ac[k]? = some a) (ha : acOk a = false) : scOk ac = false := by
  unfold scOk
  rw [Bool.and_eq_false_iff]
  right
  rw [Bool.eq_false_iff]
  intro hall
  rw [List.all_eq_true] at hall
  rw [hall a (List.mem_of_getElem? h)] at ha
  cases ha
theorem sc_long {ac : List GAct} (h : 40 < ac.length) : scOk ac = false := by
  unfold scOk
  rw [Bool.and_eq_false_iff]
  left
  simp; omega
theorem all_snoc {ac : List GAct} {k : Nat} {a : GAct} (h : ac[k]? = some a) (ha : acOk a = true) (hh : (ac.take k).all acOk = true) : (ac.take (k + 1)).all acOk = true := by
  rw [List.take_add_one, h, List.all_append, hh]
  simp [ha]
set_option maxRecDepth 100000 in
set_option maxHeartbeats 2000000 in
theorem spec_ScriptText (A : Option Addr) (n c : Nat) (ac : List GAct) (w : World) (hx : Rd w 5 A n (ac.flatMap GAct.enc)) (hn : n ≤ 1048576) :
    Calls Tryd.prog 17 #[.slice A n c] w fun e w' => e = .returned (.tuple #[.string (scT ac), .bool (scOk ac)]) ∧ Ext w w' := by
  have hl := Lib.hid (hx.len GAct.len (by omega))
  have HX := Lib.hid hx
  have Ho0 := Lib.hid (own_empty w w.heap.size 5 1 (Nat.le_refl _))
  clear hx
  go_enter Tryd.func17, Tryd.ntmps17
  go_wp2_with fail
  go_loopw [4, 5] (fun v i wr => ∃ (k : Nat) (t : ByteArray), k ≤ n ∧ i = .int .i64 k ∧ Hid (wr.ownsRow w.heap.size 5 1 v t.size (Lib.strCells t) ∧ ∃ a c', v = .slice (some a) t.size c') ∧ t.size ≤ 100 * k ∧ (k = 0 ∨ n ≤ 40) ∧ Hid (scF ⟨#[]⟩ ac = scF t (ac.drop k)) ∧ Hid ((ac.take k).all acOk = true) ∧ Ext w wr) (fun _ i _ => n - (intOf i).toNat)
  case atStart => exact ⟨0, ⟨#[]⟩, Nat.zero_le _, rfl, Lib.hid ⟨Ho0.out, _, _, rfl⟩, by decide, .inl rfl, rfl, rfl, (Ext.refl _).alloc _⟩
  case round =>
    obtain ⟨k, t, hk, rfl, hown, ht, hk40, hz, hall, hb⟩ := hrel
    by_cases hlt : k < n
    · obtain ⟨b, off, x, rfl, hbs, hxk, p0, p1, p2, p3, p4⟩ := GAct.at_ (HX.out.keep hb) hlt
      have HB := Lib.hid hb
      have hsw := hb.size
      have HK := Lib.hid hxk
      have HD := Lib.hid (drop_cons hxk)
      have cF := Lib.hid (spec_FormatAct x wr)
      have hTs := actT_size x
      obtain ⟨T, hT⟩ : ∃ T, T = actT x := ⟨_, rfl⟩
      rw [← hT] at cF hTs
      have HT := Lib.hid hT
      clear hb hxk hT
      cases hax : acOk x
      case false =>
        rw [hax] at cF
        have HN := Lib.hid (sc_bad HK.out hax)
        clear hax
        go_wp2_with (refine cF.out.mono ?_; rintro e w1 ⟨rfl, hb1⟩; have HB1 := Lib.hid hb1; clear hb1)
        refine bodyPost_ret (v := .tuple #[.string ⟨#[]⟩, .bool false]) (by simp [results, Tryd.results17, go_sem, *]) rfl ⟨by rw [HN.out, scT, HN.out]; rfl, HB.out.trans HB1.out⟩
      case true =>
        rw [hax] at cF
        have HA2 := Lib.hid (all_snoc HK.out hax hall.out)
        clear hax
        by_cases h40 : n ≤ 40
        · have hts : (t ++ (T ++ nl1)).size ≤ 100 * (k + 1) := by
            rw [ByteArray.size_append, ByteArray.size_append]
            have : nl1.size = 1 := rfl
            omega
          have HZ : Hid (scF ⟨#[]⟩ ac = scF (t ++ (T ++ nl1)) (ac.drop (k + 1))) := by unfold Hid; rw [hz.out, HD.out, scF, ← HT.out]
          have h401 : (n : Int) ≤ 40 := by omega
          go_wp2_with (first
            | (refine cF.out.mono ?_; rintro e w1 ⟨rfl, hb1⟩; have HB1 := Lib.hid hb1; have hs1 := hb1.size; clear hb1)
            | (at_builtin; refine (fun h : Hid _ => h.out) ?_))
          unfold Hid
          refine appendStr rfl _ _ rfl w.heap.size w1 _ t.size _ (by rfl) (own_keep hown.out.1 HB1.out) (T ++ nl1) (by rfl) (by rw [ByteArray.size_append]; have : nl1.size = 1 := rfl; omega) (by omega) ?_
          intro v' w2 ho2 he2
          have HO2 := Lib.hid ho2
          have HE2 := Lib.hid (he2 w (HB.out.trans HB1.out) (Nat.le_refl _))
          clear ho2 he2
          go_wp2_with fail
          go_roundw
          case rel =>
            refine ⟨k + 1, t ++ (T ++ nl1), by omega, by go_num, ?_, hts, .inr h40, HZ, HA2, HE2.out⟩
            have h1 := HO2.out
            rw [← strCells_app, ← ByteArray.size_append] at h1
            obtain ⟨A', c', rfl, -⟩ := own_form h1
            obtain ⟨-, -, hr⟩ := Rd.of_own h1
            obtain ⟨g, o, rfl, -⟩ := hr (by rw [ByteArray.size_append, ByteArray.size_append]; have : nl1.size = 1 := rfl; omega)
            exact Lib.hid ⟨h1, _, _, rfl⟩
          case measure => simp [intOf]; omega
        · have HN := Lib.hid (sc_long (ac := ac) (by rw [hl.out]; omega))
          have h401 : ¬ (n : Int) ≤ 40 := by omega
          have h402 : (40 : Int) < n := by omega
          go_wp2_with (refine cF.out.mono ?_; rintro e w1 ⟨rfl, hb1⟩; have HB1 := Lib.hid hb1; clear hb1)
          refine bodyPost_ret (v := .tuple #[.string ⟨#[]⟩, .bool false]) (by simp [results, Tryd.results17, go_sem, *]) rfl ⟨by rw [HN.out, scT, HN.out]; rfl, HB.out.trans HB1.out⟩
    · obtain rfl : k = n := by omega
      have hok : scOk ac = true := by
        have h1 := hall.out
        have h2 := hl.out
        rw [List.take_of_length_le (by omega)] at h1
        unfold scOk
        rw [h1]
        simp; omega
      have HT : Hid (scT ac = t) := by unfold Hid; rw [scT, if_pos hok, hz.out, drop_nil (by rw [hl.out]; omega)]; rfl
      have HK := Lib.hid hok
      obtain ⟨ho, a, c', rfl⟩ := hown.out
      have hc := conv_own wr w.heap.size _ t _ _ _ rfl ho rfl ⟨_, rfl⟩
      have HB := Lib.hid hb
      clear hb ho hok
      go_wp2_with fail
      refine bodyPost_ret (v := .tuple #[.string t, .bool true]) (by simp [results, Tryd.results17, go_sem, *]) rfl ⟨by rw [HK.out, HT.out], HB.out⟩
set_option maxRecDepth 100000 in
set_option maxHeartbeats 2000000 in
theorem impl_ScriptText (A : Option Addr) (n c : Nat) (ac : List GAct) (w : World) (hx : Rd w 5 A n (ac.flatMap GAct.enc)) (hn : n ≤ 1048576) (htab : Hid (Lib.TabIs Tryd.prog w "internal/strconv.uint64pow10" .u64 Lib.pow10Tab)) :
    Calls Tryd.prog 19 #[.slice A n c] w fun e w' => e = .returned (.tuple #[.string (scT ac), .bool (scOk ac)]) ∧ Ext w w' := by
  have hl := Lib.hid (hx.len GAct.len (by omega))
  have HX := Lib.hid hx
  clear hx
  by_cases h40 : n ≤ 40
  case neg =>
    have HN := Lib.hid (sc_long (ac := ac) (by rw [hl.out]; omega))
    have h402 : (40 : Int) < n := by omega
    go_enter Tryd.func19, Tryd.ntmps19
    go_wp2_with fail
    refine bodyPost_ret (v := .tuple #[.string ⟨#[]⟩, .bool false]) (by simp [results, Tryd.results19, go_sem, *]) rfl ⟨by rw [HN.out, scT, HN.out]; rfl, Ext.refl _⟩
  case pos =>
  have h401 : (n : Int) ≤ 40 := by omega
  go_enter Tryd.func19, Tryd.ntmps19
  go_wp2_with fail
  go_loopw [4, 14] (fun v i wr => ∃ (k : Nat) (t : ByteArray), k ≤ n ∧ i = .int .i64 k ∧ v = .string t ∧ t.size ≤ 100 * k ∧ Hid (scF ⟨#[]⟩ ac = scF t (ac.drop k)) ∧ Hid ((ac.take k).all acOk = true) ∧ Ext w wr) (fun _ i _ => n - (intOf i).toNat)
  case atStart => exact ⟨0, ⟨#[]⟩, Nat.zero_le _, rfl, rfl, by decide, rfl, rfl, Ext.refl _⟩
  case round =>
    obtain ⟨k, t, hk, rfl, rfl, ht, hz, hall, hb⟩ := hrel
    by_cases hlt : k < n
    · obtain ⟨b, off, x, rfl, hbs, hxk, p0, p1, p2, p3, p4⟩ := GAct.at_ (HX.out.keep hb) hlt
      have HB := Lib.hid hb
      have hsw := hb.size
      have HK := Lib.hid hxk
      have HD := Lib.hid (drop_cons hxk)
      have cF := Lib.hid (fun (w' : World) (e : Ext w w') => impl_FormatAct x w' (Lib.hid (tab_ext htab.out e)))
      have hTs := actT_size x
      obtain ⟨T, hT⟩ : ∃ T, T = actT x := ⟨_, rfl⟩
      rw [← hT] at cF hTs
      have HT := Lib.hid hT
      clear hb hxk hT
      cases hax : acOk x
      case false =>
        rw [hax] at cF
        have HN := Lib.hid (sc_bad HK.out hax)
        clear hax
        go_wp2_with (refine (cF.out _ (by have := HB.out; (repeat (first | exact Ext.refl _ | assumption | refine Ext.alloc ?_ _ | refine Ext.drew ?_ | refine Ext.drewN ?_ _ | refine Ext.setCell ?_ (by first | (simp; done) | (simp; omega)) _ | refine Ext.trans ?_ (by assumption))))).mono ?_; rintro e w1 ⟨rfl, hb1⟩; have HB1 := Lib.hid hb1; clear hb1)
        refine bodyPost_ret (v := .tuple #[.string ⟨#[]⟩, .bool false]) (by simp [results, Tryd.results19, go_sem, *]) rfl ⟨by rw [HN.out, scT, HN.out]; rfl, (by refine Ext.trans ?_ HB1.out; have := HB.out; (repeat (first | exact Ext.refl _ | assumption | refine Ext.alloc ?_ _ | refine Ext.drew ?_ | refine Ext.drewN ?_ _ | refine Ext.setCell ?_ (by first | (simp; done) | (simp; omega)) _ | refine Ext.trans ?_ (by assumption))))⟩
      case true =>
        rw [hax] at cF
        have HA2 := Lib.hid (all_snoc HK.out hax hall.out)
        clear hax
        have hts : (t ++ (T ++ nl1)).size ≤ 100 * (k + 1) := by
          rw [ByteArray.size_append, ByteArray.size_append]
          have : nl1.size = 1 := rfl
          omega
        have HZ : Hid (scF ⟨#[]⟩ ac = scF (t ++ (T ++ nl1)) (ac.drop (k + 1))) := by unfold Hid; rw [hz.out, HD.out, scF, ← HT.out]
        go_wp2_with (refine (cF.out _ (by have := HB.out; (repeat (first | exact Ext.refl _ | assumption | refine Ext.alloc ?_ _ | refine Ext.drew ?_ | refine Ext.drewN ?_ _ | refine Ext.setCell ?_ (by first | (simp; done) | (simp; omega)) _ | refine Ext.trans ?_ (by assumption))))).mono ?_; rintro e w1 ⟨rfl, hb1⟩; have HB1 := Lib.hid hb1; have hs1 := hb1.size; clear hb1)
        go_roundw
        case rel => exact ⟨k + 1, t ++ (T ++ nl1), by omega, by go_num, rfl, hts, HZ, HA2, (by refine Ext.trans ?_ HB1.out; have := HB.out; (repeat (first | exact Ext.refl _ | assumption | refine Ext.alloc ?_ _ | refine Ext.drew ?_ | refine Ext.drewN ?_ _ | refine Ext.setCell ?_ (by first | (simp; done) | (simp; omega)) _ | refine Ext.trans ?_ (by assumption))))⟩
        case measure => simp [intOf]; omega
    · obtain rfl : k = n := by omega
      have hok : scOk ac = true := by
        have h1 := hall.out
        have h2 := hl.out
        rw [List.take_of_length_le (by omega)] at h1
        unfold scOk
        rw [h1]
        simp; omega
      have HT : Hid (scT ac = t) := by unfold Hid; rw [scT, if_pos hok, hz.out, drop_nil (by rw [hl.out]; omega)]; rfl
      have HK := Lib.hid hok
      have HB := Lib.hid hb
      clear hb hok
      go_wp2_with fail
      refine bodyPost_ret (v := .tuple #[.string t, .bool true]) (by simp [results, Tryd.results19, go_sem, *]) rfl ⟨by rw [HK.out, HT.out], HB.out⟩
end Go.Proofs.YtcmbjkidgemdaaaDoor
