/- Texts of one proof, laid one behind the other (ST6, MR, SPb, SPc, NM2, H9, STc); no condition but what stands at each theorem. -/
import Derived.Lib.AppendStr
import Derived.Deep.DeepCutAuto
import Derived.Test.YtfmifllcbbfpoaaGreatDoorZF
import Derived.Test.YtfmifllcbbfpoaaGreatDoorZH
import Derived.Test.YtfmifllcbbfpoaaGreatDoorZI
import Derived.Test.YtfmifllcbbfpoaaGreatDoorZJ
import Derived.Test.YtfmifllcbbfpoaaGreatDoorZL
import Derived.Test.YtfmifllcbbfpoaaGreatDoorZN
/- ScriptText of both sides; no condition but what stands at each theorem. -/
namespace Go.Proofs.YtfmifllcbbfpoaaGreatDoor
set_option linter.unusedSimpArgs false
set_option linter.unusedVariables false
open Go.RowKit Go.Sort
/-- A string appended to a row of bytes of the call's own. -/
theorem appendStr {ops : Array Oper} {rest : List Oper} {o : Oper} {a : Act} {Q : Exit → Act → World → Prop} (hgd : o.guard = none) (sl x : Operand)
    (ho : o.op = .call { callee := .builtin .append, args := #[sl, x], argTypes := #[22, 9] }) (base : Nat) (W : World) (v : Value) (n : Nat) (xs : List Value) (hs : a.eval sl = v) (hown : W.ownsRow base 5 1 v n xs)
    (s : ByteArray) (hx : a.eval x = .string s) (hn : n + s.size ≤ 1048576) (hbase : base ≤ W.heap.size)
    (h : ∀ v' w', w'.ownsRow base 5 1 v' (n + s.size) (xs ++ Lib.strCells s) → (∀ b, Ext b W → b.heap.size ≤ base → Ext b w') → wpList Tryz.prog ops Q rest (a.put o.dst v') w') : wpList Tryz.prog ops Q (o :: rest) a W := by
  have hin : (Tryz.prog.info? 5).map (fun i => (i.zero, i.size, i.bytes)) = some (some (.int .u8 0), 1, 1) := by kernel_rfl
  cases hi : Tryz.prog.info? 5 with
  | none => rw [hi] at hin; cases hin
  | some i =>
    rw [hi] at hin
    simp only [Option.map_some, Option.some.injEq, Prod.mk.injEq] at hin
    obtain ⟨hz, hsz, hby⟩ := hin
    refine Lib.wpList_append_own_string (w := W) hgd sl x 22 9 ho base 5 i Tryz.underlying22 Tryz.underlying9 hi hz hsz hby v n xs hs hown s hx (by unfold maxLen; omega) (by omega) hbase ?_
    intro v' w' h2 h3 _
    refine h v' w' h2 fun b hb hbb => Ext.grown hb h3 fun k hk => ?_
    rcases hown.2 with ⟨rfl, _⟩ | ⟨g, cap, cur, rfl, hg, _⟩
    · cases hk
    · injection hk with hk
      subst hk
      show b.heap.size ≤ g
      omega
theorem conv_own (w : World) (base : Nat) (v : Value) (s : ByteArray) (A : Option Addr) (n c : Nat) (hv : v = .slice A n c) (h : w.ownsRow base 5 1 v n (Lib.strCells s)) (hn : n = s.size) (hA : ∃ a, A = some a) :
    (convert 22 9 v).run Tryz.prog w = .ok (.string s) w := by
  subst hv hn
  obtain ⟨a, rfl⟩ := hA
  have hl : s.data.toList.length = s.size := by rw [Array.length_toList]; rfl
  obtain ⟨-, -, hr⟩ := Rd.of_own h
  have := run_convert_bytes_back (P := Tryz.prog) w 22 9 5 a c s.data.toList Tryz.underlying22 Tryz.underlying5 Tryz.underlying9 (by
    intro j hj
    obtain ⟨b, o, e, hb, hc⟩ := hr (by omega)
    injection e with e
    subst e
    rw [show (Addr.add ⟨b, o, none⟩ j) = ⟨b, o + j, none⟩ by simp [Addr.add]]
    exact hc j _ (by rw [Lib.strCells, List.getElem?_map, List.getElem?_eq_getElem hj]; rfl))
  rw [hl] at this
  exact this
def nl1 : ByteArray := ⟨#[10]⟩
/-- The texts of acts, each closed by a new line, behind a text. -/
def scF (t : ByteArray) : List GAct → ByteArray
  | [] => t
  | a :: r => scF (t ++ (actT a ++ nl1)) r
def scOk (ac : List GAct) : Bool := decide (ac.length ≤ 40) && ac.all acOk
def scT (ac : List GAct) : ByteArray := if scOk ac then scF ⟨#[]⟩ ac else ⟨#[]⟩
theorem actT_size (a : GAct) : (actT a).size ≤ 96 := by
  unfold actT
  split
  · next hok =>
    obtain ⟨hk, hx, hy, hz, hu⟩ := ac_cases hok
    have h1 := numsF_size ([a.a, a.b, a.c, a.d].take (cntOf a.k)) (wordOf a.k) (fun v hv => vals_ok hx hy hz hu v (List.mem_of_mem_take hv))
    have h2 : ([a.a, a.b, a.c, a.d].take (cntOf a.k)).length ≤ 4 := by rw [List.length_take]; simp; omega
    have h3 : (wordOf a.k).size ≤ 5 := by
      unfold wordOf
      repeat (split; decide)
      decide
    omega
  · decide
theorem strCells_app (a b : ByteArray) : Lib.strCells (a ++ b) = Lib.strCells a ++ Lib.strCells b := by
  simp [Lib.strCells]
theorem sc_bad {ac : List GAct} {k : Nat} {a : GAct} (h : ac[k]? = some a) (ha : acOk a = false) : scOk ac = false := by
  unfold scOk
  rw [Bool.and_eq_false_iff]
  right
  rw [Bool.eq_false_iff]
  intro hall
  rw [List.all_eq_true] at hall
  rw [hall a (List.mem_of_getElem? h)] at ha
  cases ha
theorem sc_long {ac : List GAct} (h : 40 < ac.length) : scOk ac = false := by
  unfold scOk
  rw [Bool.and_eq_false_iff]
  left
  simp; omega
theorem all_snoc {ac : List GAct} {k : Nat} {a : GAct} (h : ac[k]? = some a) (ha : acOk a = true) (hh : (ac.take k).all acOk = true) : (ac.take (k + 1)).all acOk = true := by
  rw [List.take_add_one, h, List.all_append, hh]
  simp [ha]
set_option maxRecDepth 100000 in
set_option maxHeartbeats 2000000 in
theorem impl_ScriptText (A : Option Addr) (n c : Nat) (ac : List GAct) (w : World) (hx : Rd w 5 A n (ac.flatMap GAct.enc)) (hn : n ≤ 1048576) (htab : Hid (Lib.TabIs Tryz.prog w "internal/strconv.uint64pow10" .u64 Lib.pow10Tab)) :
    Calls Tryz.prog 30 #[.slice A n c] w fun e w' => e = .returned (.tuple #[.string (scT ac), .bool (scOk ac)]) ∧ Ext w w' := by
  have hl := Lib.hid (hx.len GAct.len (by omega))
  have HX := Lib.hid hx
  clear hx
  by_cases h40 : n ≤ 40
  case neg =>
    have HN := Lib.hid (sc_long (ac := ac) (by rw [hl.out]; omega))
    have h402 : (40 : Int) < n := by omega
    go_enter Tryz.func30, Tryz.ntmps30
    go_wp2_with fail
    refine bodyPost_ret (v := .tuple #[.string ⟨#[]⟩, .bool false]) (by simp [results, Tryz.results30, go_sem, *]) rfl ⟨by rw [HN.out, scT, HN.out]; rfl, Ext.refl _⟩
  case pos =>
  have h401 : (n : Int) ≤ 40 := by omega
  go_enter Tryz.func30, Tryz.ntmps30
  go_wp2_with fail
  go_loopw [4, 14] (fun v i wr => ∃ (k : Nat) (t : ByteArray), k ≤ n ∧ i = .int .i64 k ∧ v = .string t ∧ t.size ≤ 100 * k ∧ Hid (scF ⟨#[]⟩ ac = scF t (ac.drop k)) ∧ Hid ((ac.take k).all acOk = true) ∧ Ext w wr) (fun _ i _ => n - (intOf i).toNat)
  case atStart => exact ⟨0, ⟨#[]⟩, Nat.zero_le _, rfl, rfl, by decide, rfl, rfl, Ext.refl _⟩
  case round =>
    obtain ⟨k, t, hk, rfl, rfl, ht, hz, hall, hb⟩ := hrel
    by_cases hlt : k < n
    · obtain ⟨b, off, x, rfl, hbs, hxk, p0, p1, p2, p3, p4⟩ := GAct.at_ (HX.out.keep hb) hlt
      have HB := Lib.hid hb
      have hsw := hb.size
      have HK := Lib.hid hxk
      have HD := Lib.hid (drop_cons hxk)
      have cF := Lib.hid (fun (w' : World) (e : Ext w w') => impl_FormatAct x w' (Lib.hid (tab_ext htab.out e)))
      have hTs := actT_size x
      obtain ⟨T, hT⟩ : ∃ T, T = actT x := ⟨_, rfl⟩
      rw [← hT] at cF hTs
      have HT := Lib.hid hT
      clear hb hxk hT
      cases hax : acOk x
      case false =>
        rw [hax] at cF
        have HN := Lib.hid (sc_bad HK.out hax)
        clear hax
        go_wp2_with (refine (cF.out _ (by have := HB.out; (repeat (first | exact Ext.refl _ | assumption | refine Ext.alloc ?_ _ | refine Ext.drew ?_ | refine Ext.drewN ?_ _ | refine Ext.setCell ?_ (by first | (simp; done) | (simp; omega)) _ | refine Ext.trans ?_ (by assumption))))).mono ?_; rintro e w1 ⟨rfl, hb1⟩; have HB1 := Lib.hid hb1; clear hb1)
        refine bodyPost_ret (v := .tuple #[.string ⟨#[]⟩, .bool false]) (by simp [results, Tryz.results30, go_sem, *]) rfl ⟨by rw [HN.out, scT, HN.out]; rfl, (by refine Ext.trans ?_ HB1.out; have := HB.out; (repeat (first | exact Ext.refl _ | assumption | refine Ext.alloc ?_ _ | refine Ext.drew ?_ | refine Ext.drewN ?_ _ | refine Ext.setCell ?_ (by first | (simp; done) | (simp; omega)) _ | refine Ext.trans ?_ (by assumption))))⟩
      case true =>
        rw [hax] at cF
        have HA2 := Lib.hid (all_snoc HK.out hax hall.out)
        clear hax
        have hts : (t ++ (T ++ nl1)).size ≤ 100 * (k + 1) := by
          rw [ByteArray.size_append, ByteArray.size_append]
          have : nl1.size = 1 := rfl
          omega
        have HZ : Hid (scF ⟨#[]⟩ ac = scF (t ++ (T ++ nl1)) (ac.drop (k + 1))) := by unfold Hid; rw [hz.out, HD.out, scF, ← HT.out]
        go_wp2_with (refine (cF.out _ (by have := HB.out; (repeat (first | exact Ext.refl _ | assumption | refine Ext.alloc ?_ _ | refine Ext.drew ?_ | refine Ext.drewN ?_ _ | refine Ext.setCell ?_ (by first | (simp; done) | (simp; omega)) _ | refine Ext.trans ?_ (by assumption))))).mono ?_; rintro e w1 ⟨rfl, hb1⟩; have HB1 := Lib.hid hb1; have hs1 := hb1.size; clear hb1)
        go_roundw
        case rel => exact ⟨k + 1, t ++ (T ++ nl1), by omega, by go_num, rfl, hts, HZ, HA2, (by refine Ext.trans ?_ HB1.out; have := HB.out; (repeat (first | exact Ext.refl _ | assumption | refine Ext.alloc ?_ _ | refine Ext.drew ?_ | refine Ext.drewN ?_ _ | refine Ext.setCell ?_ (by first | (simp; done) | (simp; omega)) _ | refine Ext.trans ?_ (by assumption))))⟩
        case measure => simp [intOf]; omega
    · obtain rfl : k = n := by omega
      have hok : scOk ac = true := by
        have h1 := hall.out
        have h2 := hl.out
        rw [List.take_of_length_le (by omega)] at h1
        unfold scOk
        rw [h1]
        simp; omega
      have HT : Hid (scT ac = t) := by unfold Hid; rw [scT, if_pos hok, hz.out, drop_nil (by rw [hl.out]; omega)]; rfl
      have HK := Lib.hid hok
      have HB := Lib.hid hb
      clear hb hok
      go_wp2_with fail
      refine bodyPost_ret (v := .tuple #[.string t, .bool true]) (by simp [results, Tryz.results30, go_sem, *]) rfl ⟨by rw [HK.out, HT.out], HB.out⟩
end Go.Proofs.YtfmifllcbbfpoaaGreatDoor
/- Scripts read line by line, and texts of acts read back, in plain Lean; no condition. -/
namespace Go.Proofs.YtfmifllcbbfpoaaGreatDoor
set_option linter.unusedSimpArgs false
set_option linter.unusedVariables false
open Go.RowKit Go.Sort
theorem wd_tailR : ∀ (fs : List (List UInt8)) (cur r : List UInt8), cur ≠ [] → (∀ f ∈ fs, f ≠ [] ∧ bfree f) → wds cur (Lib.joinTail [32] fs ++ 32 :: r) = cur :: (fs ++ wds [] r)
  | [], cur, r, h, _ => by
    rw [show Lib.joinTail [32] [] ++ 32 :: r = (32 : UInt8) :: r from rfl, wd_n h]; rfl
  | g :: fs, cur, r, h, hf => by
    have hg := hf g (List.mem_cons_self ..)
    rw [show Lib.joinTail [32] (g :: fs) ++ 32 :: r = 32 :: (g ++ (Lib.joinTail [32] fs ++ 32 :: r)) by simp [Lib.joinTail], wd_n h, wd_word g [] _ hg.2, List.nil_append, wd_tailR fs g r hg.1 (fun f h => hf f (List.mem_cons_of_mem _ h))]
    rfl
theorem wd_joinR {f : List UInt8} {fs : List (List UInt8)} (r : List UInt8) (hf : ∀ g ∈ f :: fs, g ≠ [] ∧ bfree g) : wds [] (Lib.join (f :: fs) [32] ++ 32 :: r) = f :: fs ++ wds [] r := by
  have h := hf f (List.mem_cons_self ..)
  rw [Lib.join_cons, List.append_assoc, wd_word f [] _ h.2, List.nil_append, wd_tailR fs f r h.1 (fun g hg => hf g (List.mem_cons_of_mem _ hg))]
  rfl
theorem actW_cons (a : GAct) : ∃ f fs, actW a = f :: fs := ⟨_, _, rfl⟩
theorem actT_list {a : GAct} (h : acOk a = true) : (actT a).data.toList = Lib.join (actW a) [32] := by rw [actT_jb h]; simp [jb]
theorem act_fields {a : GAct} (h : acOk a = true) : fieldsOf (actT a) = actW a := by
  unfold fieldsOf
  rw [actT_list h]
  have hg := actW_good h
  obtain ⟨f, fs, e⟩ := actW_cons a
  rw [e] at hg ⊢
  rw [wd_joinR [] hg, wd_nil, List.append_nil]
theorem word_pr {k : Int} : prL (wordOf k).data.toList := by
  unfold wordOf
  intro b hb
  revert b
  repeat (split; decide)
  decide
theorem actW_pr {a : GAct} (h : acOk a = true) : ∀ l ∈ actW a, prL l := by
  obtain ⟨hk, hx, hy, hz, hu⟩ := ac_cases h
  intro l hl
  unfold actW at hl
  rcases List.mem_cons.1 hl with rfl | hl
  · exact word_pr
  · obtain ⟨x, hx', rfl⟩ := List.mem_map.1 hl
    exact itext_pr (vals_ok hx hy hz hu x (List.mem_of_mem_take hx')).1
theorem actT_pr {a : GAct} (h : acOk a = true) : prL (actT a).data.toList := by
  rw [actT_list h]
  exact pr_join (actW_pr h)
theorem act_sp {a : GAct} (h : acOk a = true) : spOk (actT a) = true := by
  unfold spOk
  rw [act_fields h, Bool.and_eq_true, Bool.and_eq_true]
  refine ⟨⟨?_, ?_⟩, ?_⟩
  · have := actT_size a; simp; omega
  · rw [prB_iff]; exact actT_pr h
  · have := (actW_len a).2; simp; omega
/-- An act's text between blanks. -/
def padT (x : ByteArray) : ByteArray := (⟨#[32, 32]⟩ : ByteArray) ++ x ++ sp1
theorem pad_list (x : ByteArray) : (padT x).data.toList = 32 :: 32 :: (x.data.toList ++ [32]) := by simp [padT, sp1]
theorem pad_fields {a : GAct} (h : acOk a = true) : fieldsOf (padT (actT a)) = actW a := by
  unfold fieldsOf
  rw [pad_list, actT_list h]
  have hg := actW_good h
  obtain ⟨f, fs, e⟩ := actW_cons a
  rw [e] at hg ⊢
  rw [List.cons_append, List.cons_append, wd_e, wd_e, List.append_assoc, show ([32] ++ [32] : List UInt8) = 32 :: [32] from rfl, wd_joinR [32] hg, wd_e, wd_nil, List.append_nil]
theorem pad_sp {a : GAct} (h : acOk a = true) : spOk (padT (actT a)) = true := by
  have hs : (padT (actT a)).size = (actT a).size + 3 := by
    rw [← toList_size, pad_list]; simp
  unfold spOk
  rw [pad_fields h, Bool.and_eq_true, Bool.and_eq_true]
  refine ⟨⟨?_, ?_⟩, ?_⟩
  · have := actT_size a; simp; omega
  · rw [prB_iff, pad_list]
    have hp := actT_pr h
    intro b hb
    simp only [List.mem_cons, List.mem_append, List.not_mem_nil, or_false] at hb
    rcases hb with rfl | rfl | hb | rfl
    · decide
    · decide
    · exact hp b hb
    · decide
  · have := (actW_len a).2; simp; omega
theorem pad_PA {a : GAct} (h : acOk a = true) {a' : GAct} {b : Bool} (hp : PA (padT (actT a)) a' b) : a' = a ∧ b = true := pa_eq hp (.inl ⟨rfl, pad_sp h, h, pad_fields h⟩)
open Classical in
noncomputable def parseA (x : ByteArray) : GAct × Bool := if h : ∃ a, spOk x = true ∧ acOk a = true ∧ fieldsOf x = actW a then (h.choose, true) else (⟨0, 0, 0, 0, 0⟩, false)
theorem parseA_PA (x : ByteArray) : PA x (parseA x).1 (parseA x).2 := by
  unfold parseA
  split
  · rename_i h
    exact .inl ⟨rfl, h.choose_spec.1, h.choose_spec.2.1, h.choose_spec.2.2⟩
  · rename_i h
    exact .inr ⟨rfl, rfl, fun a' h0 h1 h2 => h ⟨a', h0, h1, h2⟩⟩
theorem parseA_of {x : ByteArray} {a : GAct} {b : Bool} (h : PA x a b) : parseA x = (a, b) := by
  obtain ⟨h1, h2⟩ := pa_eq (parseA_PA x) h
  exact Prod.ext h1 h2
def blankB (x : ByteArray) : Bool := spOk x && decide ((fieldsOf x).length = 0)
noncomputable def scR : List ByteArray → List GAct → Option (List GAct)
  | [], acc => some acc
  | x :: r, acc => if blankB x then scR r acc else if (parseA x).2 then scR r (acc ++ [(parseA x).1]) else none
def linesB (x : ByteArray) : List ByteArray := (cuts 10 x.data.toList).map fun l => ⟨l.toArray⟩
noncomputable def scriptO (x : ByteArray) : Option (List GAct) := if x.size ≤ 20000 then (scR (linesB x) []).bind fun l => if l.length ≤ 40 then some l else none else none
noncomputable def outL (acts : List GAct) : List ByteArray := (runL sampleM acts).map itext ++ fmtL (runM sampleM acts)
noncomputable def scriptL (x : ByteArray) : List ByteArray := match scriptO x with
  | none => []
  | some l => outL l
noncomputable def scriptB (x : ByteArray) : Bool := (scriptO x).isSome
theorem cuts_script : ∀ (acts : List GAct), acts.all acOk = true → cuts 10 (acts.flatMap fun a => (actT a).data.toList ++ [10]) = (acts.map fun a => (actT a).data.toList) ++ [[]]
  | [], _ => rfl
  | a :: r, h => by
    rw [List.all_cons, Bool.and_eq_true] at h
    rw [List.flatMap_cons, List.append_assoc, show ([10] ++ r.flatMap fun a => (actT a).data.toList ++ [10]) = (10 : UInt8) :: (r.flatMap fun a => (actT a).data.toList ++ [10]) from rfl, cuts_app _ (fun b hb e => ?_), cuts_script r h.2]
    · rfl
    · have := actT_pr h.1 b hb
      rw [e] at this
      exact absurd this.1 (by decide)
theorem scF_list : ∀ (acts : List GAct) (t : ByteArray), (scF t acts).data.toList = t.data.toList ++ acts.flatMap fun a => (actT a).data.toList ++ [10]
  | [], t => by simp [scF]
  | a :: r, t => by rw [scF, scF_list r]; simp [nl1]
theorem scR_acts : ∀ (acts acc : List GAct), acts.all acOk = true → scR ((acts.map actT) ++ [⟨#[]⟩]) acc = some (acc ++ acts)
  | [], acc, _ => by
    rw [List.map_nil, List.nil_append, scR, if_pos (by decide), scR, List.append_nil]
  | a :: r, acc, h => by
    rw [List.all_cons, Bool.and_eq_true] at h
    have hp : parseA (actT a) = (a, true) := parseA_of (.inl ⟨rfl, act_sp h.1, h.1, act_fields h.1⟩)
    have hb : blankB (actT a) = false := by
      unfold blankB
      rw [act_fields h.1]
      have := (actW_len a).1
      simp only [Bool.and_eq_false_iff, decide_eq_false_iff_not]
      right; omega
    rw [List.map_cons, List.cons_append, scR, if_neg (by rw [hb]; decide), hp, if_pos rfl, scR_acts r _ h.2, List.append_assoc]
    rfl
theorem scF_size : ∀ (acts : List GAct) (t : ByteArray), (scF t acts).size ≤ t.size + 97 * acts.length
  | [], t => by simp [scF]
  | a :: r, t => by
    have h1 := scF_size r (t ++ (actT a ++ nl1))
    have h2 := actT_size a
    rw [ByteArray.size_append, ByteArray.size_append] at h1
    have : nl1.size = 1 := rfl
    rw [scF]
    simp only [List.length_cons]
    omega
theorem script_back {acts : List GAct} (h : scOk acts = true) : scriptO (scT acts) = some acts := by
  unfold scT
  rw [if_pos h]
  unfold scOk at h
  simp only [Bool.and_eq_true, decide_eq_true_eq] at h
  have hs := scF_size acts ⟨#[]⟩
  have h0 : (⟨#[]⟩ : ByteArray).size = 0 := rfl
  have hl : linesB (scF ⟨#[]⟩ acts) = acts.map actT ++ [⟨#[]⟩] := by
    unfold linesB
    rw [scF_list, show (⟨#[]⟩ : ByteArray).data.toList = [] from rfl, List.nil_append, cuts_script acts h.2, List.map_append, List.map_map]
    rfl
  unfold scriptO
  rw [if_pos (by omega), hl, scR_acts acts [] h.2, List.nil_append]
  show (if acts.length ≤ 40 then some acts else none) = some acts
  rw [if_pos h.1]
end Go.Proofs.YtfmifllcbbfpoaaGreatDoor
/- FormatMuseum of the reference; no condition but what stands at each theorem. -/
namespace Go.Proofs.YtfmifllcbbfpoaaGreatDoor
set_option linter.unusedSimpArgs false
set_option linter.unusedVariables false
open Go.RowKit Go.Sort
theorem brok_ent : ∀ (rs : List GEntry) (s : Int) (p : Option Int) (k : Nat), brokF s p k rs = -1 → ∀ e ∈ rs, (0 ≤ e.m ∧ e.m ≤ 1000000) ∧ (0 ≤ e.s ∧ e.s ≤ 1000002) ∧ e.x.size ≤ 200
  | [], _, _, _, _, _, h => by cases h
  | e :: r, s, p, k, h, y, hy => by
    rw [brokF] at h
    split at h
    · omega
    · rename_i hc
      simp only [Bool.or_eq_true, not_or, decide_eq_true_eq, bne_iff_ne, ne_eq, Decidable.not_not] at hc
      rcases List.mem_cons.1 hy with rfl | hy
      · have h1 := hc.1
        have h4 := hc.2.1
        have h5 := sealB_bd s y.m y.x
        unfold sealB at h1
        split at h1
        · rename_i h2
          simp only [inB, Bool.and_eq_true, decide_eq_true_eq] at h2
          have h3 := h2.2.2
          unfold digest at h3
          split at h3
          · exact ⟨h2.2.1, by omega, by assumption⟩
          · omega
        · omega
      · exact brok_ent r _ _ _ h y hy
theorem museum_ent {m : GMuseum} (h : museumB m = true) : ∀ e ∈ m.rs, (0 ≤ e.m ∧ e.m ≤ 1000000) ∧ (0 ≤ e.s ∧ e.s ≤ 1000002) ∧ e.x.size ≤ 200 := by
  have h7 := (museumB_parts.1 h).2.2.2.2.2.2.1
  unfold sealedB brokenI at h7
  simp only [Bool.and_eq_true, decide_eq_true_eq, beq_iff_eq] at h7
  exact brok_ent _ _ _ _ h7.2
theorem halls_bd {H : Int} {ds : List GDoor} {xs : List Int} (h : hallsB H ds xs = true) : ∀ x ∈ xs, 0 ≤ x ∧ x ≤ 1000000 := by
  unfold hallsB at h
  simp only [Bool.and_eq_true, List.all_eq_true] at h
  intro x hx
  have h1 := (hallB_iff h.2).1 (h.1 x hx)
  have h2 := house_HG h.2
  omega
def sv (l : List ByteArray) : List Value := l.map Value.string
theorem sv_len (l : List ByteArray) : (sv l).length = l.length := by simp [sv]
theorem sv_snoc (l : List ByteArray) (x : ByteArray) : sv (l ++ [x]) = sv l ++ [.string x] := by simp [sv]
theorem one_strF (s : ByteArray) : ∀ u ∈ [Value.string s], u.oneCell' = true := by intro u hu; simp at hu; subst hu; rfl
theorem ei_SF : EI Tryz.prog 62 9 1 := ei_of Tryz.underlying62 (by omega) (by kernel_rfl)
def FmtPost (m : GMuseum) (w : World) (e : Ending) (w' : World) : Prop := ∃ v, e = .returned v ∧ Ext w w' ∧ w'.ownsRow w.heap.size 9 1 v (fmtL m).length (sv (fmtL m))
def head3 (m : GMuseum) : List ByteArray := [numsF wObj m.ps, numsF wGua m.gs, numsF wDay [m.d]]
theorem fmt_yes {m : GMuseum} (h : museumB m = true) : fmtL m = head3 m ++ m.rs.map entT := by unfold fmtL; rw [if_pos h]; rfl
theorem fmt_no {m : GMuseum} (h : museumB m = false) : fmtL m = [] := by unfold fmtL; rw [h]; rfl
set_option maxRecDepth 100000 in
set_option maxHeartbeats 2000000 in
theorem spec_l39Line (s : ByteArray) (A : Option Addr) (n c : Nat) (xs : List Int) (w : World) (hx : Rd w 1 A n (xs.flatMap ienc)) (hn : n ≤ 6) (hs : s.size ≤ 8) (hxs : Hid (∀ x ∈ xs, 0 ≤ x ∧ x ≤ 1000000)) :
    Calls Tryz.prog 117 #[.string s, .slice A n c] w fun e w' => e = .returned (.string (numsF s xs)) ∧ Ext w w' := by
  have hl := Lib.hid (hx.len ienc_len (by omega))
  have HX := Lib.hid hx
  clear hx
  go_enter Tryz.func117, Tryz.ntmps117
  go_wp2_with fail
  go_loopw [0, 5] (fun s' i wr => ∃ (k : Nat) (t : ByteArray), k ≤ n ∧ i = .int .i64 k ∧ s' = .string t ∧ t.size ≤ 8 + 30 * k ∧ Hid (numsF s xs = numsF t (xs.drop k)) ∧ Ext w wr) (fun _ i _ => n - (intOf i).toNat)
  case atStart => exact ⟨0, s, Nat.zero_le _, rfl, rfl, by omega, by unfold Hid; simp, Ext.refl _⟩
  case round =>
    obtain ⟨k, t, hk, rfl, rfl, ht, hz, hb⟩ := hrel
    by_cases hlt : k < n
    · obtain ⟨b, off, x, rfl, hbs, hxk, p0⟩ := ienc_at (HX.out.keep hb) hlt
      obtain ⟨hx0, hx1⟩ := hxs.out x (List.mem_of_getElem? hxk)
      obtain ⟨z, rfl⟩ := Int.eq_ofNat_of_zero_le hx0
      have HD := Lib.hid (drop_cons hxk)
      have HB := Lib.hid hb
      have hsz := itext_size z (by omega) (by omega)
      have HT : Hid (numsF s xs = numsF (t ++ sp1 ++ itext z) (xs.drop (k + 1))) := by unfold Hid; rw [hz.out, HD.out, numsF]
      have hts : (t ++ sp1 ++ itext z).size ≤ 8 + 30 * (k + 1) := by
        rw [ByteArray.size_append, ByteArray.size_append]
        have : sp1.size = 1 := rfl
        omega
      obtain ⟨T, hT⟩ : ∃ T, T = itext z := ⟨_, rfl⟩
      have hF := Lib.hid (fun w => spec_FormatInt z w (by omega))
      rw [← hT] at hsz HT hts hF
      clear hT hb hxk
      go_wp2_with (go_at_call 82; refine (fun h : Hid _ => h.out) ?_)
      unfold Hid
      refine (hF.out _).mono ?_
      rintro e w1 ⟨rfl, h1⟩
      have HB1 := Lib.hid (HB.out.trans h1)
      clear h1
      go_wp2_with fail
      go_roundw
      case rel => exact ⟨k + 1, t ++ sp1 ++ T, by omega, by go_num, by first | rfl | (rw [ByteArray.append_assoc]; rfl), hts, HT, HB1.out⟩
      case measure => simp [intOf]; omega
    · obtain rfl : n = k := by omega
      have HT : Hid (numsF s xs = t) := by unfold Hid; rw [hz.out, drop_nil (by rw [hl.out]; omega)]; rfl
      have HB := Lib.hid hb
      clear hb
      go_wp2_with fail
      go_ret
      exact ⟨by rw [HT.out]; rfl, HB.out⟩
set_option maxRecDepth 100000 in
set_option maxHeartbeats 4000000 in
theorem spec_FormatMuseum (v : MV) (m : GMuseum) (w : World) (hx : MRd w v m) :
    Calls Tryz.prog 83 #[v.val] w (FmtPost m w) := by
  obtain ⟨wb, hwb⟩ : ∃ wb, wb = w.alloc (.cells v.cells 30) := ⟨_, rfl⟩
  have hbx := MBox.new hwb
  have hE : Ext w wb := by rw [hwb]; exact (Ext.refl w).alloc _
  have HX := Lib.hid (hx.keep hE)
  have cM := Lib.hid (spec_MuseumOk v m wb HX.out)
  obtain ⟨Hh, ⟨A0, n0, c0⟩, ⟨A1, n1, c1⟩, ⟨A2, n2, c2⟩, ⟨A3, n3, c3⟩, day, ⟨A4, n4, c4⟩⟩ := v
  have hxp : Hid (Rd wb 1 A2 n2 (m.ps.flatMap ienc)) := HX.out.rp
  have hxg : Hid (Rd wb 1 A3 n3 (m.gs.flatMap ienc)) := HX.out.rg
  have hxr : Hid (Rd wb 3 A4 n4 (m.rs.flatMap GEntry.enc)) := HX.out.rr
  have hnr : n4 ≤ 9223372036854775807 := hxr.out.2.1
  have hlp := Lib.hid (hxp.out.len ienc_len (by omega))
  have hlg := Lib.hid (hxg.out.len ienc_len (by omega))
  have hl4 := Lib.hid (hxr.out.len GEntry.len (by omega))
  have hday : day = m.d := hx.ed
  subst hday
  have HE := Lib.hid hE
  have Hwb : Hid (wb = w.alloc (.cells #[.int .i64 Hh, .slice A0 n0 c0, .slice A1 n1 c1, .slice A2 n2 c2, .slice A3 n3 c3, .int .i64 m.d, .slice A4 n4 c4] 30)) := hwb
  have HB := Lib.hid hbx
  have hbl := hbx.lt
  have hsb : wb.heap.size = w.heap.size + 1 := by rw [hwb]; simp
  clear hE hwb hbx hx
  show Calls Tryz.prog 83 #[.agg #[.int .i64 Hh, .slice A0 n0 c0, .slice A1 n1 c1, .slice A2 n2 c2, .slice A3 n3 c3, .int .i64 m.d, .slice A4 n4 c4]] w _
  obtain ⟨b0, b1, b2, b3, b4, b5, b6⟩ := HB.out.cell
  simp only at b0 b1 b2 b3 b4 b5 b6
  cases hm : museumB m
  case false =>
    rw [hm] at cM
    have HF := Lib.hid (fmt_no hm)
    clear hm
    go_enter Tryz.func83, Tryz.ntmps83
    go_wp2_with (go_at_call 45; refine (fun h : Hid _ => h.out) ?_)
    unfold Hid
    rw [← Hwb.out]
    refine cM.out.mono ?_
    rintro e w1 ⟨rfl, h1⟩
    have HE1 := Lib.hid (HE.out.trans h1)
    have z1 := h1.size
    clear h1 b0 b1 b2 b3 b4 b5 b6
    go_wp2_with fail
    go_ret
    unfold FmtPost
    rw [HF.out]
    exact ⟨_, rfl, HE1.out.alloc _, own_empty w1 w.heap.size 9 1 (by omega)⟩
  rw [hm] at cM
  have hEnt := Lib.hid (museum_ent hm)
  have HF := Lib.hid (fmt_yes hm)
  have hpp := museumB_parts.1 hm
  have hbp := Lib.hid (halls_bd (xs := m.ps) (by have := hpp.2.1; unfold placesB at this; simp only [Bool.and_eq_true] at this; exact this.2))
  have hbg := Lib.hid (halls_bd hpp.2.2.2.2.1)
  have hd : 0 ≤ m.d ∧ m.d ≤ 1000000 := by have := hpp.2.2.2.2.2.1; simpa [inB] using this
  have hn4 : n4 ≤ 30 := by (have := sealed_len hpp.2.2.2.2.2.2.1; have := hl4.out; omega)
  have hn2 : n2 ≤ 6 := by
    have := hpp.2.1
    unfold placesB at this
    simp only [Bool.and_eq_true, decide_eq_true_eq] at this
    have h2 := hlp.out
    omega
  have hn3 : n3 ≤ 6 := by (have := hpp.2.2.2.1; have := hlg.out; omega)
  clear hm hpp
  go_enter Tryz.func83, Tryz.ntmps83
  go_wp2_with (go_at_call 45; refine (fun h : Hid _ => h.out) ?_)
  unfold Hid
  rw [← Hwb.out]
  refine cM.out.mono ?_
  rintro e w1 ⟨rfl, h1⟩
  have HE1 := Lib.hid h1
  have z1 := h1.size
  clear h1 b0 b1 b2 b3 b4 b5 b6
  obtain ⟨b0, b1, b2, b3, b4, b5, b6⟩ := (HB.out.keep HE1.out).cell
  simp only at b0 b1 b2 b3 b4 b5 b6
  go_upto_region 3 with fail
  obtain ⟨dz, hdz⟩ := Int.eq_ofNat_of_zero_le hd.1
  have hds := itext_size m.d (by omega) (by omega)
  have cO := Lib.hid (fun W (he : Ext wb W) => spec_l39Line ⟨#[111, 98, 106, 101, 99, 116, 115]⟩ A2 n2 c2 m.ps W (hxp.out.keep he) hn2 (by decide) hbp)
  have cG := Lib.hid (fun W (he : Ext wb W) => spec_l39Line ⟨#[103, 117, 97, 114, 100, 115]⟩ A3 n3 c3 m.gs W (hxg.out.keep he) hn3 (by decide) hbg)
  have cD : Hid (∀ W, Calls Tryz.prog 82 #[.int .i64 m.d] W fun e w' => e = .returned (.string (itext m.d)) ∧ Ext W w') := Lib.hid (fun W => by rw [hdz]; exact spec_FormatInt dz W (by omega))
  clear hdz
  obtain ⟨TO, hTO⟩ : ∃ T, T = numsF wObj m.ps := ⟨_, rfl⟩
  obtain ⟨TG, hTG⟩ : ∃ T, T = numsF wGua m.gs := ⟨_, rfl⟩
  obtain ⟨TD, hTD⟩ : ∃ T, T = itext m.d := ⟨_, rfl⟩
  rw [show numsF ⟨#[111, 98, 106, 101, 99, 116, 115]⟩ m.ps = TO from hTO.symm] at cO
  rw [show numsF ⟨#[103, 117, 97, 114, 100, 115]⟩ m.gs = TG from hTG.symm] at cG
  rw [← hTD] at cD hds
  have H3 : Hid (head3 m = [TO, TG, ⟨#[100, 97, 121, 32]⟩ ++ TD]) := Lib.hid (by
    unfold head3
    rw [← hTO, ← hTG, hTD]
    rfl)
  have ga : ∀ W, (Op.stringOp .add ⟨#[100, 97, 121, 32]⟩ TD).run Tryz.prog W = .ok (.string (⟨#[100, 97, 121, 32]⟩ ++ TD)) W := fun W => run_string_add_sum W _ _ (by (have : (⟨#[100, 97, 121, 32]⟩ : ByteArray).size = 4 := rfl); omega)
  have gb : ¬ 9223372036854775807 < (⟨#[100, 97, 121, 32]⟩ : ByteArray).size + TD.size := by (have : (⟨#[100, 97, 121, 32]⟩ : ByteArray).size = 4 := rfl); omega
  have gc : ¬ 9223372036854775807 < 4 + TD.size := by omega
  clear hTO hTG hTD
  go_cut [3] (fun p wx => Hid (wx.ownsRow wb.heap.size 9 1 p 3 (sv (head3 m))) ∧ Hid (Ext wb wx))
  case first =>
    go_region_held3 (fun w' => w'.cell? ⟨w.heap.size, 3, none⟩ = some (.slice A2 n2 c2) ∧ w'.cell? ⟨w.heap.size, 4, none⟩ = some (.slice A3 n3 c3) ∧ w'.cell? ⟨w.heap.size, 5, none⟩ = some (.int .i64 m.d)) (go_keep) (first
      | (go_at_call_of 117 (Value.string ⟨#[111, 98, 106, 101, 99, 116, 115]⟩); refine (cO.out _ (HE1.out.trans (Ext.refl _).drew)).mono ?_; rintro e wA ⟨rfl, hA⟩; have eA : Ext w1 wA := (Ext.trans (Ext.refl _).drew hA); obtain ⟨-, -, -, r3, r4, r5, -⟩ := (HB.out.keep (HE1.out.trans eA)).cell; simp only at r3 r4 r5)
      | (go_at_call_of 117 (Value.string ⟨#[103, 117, 97, 114, 100, 115]⟩); refine (cG.out _ (HE1.out.trans eA)).mono ?_; rintro e wB ⟨rfl, hB⟩; have eB : Ext w1 wB := (eA.trans hB); obtain ⟨-, -, -, s3, s4, s5, -⟩ := (HB.out.keep (HE1.out.trans eB)).cell; simp only at s3 s4 s5)
      | (go_at_call 82; refine (cD.out _).mono ?_; rintro e wC ⟨rfl, hC⟩; have eC : Ext w1 wC := (eB.trans hC); obtain ⟨-, -, -, t3, t4, t5, -⟩ := (HB.out.keep (HE1.out.trans eC)).cell; simp only at t3 t4 t5))
    all_goals go_wp2_with fail
    all_goals go_meet
    all_goals exact ⟨Lib.hid (by rw [H3.out]; exact own_of_blk (by (have := (HE1.out.trans eC).size); omega) (Blk.new _ _ _) (by simp) (by unfold maxLen; omega) rfl), Lib.hid ((HE1.out.trans eC).alloc _)⟩
  case rest =>
  obtain ⟨HO3, HE3⟩ := hcut
  obtain ⟨w3, rfl⟩ : ∃ x, x = wc := ⟨_, rfl⟩
  clear b0 b1 b2 b3 b4 b5 b6
  obtain ⟨b0, b1, b2, b3, b4, b5, b6⟩ := (HB.out.keep HE3.out).cell
  simp only at b0 b1 b2 b3 b4 b5 b6
  have hL3 : (head3 m).length = 3 := rfl
  go_wp2_with fail
  go_loopw [3, 4] (fun o i wr => ∃ k : Nat, k ≤ n4 ∧ i = .int .i64 k ∧ Hid (wr.ownsRow wb.heap.size 9 1 o (3 + k) (sv (head3 m ++ (m.rs.take k).map entT))) ∧ Hid (Ext wb wr)) (fun _ i _ => n4 - (intOf i).toNat)
  case atStart => exact ⟨0, Nat.zero_le _, rfl, by unfold Hid; simpa using HO3.out, HE3⟩
  case round =>
    obtain ⟨k, hk, rfl, hown, hb⟩ := hrel
    clear b0 b1 b2 b3 b4 b5 b6
    by_cases hlt : k < n4
    · obtain ⟨b, off, x, rfl, hbs, hxk, p0, p1, p2⟩ := GEntry.at_ (hxr.out.keep hb.out) hlt
      obtain ⟨⟨hm0, hm1⟩, ⟨hs0, hs1⟩, hxs⟩ := hEnt.out x (List.mem_of_getElem? hxk)
      have HN : Hid (sv (head3 m ++ (m.rs.take (k + 1)).map entT) = sv (head3 m ++ (m.rs.take k).map entT) ++ [.string (entT x)]) := Lib.hid (by
        rw [take_snoc hxk, List.map_append, ← List.append_assoc]; exact sv_snoc _ _)
      obtain ⟨b0, b1, b2, b3, b4, b5, b6⟩ := (HB.out.keep hb.out).cell
      simp only at b0 b1 b2 b3 b4 b5 b6
      obtain ⟨we, hwe⟩ : ∃ we, we = wr.alloc (.cells #[.int .i64 x.m, .string x.x, .int .i64 x.s] 43) := ⟨_, rfl⟩
      have hBe : Blk we wr.heap.size 43 #[.int .i64 x.m, .string x.x, .int .i64 x.s] := by rw [hwe]; exact Blk.new _ _ _
      have hee : Ext wr we := by rw [hwe]; exact (Ext.refl _).alloc _
      have hsz1 := itext_size x.m (by omega) (by omega)
      have hsz2 := itext_size x.s (by omega) (by omega)
      have cF1 : Hid (∀ W, Ext we W → Calls Tryz.prog 82 #[.int .i64 x.m] W fun e w' => e = .returned (.string (itext x.m)) ∧ Ext W w') := Lib.hid (fun W _ => by
        obtain ⟨z, hz⟩ := Int.eq_ofNat_of_zero_le hm0
        rw [hz]; exact spec_FormatInt z W (by omega))
      have cF2 : Hid (∀ W, Ext we W → Calls Tryz.prog 82 #[.int .i64 x.s] W fun e w' => e = .returned (.string (itext x.s)) ∧ Ext W w') := Lib.hid (fun W _ => by
        obtain ⟨z, hz⟩ := Int.eq_ofNat_of_zero_le hs0
        rw [hz]; exact spec_FormatInt z W (by omega))
      obtain ⟨T1, hT1⟩ : ∃ T, T = itext x.m := ⟨_, rfl⟩
      obtain ⟨T2, hT2⟩ : ∃ T, T = itext x.s := ⟨_, rfl⟩
      rw [← hT1] at cF1 hsz1
      rw [← hT2] at cF2 hsz2
      have HLn : Hid (entT x = T1 ++ sp1 ++ x.x ++ sp1 ++ T2) := Lib.hid (by rw [hT1, hT2]; rfl)
      have s1 : (⟨#[32]⟩ : ByteArray).size = 1 := rfl
      have g1 : ∀ W, (Op.stringOp .add T1 ⟨#[32]⟩).run Tryz.prog W = .ok (.string (T1 ++ ⟨#[32]⟩)) W := fun W => run_string_add_sum W _ _ (by omega)
      have g2 : ∀ W, (Op.stringOp .add (T1 ++ ⟨#[32]⟩) x.x).run Tryz.prog W = .ok (.string (T1 ++ ⟨#[32]⟩ ++ x.x)) W := fun W => run_string_add_sum W _ _ (by rw [ByteArray.size_append]; omega)
      have g3 : ∀ W, (Op.stringOp .add (T1 ++ ⟨#[32]⟩ ++ x.x) ⟨#[32]⟩).run Tryz.prog W = .ok (.string (T1 ++ ⟨#[32]⟩ ++ x.x ++ ⟨#[32]⟩)) W := fun W => run_string_add_sum W _ _ (by rw [ByteArray.size_append, ByteArray.size_append]; omega)
      have g4 : ∀ W, (Op.stringOp .add (T1 ++ ⟨#[32]⟩ ++ x.x ++ ⟨#[32]⟩) T2).run Tryz.prog W = .ok (.string (T1 ++ ⟨#[32]⟩ ++ x.x ++ ⟨#[32]⟩ ++ T2)) W := fun W => run_string_add_sum W _ _ (by rw [ByteArray.size_append, ByteArray.size_append, ByteArray.size_append]; omega)
      have i1 : ¬ 9223372036854775807 < T1.size + 1 := by omega
      have i2 : ¬ 9223372036854775807 < T1.size + 1 + x.x.size := by omega
      have i3 : ¬ 9223372036854775807 < T1.size + 1 + x.x.size + 1 := by omega
      have i4 : ¬ 9223372036854775807 < T1.size + 1 + x.x.size + 1 + T2.size := by omega
      have z0 := hBe.cellAt (i := 0) (by simp)
      have z1 := hBe.cellAt (i := 1) (by simp)
      have z2 := hBe.cellAt (i := 2) (by simp)
      simp at z0 z1 z2
      have HBe := Lib.hid hBe
      have Hee := Lib.hid hee
      have Hwe := Lib.hid hwe
      have hwbr : wb.heap.size ≤ wr.heap.size := hb.out.size
      clear hBe hee hxk hwe hT1 hT2
      go_upto_region 8 with fail
      rw [← Hwe.out]
      have HOe := Lib.hid (own_keep hown.out Hee.out)
      go_region_held3 (fun w' => w'.cell? ⟨wr.heap.size, 0, none⟩ = some (.int .i64 x.m) ∧ w'.cell? ⟨wr.heap.size, 1, none⟩ = some (.string x.x) ∧ w'.cell? ⟨wr.heap.size, 2, none⟩ = some (.int .i64 x.s)) (go_keep) (first
        | (go_at_call_of 82 (Value.int .i64 x.m); refine (cF1.out _ (Ext.refl _).drew).mono ?_; rintro e wA ⟨rfl, hA⟩; have eA : Ext we wA := (Ext.trans (Ext.refl _).drew hA); have kA := HBe.out.keep eA; have y0 := kA.cellAt (i := 0) (by simp); have y1 := kA.cellAt (i := 1) (by simp); have y2 := kA.cellAt (i := 2) (by simp); simp at y0 y1 y2)
        | (go_at_call_of 82 (Value.int .i64 x.s); refine (cF2.out _ eA).mono ?_; rintro e wB ⟨rfl, hB⟩; have eB : Ext we wB := (eA.trans hB); have kB := HBe.out.keep eB; have x0 := kB.cellAt (i := 0) (by simp); have x1 := kB.cellAt (i := 1) (by simp); have x2 := kB.cellAt (i := 2) (by simp); simp at x0 x1 x2; have zB := (Hee.out.trans eB).size)
        | (refine step_appW ei_SF (by rfl) _ _ (by rfl) wb.heap.size wB _ _ [.string (T1 ++ ⟨#[32]⟩ ++ x.x ++ ⟨#[32]⟩ ++ T2)] (by rfl) _ (3 + k) _ (by rfl) (own_keep HOe.out eB) (by rfl) rfl (one_strF _) (by omega) (by omega) ?_; intro g5 c5 w5 ho5 hg5 hv5; have e5 := ext_apartW (hb.out.trans (Hee.out.trans eB)) (own_keep HOe.out eB) (Nat.le_refl _) hg5; have B5 : Blk w5 wr.heap.size 43 #[.int .i64 x.m, .string x.x, .int .i64 x.s] := (hg5.block wr.heap.size kB.lt (fun e => by have := (hown.out.lt _ e.symm).2; omega)).trans kB; have v0 := B5.cellAt (i := 0) (by simp); have v1 := B5.cellAt (i := 1) (by simp); have v2 := B5.cellAt (i := 2) (by simp); simp at v0 v1 v2))
      have HO5 := Lib.hid ho5
      have HE5 := Lib.hid e5
      clear ho5 e5 hg5 hv5
      go_wp2_with fail
      go_roundw
      case rel => exact ⟨k + 1, by omega, by go_num, by unfold Hid; rw [HN.out, HLn.out]; exact HO5.out, HE5⟩
      case measure => simp [intOf]; omega
    · obtain rfl : n4 = k := by omega
      rw [List.take_of_length_le (by rw [hl4.out]; omega), ← HF.out] at hown
      have hfl : (fmtL m).length = 3 + n4 := by rw [HF.out, List.length_append, List.length_map, hl4.out]; rfl
      have HFL := Lib.hid hfl
      clear hfl
      obtain ⟨b0, b1, b2, b3, b4, b5, b6⟩ := (HB.out.keep hb.out).cell
      simp only at b0 b1 b2 b3 b4 b5 b6
      go_wp2_with fail
      go_ret
      exact ⟨_, rfl, HE.out.trans hb.out, by rw [HFL.out]; exact own_weak hown.out (by omega)⟩
end Go.Proofs.YtfmifllcbbfpoaaGreatDoor
/- FormatMuseum of the program; no condition but what stands at each theorem. -/
namespace Go.Proofs.YtfmifllcbbfpoaaGreatDoor
set_option linter.unusedSimpArgs false
set_option linter.unusedVariables false
open Go.RowKit Go.Sort
set_option maxRecDepth 100000 in
set_option maxHeartbeats 4000000 in
theorem impl_FormatMuseum (v : MV) (m : GMuseum) (w : World) (hx : MRd w v m) (htab : Hid (Lib.TabIs Tryz.prog w "internal/strconv.uint64pow10" .u64 Lib.pow10Tab)) :
    Calls Tryz.prog 33 #[v.val] w (FmtPost m w) := by
  obtain ⟨wb, hwb⟩ : ∃ wb, wb = w.alloc (.cells v.cells 30) := ⟨_, rfl⟩
  have hbx := MBox.new hwb
  have hE : Ext w wb := by rw [hwb]; exact (Ext.refl w).alloc _
  have HX := Lib.hid (hx.keep hE)
  have HTB := Lib.hid (tab_ext htab.out hE)
  have cM := Lib.hid (impl_MuseumOk v m wb HX.out)
  obtain ⟨Hh, ⟨A0, n0, c0⟩, ⟨A1, n1, c1⟩, ⟨A2, n2, c2⟩, ⟨A3, n3, c3⟩, day, ⟨A4, n4, c4⟩⟩ := v
  have hxp : Hid (Rd wb 1 A2 n2 (m.ps.flatMap ienc)) := HX.out.rp
  have hxg : Hid (Rd wb 1 A3 n3 (m.gs.flatMap ienc)) := HX.out.rg
  have hxr : Hid (Rd wb 3 A4 n4 (m.rs.flatMap GEntry.enc)) := HX.out.rr
  have hnr : n4 ≤ 9223372036854775807 := hxr.out.2.1
  have hlp := Lib.hid (hxp.out.len ienc_len (by omega))
  have hlg := Lib.hid (hxg.out.len ienc_len (by omega))
  have hl4 := Lib.hid (hxr.out.len GEntry.len (by omega))
  have hday : day = m.d := hx.ed
  subst hday
  have HE := Lib.hid hE
  have Hwb : Hid (wb = w.alloc (.cells #[.int .i64 Hh, .slice A0 n0 c0, .slice A1 n1 c1, .slice A2 n2 c2, .slice A3 n3 c3, .int .i64 m.d, .slice A4 n4 c4] 30)) := hwb
  have HB := Lib.hid hbx
  have hbl := hbx.lt
  have hsb : wb.heap.size = w.heap.size + 1 := by rw [hwb]; simp
  clear hE hwb hbx hx
  show Calls Tryz.prog 33 #[.agg #[.int .i64 Hh, .slice A0 n0 c0, .slice A1 n1 c1, .slice A2 n2 c2, .slice A3 n3 c3, .int .i64 m.d, .slice A4 n4 c4]] w _
  obtain ⟨b0, b1, b2, b3, b4, b5, b6⟩ := HB.out.cell
  simp only at b0 b1 b2 b3 b4 b5 b6
  cases hm : museumB m
  case false =>
    rw [hm] at cM
    have HF := Lib.hid (fmt_no hm)
    clear hm
    go_enter Tryz.func33, Tryz.ntmps33
    go_wp2_with (go_at_call 13; refine (fun h : Hid _ => h.out) ?_)
    unfold Hid
    rw [← Hwb.out]
    refine cM.out.mono ?_
    rintro e w1 ⟨rfl, h1⟩
    have HE1 := Lib.hid (HE.out.trans h1)
    have z1 := h1.size
    clear h1 b0 b1 b2 b3 b4 b5 b6
    go_wp2_with fail
    go_ret
    unfold FmtPost
    rw [HF.out]
    exact ⟨_, rfl, HE1.out, World.ownsRow_nil _ _ _ _⟩
  rw [hm] at cM
  have hEnt := Lib.hid (museum_ent hm)
  have HF := Lib.hid (fmt_yes hm)
  have hpp := museumB_parts.1 hm
  have hbp := Lib.hid (halls_bd (xs := m.ps) (by have := hpp.2.1; unfold placesB at this; simp only [Bool.and_eq_true] at this; exact this.2))
  have hbg := Lib.hid (halls_bd hpp.2.2.2.2.1)
  have hd : 0 ≤ m.d ∧ m.d ≤ 1000000 := by have := hpp.2.2.2.2.2.1; simpa [inB] using this
  have hn4 : n4 ≤ 30 := by (have := sealed_len hpp.2.2.2.2.2.2.1; have := hl4.out; omega)
  have hn2 : n2 ≤ 6 := by
    have := hpp.2.1
    unfold placesB at this
    simp only [Bool.and_eq_true, decide_eq_true_eq] at this
    have h2 := hlp.out
    omega
  have hn3 : n3 ≤ 6 := by (have := hpp.2.2.2.1; have := hlg.out; omega)
  clear hm hpp
  go_enter Tryz.func33, Tryz.ntmps33
  go_wp2_with (go_at_call 13; refine (fun h : Hid _ => h.out) ?_)
  unfold Hid
  rw [← Hwb.out]
  refine cM.out.mono ?_
  rintro e w1 ⟨rfl, h1⟩
  have HE1 := Lib.hid h1
  have z1 := h1.size
  clear h1 b0 b1 b2 b3 b4 b5 b6
  obtain ⟨b0, b1, b2, b3, b4, b5, b6⟩ := (HB.out.keep HE1.out).cell
  simp only at b0 b1 b2 b3 b4 b5 b6
  go_upto_region 3 with fail
  have cO := Lib.hid (fun W (he : Ext wb W) => impl_withNumbersG ⟨#[111, 98, 106, 101, 99, 116, 115]⟩ A2 n2 c2 m.ps W (hxp.out.keep he) hn2 (by decide) hbp (Lib.hid (tab_ext HTB.out he)))
  have cG := Lib.hid (fun W (he : Ext wb W) => impl_withNumbersG ⟨#[103, 117, 97, 114, 100, 115]⟩ A3 n3 c3 m.gs W (hxg.out.keep he) hn3 (by decide) hbg (Lib.hid (tab_ext HTB.out he)))
  have hdd : Hid (∀ x ∈ [m.d], 0 ≤ x ∧ x ≤ 1000000) := Lib.hid (fun x hx => by rw [List.mem_singleton] at hx; subst hx; exact hd)
  have cD := Lib.hid (fun W B (hr : Rd W 1 (some ⟨B, 0, none⟩) 1 ([m.d].flatMap ienc)) (he : Ext wb W) => impl_withNumbersG ⟨#[100, 97, 121]⟩ (some ⟨B, 0, none⟩) 1 1 [m.d] W hr (by omega) (by decide) hdd (Lib.hid (tab_ext HTB.out he)))
  obtain ⟨TO, hTO⟩ : ∃ T, T = numsF wObj m.ps := ⟨_, rfl⟩
  obtain ⟨TG, hTG⟩ : ∃ T, T = numsF wGua m.gs := ⟨_, rfl⟩
  obtain ⟨TD, hTD⟩ : ∃ T, T = numsF wDay [m.d] := ⟨_, rfl⟩
  rw [show numsF ⟨#[111, 98, 106, 101, 99, 116, 115]⟩ m.ps = TO from hTO.symm] at cO
  rw [show numsF ⟨#[103, 117, 97, 114, 100, 115]⟩ m.gs = TG from hTG.symm] at cG
  rw [show numsF ⟨#[100, 97, 121]⟩ [m.d] = TD from hTD.symm] at cD
  have H3 : Hid (head3 m = [TO, TG, TD]) := Lib.hid (by
    unfold head3
    rw [← hTO, ← hTG, ← hTD])
  clear hTO hTG hTD
  go_cut [3] (fun p wx => Hid (wx.ownsRow wb.heap.size 9 1 p 3 (sv (head3 m))) ∧ Hid (Ext wb wx))
  case first =>
    go_region_held3 (fun w' => w'.cell? ⟨w.heap.size, 3, none⟩ = some (.slice A2 n2 c2) ∧ w'.cell? ⟨w.heap.size, 4, none⟩ = some (.slice A3 n3 c3) ∧ w'.cell? ⟨w.heap.size, 5, none⟩ = some (.int .i64 m.d)) (go_keep) (first
      | (go_at_call_of 77 (Value.string ⟨#[111, 98, 106, 101, 99, 116, 115]⟩); refine (cO.out _ (by first | exact HE1.out.trans (Ext.refl _).drew | exact HE1.out.trans ((Ext.refl _).alloc _).drew)).mono ?_; rintro e wA ⟨rfl, hA⟩; have eA : Ext w1 wA := (by first | exact Ext.trans (Ext.refl _).drew hA | exact Ext.trans ((Ext.refl _).alloc _).drew hA); obtain ⟨-, -, -, r3, r4, r5, -⟩ := (HB.out.keep (HE1.out.trans eA)).cell; simp only at r3 r4 r5)
      | (go_at_call_of 77 (Value.string ⟨#[103, 117, 97, 114, 100, 115]⟩); refine (cG.out _ (by first | exact HE1.out.trans eA | exact (HE1.out.trans eA).alloc _)).mono ?_; rintro e wB ⟨rfl, hB⟩; have eB : Ext w1 wB := (by first | exact eA.trans hB | exact Ext.trans (eA.alloc _) hB); obtain ⟨-, -, -, s3, s4, s5, -⟩ := (HB.out.keep (HE1.out.trans eB)).cell; simp only at s3 s4 s5)
      | (go_at_call_of 77 (Value.string ⟨#[100, 97, 121]⟩); refine (cD.out _ _ (by first | exact rd_lit wB 3 [m.d] (by simp) | exact (rd_lit wA 3 [m.d] (by simp)).keep hB | exact (rd_lit w1 3 [m.d] (by simp)).keep (Ext.trans (Ext.trans (Ext.refl _).drew hA) hB)) (by first | exact HE1.out.trans eB | exact (HE1.out.trans eB).alloc _)).mono ?_; rintro e wC ⟨rfl, hC⟩; have eC : Ext w1 wC := (by first | exact eB.trans hC | exact Ext.trans (eB.alloc _) hC); obtain ⟨-, -, -, t3, t4, t5, -⟩ := (HB.out.keep (HE1.out.trans eC)).cell; simp only at t3 t4 t5))
    all_goals go_wp2_with fail
    all_goals go_meet
    all_goals exact ⟨Lib.hid (by rw [H3.out]; exact own_of_blk (by (have := (HE1.out.trans eC).size); omega) (Blk.new _ _ _) (by simp) (by unfold maxLen; omega) rfl), Lib.hid ((HE1.out.trans eC).alloc _)⟩
  case rest =>
  obtain ⟨HO3, HE3⟩ := hcut
  obtain ⟨w3, rfl⟩ : ∃ x, x = wc := ⟨_, rfl⟩
  clear b0 b1 b2 b3 b4 b5 b6
  obtain ⟨b0, b1, b2, b3, b4, b5, b6⟩ := (HB.out.keep HE3.out).cell
  simp only at b0 b1 b2 b3 b4 b5 b6
  have hL3 : (head3 m).length = 3 := rfl
  go_wp2_with fail
  go_loopw [3, 23] (fun o i wr => ∃ k : Nat, k ≤ n4 ∧ i = .int .i64 k ∧ Hid (wr.ownsRow wb.heap.size 9 1 o (3 + k) (sv (head3 m ++ (m.rs.take k).map entT))) ∧ Hid (Ext wb wr)) (fun _ i _ => n4 - (intOf i).toNat)
  case atStart => exact ⟨0, Nat.zero_le _, rfl, by unfold Hid; simpa using HO3.out, HE3⟩
  case round =>
    obtain ⟨k, hk, rfl, hown, hb⟩ := hrel
    clear b0 b1 b2 b3 b4 b5 b6
    by_cases hlt : k < n4
    · obtain ⟨b, off, x, rfl, hbs, hxk, p0, p1, p2⟩ := GEntry.at_ (hxr.out.keep hb.out) hlt
      obtain ⟨⟨hm0, hm1⟩, ⟨hs0, hs1⟩, hxs⟩ := hEnt.out x (List.mem_of_getElem? hxk)
      have HN : Hid (sv (head3 m ++ (m.rs.take (k + 1)).map entT) = sv (head3 m ++ (m.rs.take k).map entT) ++ [.string (entT x)]) := Lib.hid (by
        rw [take_snoc hxk, List.map_append, ← List.append_assoc]; exact sv_snoc _ _)
      obtain ⟨we, hwe⟩ : ∃ we, we = wr.alloc (.cells #[.int .i64 x.m, .string x.x, .int .i64 x.s] 43) := ⟨_, rfl⟩
      have hBe : Blk we wr.heap.size 43 #[.int .i64 x.m, .string x.x, .int .i64 x.s] := by rw [hwe]; exact Blk.new _ _ _
      have hee : Ext wr we := by rw [hwe]; exact (Ext.refl _).alloc _
      have hsz1 := itext_size x.m (by omega) (by omega)
      have hsz2 := itext_size x.s (by omega) (by omega)
      have cF1 : Hid (∀ W, Ext we W → Calls Tryz.prog 32 #[.int .i64 x.m] W fun e w' => e = .returned (.string (itext x.m)) ∧ Ext W w') := Lib.hid (fun W he => impl_FormatInt x.m (by omega) (by omega) W (Lib.hid (tab_ext HTB.out (hb.out.trans (hee.trans he)))))
      have cF2 : Hid (∀ W, Ext we W → Calls Tryz.prog 32 #[.int .i64 x.s] W fun e w' => e = .returned (.string (itext x.s)) ∧ Ext W w') := Lib.hid (fun W he => impl_FormatInt x.s (by omega) (by omega) W (Lib.hid (tab_ext HTB.out (hb.out.trans (hee.trans he)))))
      obtain ⟨T1, hT1⟩ : ∃ T, T = itext x.m := ⟨_, rfl⟩
      obtain ⟨T2, hT2⟩ : ∃ T, T = itext x.s := ⟨_, rfl⟩
      rw [← hT1] at cF1 hsz1
      rw [← hT2] at cF2 hsz2
      have HLn : Hid (entT x = T1 ++ sp1 ++ x.x ++ sp1 ++ T2) := Lib.hid (by rw [hT1, hT2]; rfl)
      have s1 : (⟨#[32]⟩ : ByteArray).size = 1 := rfl
      have g1 : ∀ W, (Op.stringOp .add T1 ⟨#[32]⟩).run Tryz.prog W = .ok (.string (T1 ++ ⟨#[32]⟩)) W := fun W => run_string_add_sum W _ _ (by omega)
      have g2 : ∀ W, (Op.stringOp .add (T1 ++ ⟨#[32]⟩) x.x).run Tryz.prog W = .ok (.string (T1 ++ ⟨#[32]⟩ ++ x.x)) W := fun W => run_string_add_sum W _ _ (by rw [ByteArray.size_append]; omega)
      have g3 : ∀ W, (Op.stringOp .add (T1 ++ ⟨#[32]⟩ ++ x.x) ⟨#[32]⟩).run Tryz.prog W = .ok (.string (T1 ++ ⟨#[32]⟩ ++ x.x ++ ⟨#[32]⟩)) W := fun W => run_string_add_sum W _ _ (by rw [ByteArray.size_append, ByteArray.size_append]; omega)
      have g4 : ∀ W, (Op.stringOp .add (T1 ++ ⟨#[32]⟩ ++ x.x ++ ⟨#[32]⟩) T2).run Tryz.prog W = .ok (.string (T1 ++ ⟨#[32]⟩ ++ x.x ++ ⟨#[32]⟩ ++ T2)) W := fun W => run_string_add_sum W _ _ (by rw [ByteArray.size_append, ByteArray.size_append, ByteArray.size_append]; omega)
      have i1 : ¬ 9223372036854775807 < T1.size + 1 := by omega
      have i2 : ¬ 9223372036854775807 < T1.size + 1 + x.x.size := by omega
      have i3 : ¬ 9223372036854775807 < T1.size + 1 + x.x.size + 1 := by omega
      have i4 : ¬ 9223372036854775807 < T1.size + 1 + x.x.size + 1 + T2.size := by omega
      have z0 := hBe.cellAt (i := 0) (by simp)
      have z1 := hBe.cellAt (i := 1) (by simp)
      have z2 := hBe.cellAt (i := 2) (by simp)
      simp at z0 z1 z2
      have HBe := Lib.hid hBe
      have Hee := Lib.hid hee
      have Hwe := Lib.hid hwe
      have hwbr : wb.heap.size ≤ wr.heap.size := hb.out.size
      clear hBe hee hxk hwe hT1 hT2
      go_upto_region 7 with fail
      rw [← Hwe.out]
      have HOe := Lib.hid (own_keep hown.out Hee.out)
      go_region_held3 (fun w' => w'.cell? ⟨wr.heap.size, 0, none⟩ = some (.int .i64 x.m) ∧ w'.cell? ⟨wr.heap.size, 1, none⟩ = some (.string x.x) ∧ w'.cell? ⟨wr.heap.size, 2, none⟩ = some (.int .i64 x.s)) (go_keep) (first
        | (go_at_call_of 32 (Value.int .i64 x.m); refine (cF1.out _ (Ext.refl _).drew).mono ?_; rintro e wA ⟨rfl, hA⟩; have eA : Ext we wA := (Ext.trans (Ext.refl _).drew hA); have kA := HBe.out.keep eA; have y0 := kA.cellAt (i := 0) (by simp); have y1 := kA.cellAt (i := 1) (by simp); have y2 := kA.cellAt (i := 2) (by simp); simp at y0 y1 y2)
        | (go_at_call_of 32 (Value.int .i64 x.s); refine (cF2.out _ eA).mono ?_; rintro e wB ⟨rfl, hB⟩; have eB : Ext we wB := (eA.trans hB); have kB := HBe.out.keep eB; have x0 := kB.cellAt (i := 0) (by simp); have x1 := kB.cellAt (i := 1) (by simp); have x2 := kB.cellAt (i := 2) (by simp); simp at x0 x1 x2; have zB := (Hee.out.trans eB).size)
        | (refine step_appW ei_SF (by rfl) _ _ (by rfl) wb.heap.size wB _ _ [.string (T1 ++ ⟨#[32]⟩ ++ x.x ++ ⟨#[32]⟩ ++ T2)] (by rfl) _ (3 + k) _ (by rfl) (own_keep HOe.out eB) (by rfl) rfl (one_strF _) (by omega) (by omega) ?_; intro g5 c5 w5 ho5 hg5 hv5; have e5 := ext_apartW (hb.out.trans (Hee.out.trans eB)) (own_keep HOe.out eB) (Nat.le_refl _) hg5; have B5 : Blk w5 wr.heap.size 43 #[.int .i64 x.m, .string x.x, .int .i64 x.s] := (hg5.block wr.heap.size kB.lt (fun e => by have := (hown.out.lt _ e.symm).2; omega)).trans kB; have v0 := B5.cellAt (i := 0) (by simp); have v1 := B5.cellAt (i := 1) (by simp); have v2 := B5.cellAt (i := 2) (by simp); simp at v0 v1 v2))
      have HO5 := Lib.hid ho5
      have HE5 := Lib.hid e5
      clear ho5 e5 hg5 hv5
      go_wp2_with fail
      go_roundw
      case rel => exact ⟨k + 1, by omega, by go_num, by unfold Hid; rw [HN.out, HLn.out]; exact HO5.out, HE5⟩
      case measure => simp [intOf]; omega
    · obtain rfl : n4 = k := by omega
      rw [List.take_of_length_le (by rw [hl4.out]; omega), ← HF.out] at hown
      have hfl : (fmtL m).length = 3 + n4 := by rw [HF.out, List.length_append, List.length_map, hl4.out]; rfl
      have HFL := Lib.hid hfl
      clear hfl
      go_wp2_with fail
      go_ret
      exact ⟨_, rfl, HE.out.trans hb.out, by rw [HFL.out]; exact own_weak hown.out (by omega)⟩
end Go.Proofs.YtfmifllcbbfpoaaGreatDoor
/- The walk of the law on SampleMuseum; no condition. -/
namespace Go.Proofs.YtfmifllcbbfpoaaGreatDoor
set_option linter.unusedSimpArgs false
set_option linter.unusedVariables false
open Go.RowKit Go.Sort
theorem newM_lens (H : Int) (ds : List GDoor) (fs gs : List Int) : (newM H ds fs gs).ds.length ≤ ds.length ∧ (newM H ds fs gs).fs.length ≤ fs.length ∧ (newM H ds fs gs).ps.length ≤ fs.length ∧ (newM H ds fs gs).gs.length ≤ gs.length ∧ (newM H ds fs gs).rs.length ≤ 0 := by
  unfold newM
  split
  · exact ⟨by simp [rawM], by simp [rawM], by simp [rawM], by simp [rawM], by simp [rawM]⟩
  · exact ⟨by simp, by simp, by simp, by simp, by simp⟩
theorem sample_fit {w : World} {base : Nat} {v : MV} (h : MOwn w base v sampleM) : MFit v := by
  obtain ⟨a1, a2, a3, a4, a5⟩ := h.rd.lens
  obtain ⟨b1, b2, b3, b4, b5⟩ : sampleM.ds.length ≤ 4 ∧ sampleM.fs.length ≤ 2 ∧ sampleM.ps.length ≤ 2 ∧ sampleM.gs.length ≤ 3 ∧ sampleM.rs.length ≤ 0 := newM_lens _ _ _ _
  exact MFit.of_own h (by omega) (by omega) (by omega) (by omega) (by omega)
end Go.Proofs.YtfmifllcbbfpoaaGreatDoor
/- The laws' helpers on rows of strings: comparison, marks; no condition but what stands at each theorem. -/
namespace Go.Proofs.YtfmifllcbbfpoaaGreatDoor
set_option linter.unusedSimpArgs false
set_option linter.unusedVariables false
open Go.RowKit Go.Sort
def senc (s : ByteArray) : List Value := [.string s]
theorem senc_len (x : ByteArray) : (senc x).length = 1 := rfl
theorem senc_at {w : World} {A : Option Addr} {n k : Nat} {xs : List ByteArray} (h : Rd w 1 A n (xs.flatMap senc)) (hk : k < n) :
    ∃ (b off : Nat) (x : ByteArray), A = some ⟨b, off, none⟩ ∧ b < w.heap.size ∧ xs[k]? = some x ∧ w.cell? ⟨b, off + k, none⟩ = some (.string x) := Rd.at1 (p := fun (s : ByteArray) => .string s) (fun _ => rfl) h hk
def markStrL (k : Int) (n : Nat) : List ByteArray := (List.range n).map fun (i : Nat) => mtxt (k + ↑i).toNat
theorem markStrL_len (k : Int) (n : Nat) : (markStrL k n).length = n := by simp [markStrL]
theorem markStrL_snoc (k : Int) (i : Nat) : markStrL k (i + 1) = markStrL k i ++ [mtxt (k + ↑i).toNat] := by simp [markStrL, List.range_succ]
theorem markStrL_at (k : Int) (n : Nat) {i : Nat} (h : i < n) : (markStrL k n)[i]? = some (mtxt (k + ↑i).toNat) := by simp [markStrL, h]
set_option maxRecDepth 100000 in
set_option maxHeartbeats 1000000 in
theorem laws_eqStringS (A A' : Option Addr) (n c n' c' : Nat) (xs : List ByteArray) (w : World) (hx : Rd w 1 A n (xs.flatMap senc)) (hy : Rd w 1 A' n' (xs.flatMap senc)) :
    Calls Tryz.prog 36 #[.slice A n c, .slice A' n' c'] w fun e w' => e = .returned (.bool true) ∧ Ext w w' := by
  have hn := hx.2.1
  obtain rfl : n = n' := by rw [← hx.len senc_len (by omega), ← hy.len senc_len (by omega)]
  go_enter Tryz.func36, Tryz.ntmps36
  go_wp2_with fail
  go_loopw [5] (fun i wr => ∃ k : Nat, k ≤ n ∧ i = .int .i64 k ∧ Ext w wr) (fun i _ => n - (intOf i).toNat)
  case atStart => exact ⟨0, Nat.zero_le _, rfl, Ext.refl _⟩
  case round =>
    obtain ⟨k, hk, rfl, hb⟩ := hrel
    by_cases hlt : k < n
    · obtain ⟨b, off, x, rfl, hbs, hxk, h0⟩ := senc_at (hx.keep hb) hlt
      obtain ⟨b', off', y, rfl, hbs', hyk, g0⟩ := senc_at (hy.keep hb) hlt
      obtain rfl : x = y := by rw [hyk] at hxk; simpa using hxk.symm
      have hne : (x.toList == x.toList) = true := by simp
      clear hxk hyk
      have Hb := Lib.hid hb
      clear hb
      go_wp2_with fail
      go_quiet (fail)
      go_wp2_with fail
      go_roundw
      case rel => exact ⟨k + 1, by omega, by go_num, Hb.out.drewN _⟩
      case measure => simp [intOf]; omega
    · go_wp2_with fail
      go_ret
      exact ⟨rfl, hb⟩
set_option maxRecDepth 100000 in
set_option maxHeartbeats 1000000 in
theorem laws_markStringS (A : Option Addr) (n c : Nat) (k : Int) (base : Nat) (L : List Value) (w : World) (ho : w.ownsRow base 9 1 (.slice A n c) n L) (hn : n ≤ 1048576) (hk0 : 1 ≤ k) (hk1 : k ≤ 1000000000) :
    Calls Tryz.prog 37 #[.slice A n c, .int .i64 k] w fun e w' => e = .returned (.int .i64 (k + ↑n)) ∧ w'.ownsRow base 9 1 (.slice A n c) n ((markStrL k n).flatMap senc) ∧ w.grownBy w' (Value.slice A n c).ownBlock := by
  rcases own_block ho with ⟨rfl, rfl, rfl⟩ | ⟨g, cur0, rfl, hbg, hb0, hnc, hcm, hcs, ht⟩
  · go_enter Tryz.func37, Tryz.ntmps37
    go_wp2_with fail
    refine wp_loop_rounds 1 ?_
    rw [rounds_succ]
    go_wp2
    go_ret
    exact ⟨ret_int (by simp), World.ownsRow_nil _ _ _ _, grown_refl _ _⟩
  · go_enter Tryz.func37, Tryz.ntmps37
    go_wp2_with fail
    go_loopw [1, 5] (fun kv iv wr => ∃ (i : Nat) (cur : Array Value), i ≤ n ∧ iv = .int .i64 i ∧ kv = .int .i64 (k + ↑i) ∧ cur.size = c * 1 ∧ Hid (cur.toList.take (i * 1) = (markStrL k i).flatMap senc) ∧ Blk wr g 9 cur ∧ w.grownBy wr (some g)) (fun _ iv _ => n - (intOf iv).toNat)
    case atStart => exact ⟨0, cur0, Nat.zero_le _, rfl, by simp, hcs, by unfold Hid; simp [markStrL], hb0, grown_refl _ _⟩
    case round =>
      obtain ⟨i, cur, hi, rfl, rfl, hcz, hz, hblk, hg⟩ := hrel
      by_cases hlt : i < n
      · have HBk := Lib.hid hblk
        have HG := Lib.hid hg
        clear hblk hg
        go_wp2_with (go_at_call 84; refine (fun h : Hid _ => h.out) ?_)
        unfold Hid
        obtain ⟨q, hq⟩ := Int.eq_ofNat_of_zero_le (show 0 ≤ k + ↑i by omega)
        have cT := laws_markText q wr (by omega) (by omega)
        rw [← hq] at cT
        have hq2 : Hid (mtxt q = mtxt (k + ↑i).toNat) := Lib.hid (by rw [hq]; rfl)
        clear hq
        refine cT.mono ?_
        rintro e w2 ⟨rfl, e2⟩
        have hb1 := HBk.out.keep e2
        have hg1 := grown_trans HG.out (grown_ofExt e2 (some g))
        have HB2 := Lib.hid hb1
        have HG2 := Lib.hid hg1
        have c1 := hb1.cellAt (i := i) (by omega)
        have f1 := hb1.free i
        have hl2 := hb1.lt
        clear cT e2 hb1 hg1
        go_wp2_with fail
        go_roundw
        case rel =>
          refine ⟨i + 1, setRow cur (i * 1) [.string (mtxt q)], by omega, by go_num, mark_num (by push_cast; omega), by rw [setRow_size]; exact hcz, ?_, ?_, ?_⟩
          · unfold Hid
            rw [markStrL_snoc, List.flatMap_append, ← hq2.out]
            exact setRow_take (m := 1) rfl (by rw [hcz]; omega) hz.out
          · rw [Nat.mul_one]
            exact HB2.out.set i (.string (mtxt q))
          · exact grown_set HG2.out i (.string (mtxt q))
        case measure => simp [intOf]; omega
      · obtain rfl : i = n := by omega
        go_wp2_with fail
        go_ret
        refine ⟨ret_int (by first | rfl | omega), ⟨by rw [flat_len senc 1 senc_len, markStrL_len], .inr ⟨g, c, cur, rfl, hbg, hblk, hnc, hcm, hcz, hz.out⟩⟩, hg⟩
set_option maxRecDepth 100000 in
set_option maxHeartbeats 1000000 in
theorem laws_heldStringS (A : Option Addr) (n c : Nat) (k : Int) (w : World) (hx : Rd w 1 A n ((markStrL k n).flatMap senc)) (hn : n ≤ 1048576) (hk0 : 1 ≤ k) (hk1 : k ≤ 1000000000) :
    Calls Tryz.prog 38 #[.slice A n c, .int .i64 k] w fun e w' => e = .returned (.int .i64 (k + ↑n)) ∧ Ext w w' := by
  go_enter Tryz.func38, Tryz.ntmps38
  go_wp2_with fail
  go_loopw [1, 5] (fun kv iv wr => ∃ (i : Nat), i ≤ n ∧ iv = .int .i64 i ∧ kv = .int .i64 (k + ↑i) ∧ Ext w wr) (fun _ iv _ => n - (intOf iv).toNat)
  case atStart => exact ⟨0, Nat.zero_le _, rfl, by simp, Ext.refl _⟩
  case round =>
    obtain ⟨i, hi, rfl, rfl, hb⟩ := hrel
    by_cases hlt : i < n
    · obtain ⟨b, off, x, rfl, hbs, hxk, h0⟩ := senc_at (hx.keep hb) hlt
      rw [markStrL_at k n hlt] at hxk
      injection hxk with hxk
      obtain ⟨q, hq⟩ := Int.eq_ofNat_of_zero_le (show 0 ≤ k + ↑i by omega)
      have cT : Hid (∀ W, Calls Tryz.prog 84 #[.int .i64 (k + ↑i)] W fun e w' => e = .returned (.string x) ∧ Ext W w') := Lib.hid fun W => by
        have := laws_markText q W (by omega) (by omega)
        rw [← hq] at this
        rw [← hxk, hq]
        rw [hq] at this
        exact this
      have hne : (x.toList == x.toList) = true := by simp
      have hlt2 : b < wr.heap.size := hbs
      have HB := Lib.hid hb
      clear hb hq hxk
      go_wp2_with fail
      go_region_held3 (fun w' => w'.cell? ⟨b, off + i, none⟩ = some (.string x)) (go_keep) (first
        | (go_at_call 84; refine (cT.out _).mono ?_; rintro e w1 ⟨rfl, h1⟩; have e1 : Ext wr w1 := (Ext.trans (Ext.refl _).drew h1); have y0 := (e1.cellAt b hlt2 (off + i)).trans h0))
      have HB1 := Lib.hid (HB.out.trans e1)
      clear e1 h1
      go_wp2_with fail
      go_roundw
      case rel => exact ⟨i + 1, by omega, by go_num, mark_num (by push_cast; omega), HB1.out⟩
      case measure => simp [intOf]; omega
    · obtain rfl : i = n := by omega
      go_wp2_with fail
      go_ret
      exact ⟨ret_int (by first | rfl | omega), hb⟩
end Go.Proofs.YtfmifllcbbfpoaaGreatDoor
/- ParseAct of the program; no condition but what stands at each theorem. -/
namespace Go.Proofs.YtfmifllcbbfpoaaGreatDoor
set_option linter.unusedSimpArgs false
set_option linter.unusedVariables false
open Go.RowKit Go.Sort
set_option maxRecDepth 100000 in
set_option maxHeartbeats 4000000 in
theorem impl_ParseAct (x : ByteArray) (w : World) (hx : x.size ≤ 1048576) (htab : Hid (Lib.TabIs Tryz.prog w "internal/strconv.uint64pow10" .u64 Lib.pow10Tab)) : Calls Tryz.prog 75 #[.string x] w (PAPost x w) := by
  obtain ⟨wa, hwa⟩ : ∃ wa, wa = w.alloc (.cells #[.int .i64 0, .int .i64 0, .int .i64 0, .int .i64 0, .int .i64 0] 37) := ⟨_, rfl⟩
  have hEa : Ext w wa := by rw [hwa]; exact (Ext.refl w).alloc _
  have hsa : wa.heap.size = w.heap.size + 1 := by rw [hwa]; simp
  have hB : Blk wa w.heap.size 37 #[.int .i64 0, .int .i64 0, .int .i64 0, .int .i64 0, .int .i64 0] := by rw [hwa]; exact Blk.new _ _ _
  have Hwa := Lib.hid hwa
  have HEa := Lib.hid hEa
  have cS := Lib.hid (impl_SplitFields x wa hx)
  clear hwa hEa
  go_enter Tryz.func75, Tryz.ntmps75
  go_wp2_with fail
  rw [← Hwa.out]
  refine cS.out.mono ?_
  rintro e w1 ⟨v, rfl, hb1, hown⟩
  have hB1 := hB.keep hb1
  have hs1 := hb1.size
  have HE1 := Lib.hid (HEa.out.trans hb1)
  have l0 : w.heap.size < w1.heap.size := by omega
  have m0 : w1.heap.size ≠ w.heap.size := by omega
  have c0 : w1.cell? ⟨w.heap.size, 0, none⟩ = some (.int .i64 0) := hB1.cell 0
  have c1 : w1.cell? ⟨w.heap.size, 1, none⟩ = some (.int .i64 0) := hB1.cell 1
  have c2 : w1.cell? ⟨w.heap.size, 2, none⟩ = some (.int .i64 0) := hB1.cell 2
  have c3 : w1.cell? ⟨w.heap.size, 3, none⟩ = some (.int .i64 0) := hB1.cell 3
  have c4 : w1.cell? ⟨w.heap.size, 4, none⟩ = some (.int .i64 0) := hB1.cell 4
  have fz : ∀ o, w1.frozen? ⟨w.heap.size, o, none⟩ = false := fun o => hB1.free o
  clear hb1 hB
  cases hok : spOk x
  case false =>
    have HN : Hid (∀ a', spOk x = true → acOk a' = true → fieldsOf x ≠ actW a') := fun a' h _ => by rw [hok] at h; cases h
    clear hown hok
    go_wp2_with fail
    obtain ⟨WF, hWF⟩ : ∃ WF, WF = set5 w1 w.heap.size (.int .i64 0) (.int .i64 0) (.int .i64 0) (.int .i64 0) (.int .i64 0) := ⟨_, rfl⟩
    have FB := set5_blk hB1 (.int .i64 0) (.int .i64 0) (.int .i64 0) (.int .i64 0) (.int .i64 0)
    have FE := set5_ext HE1.out (Nat.le_refl _) (.int .i64 0) (.int .i64 0) (.int .i64 0) (.int .i64 0) (.int .i64 0)
    rw [← hWF] at FB FE
    unfold set5 at hWF
    rw [← hWF]
    clear hWF
    have y0 := FB.cell 0
    have y1 := FB.cell 1
    have y2 := FB.cell 2
    have y3 := FB.cell 3
    have y4 := FB.cell 4
    refine bodyPost_ret (v := .tuple #[.agg #[.int .i64 0, .int .i64 0, .int .i64 0, .int .i64 0, .int .i64 0], .bool false]) (by simp [results, Tryz.results75, go_sem, y0, y1, y2, y3, y4]) rfl (pa_none HN.out FE)
  case true =>
    replace hown := hown hok
    have hfl := fields_len x
    have hfg := fields_good x
    have hx6 : x.size ≤ 600 := by
      unfold spOk at hok; simp at hok; exact hok.1.1
    obtain ⟨fs, hfs⟩ : ∃ fs, fs = fieldsOf x := ⟨_, rfl⟩
    have Hfs := Lib.hid hfs
    have HOK := Lib.hid hok
    rw [← hfs] at hown hfl hfg
    have Hfg := Lib.hid hfg
    have Hfl := Lib.hid hfl
    clear hfs hok hfl hfg
    obtain ⟨A, c', rfl, hnc⟩ := own_form hown
    have HOW := Lib.hid hown
    clear hown
    by_cases hm : 1 ≤ fs.length
    case neg =>
      have hm0 : fs.length = 0 := by omega
      have HN : Hid (∀ a', spOk x = true → acOk a' = true → fieldsOf x ≠ actW a') := fun a' _ _ h => by
        have := actW_len a'
        rw [← h, ← Hfs.out] at this
        omega
      rw [hm0]
      go_wp2_with fail
      obtain ⟨WF, hWF⟩ : ∃ WF, WF = set5 w1 w.heap.size (.int .i64 0) (.int .i64 0) (.int .i64 0) (.int .i64 0) (.int .i64 0) := ⟨_, rfl⟩
      have FB := set5_blk hB1 (.int .i64 0) (.int .i64 0) (.int .i64 0) (.int .i64 0) (.int .i64 0)
      have FE := set5_ext HE1.out (Nat.le_refl _) (.int .i64 0) (.int .i64 0) (.int .i64 0) (.int .i64 0) (.int .i64 0)
      rw [← hWF] at FB FE
      unfold set5 at hWF
      rw [← hWF]
      clear hWF
      have y0 := FB.cell 0
      have y1 := FB.cell 1
      have y2 := FB.cell 2
      have y3 := FB.cell 3
      have y4 := FB.cell 4
      refine bodyPost_ret (v := .tuple #[.agg #[.int .i64 0, .int .i64 0, .int .i64 0, .int .i64 0, .int .i64 0], .bool false]) (by simp [results, Tryz.results75, go_sem, y0, y1, y2, y3, y4]) rfl (pa_none HN.out FE)
    case pos =>
    obtain ⟨-, -, hr⟩ := Rd.of_own HOW.out
    obtain ⟨g, o, rfl, hg, hcell⟩ := hr (by omega)
    have Hcell := Lib.hid hcell
    clear hr hcell
    obtain ⟨m, hmm⟩ : ∃ m, m = fs.length - 1 := ⟨_, rfl⟩
    have hml : fs.length = m + 1 := by omega
    rw [hml] at hnc HOW ⊢
    have hm24 : m ≤ 24 := by
      have h := HOK.out
      unfold spOk at h
      simp at h
      have h2 := h.2
      rw [← Hfs.out] at h2
      omega
    have Hml := Lib.hid hml
    clear hml hmm hm
    have hm1i : (1 : Int) ≤ (m : Int) + 1 := by omega
    have hz0 : (((m + 1 : Nat) : Int) == 0) = false := beq_false_of_ne (by omega)
    have hci : (m : Int) + 1 ≤ c' := by omega
    have hmk := mk4P w1
    obtain ⟨A28, c28, h28, hsl⟩ := tail_of g o m c' hnc
    go_wp2_with fail
    clear hmk hsl
    obtain ⟨wo, hwo⟩ : ∃ wo, wo = w1.alloc (.cells #[.int .i64 0, .int .i64 0, .int .i64 0, .int .i64 0] 3) := ⟨_, rfl⟩
    rw [← hwo]
    have hEo : Ext w1 wo := by rw [hwo]; exact (Ext.refl w1).alloc _
    have HI0 : Hid (IBlk wo w1.heap.size 3 [0, 0, 0, 0]) := by rw [hwo]; exact Blk.new _ _ _
    have HEo := Lib.hid hEo
    clear hwo hEo
    go_loopw [30] (fun i wr => ∃ (k : Nat) (u : List Int), k ≤ m ∧ i = .int .i64 k ∧ Hid (u.length = 4) ∧ Hid (IBlk wr w1.heap.size 3 u) ∧ Hid (∀ j, j < 4 → (j < k → ∃ f, fs[j + 1]? = some f ∧ NumOf f (u.getD j 0)) ∧ (k ≤ j → u.getD j 0 = 0)) ∧ Ext w1 wr) (fun i _ => m - (intOf i).toNat)
    case atStart =>
      refine ⟨0, [0, 0, 0, 0], Nat.zero_le _, rfl, rfl, HI0, Lib.hid (fun j hj => ⟨fun h => absurd h (by omega), fun _ => ?_⟩), HEo.out⟩
      match j, hj with
      | 0, _ => rfl
      | 1, _ => rfl
      | 2, _ => rfl
      | 3, _ => rfl
    case round =>
      obtain ⟨k, u, hkm, rfl, hul, hI, hN, hb⟩ := hrel
      have HB1 := Lib.hid hb
      have hsw := hb.size
      clear hb
      by_cases hlt : k < m
      · obtain ⟨f, hf⟩ : ∃ f, fs[k + 1]? = some f := ⟨fs[k + 1]'(by rw [Hml.out]; omega), List.getElem?_eq_getElem (by rw [Hml.out]; omega)⟩
        obtain rfl := h28 (by omega)
        have hfl := Hfl.out f (List.mem_of_getElem? hf)
        have q1 : wr.cell? ⟨g, o + 1 + k, none⟩ = some (.string ⟨f.toArray⟩) := by
          rw [Nat.add_assoc, Nat.add_comm 1 k]
          exact (HB1.out.cellAt g hg (o + (k + 1))).trans (Hcell.out (k + 1) _ (by rw [sval, List.getElem?_map, hf]; rfl))
        obtain ⟨F, hF⟩ : ∃ F : ByteArray, F = ⟨f.toArray⟩ := ⟨_, rfl⟩
        have hFs : F.size ≤ 601 := by rw [hF, mk_size]; omega
        have HFF := Lib.hid hF
        have HF := Lib.hid hf
        rw [← hF] at q1
        clear hf hF
        have cN := Lib.hid (impl_ParseUint F wr (by omega))
        by_cases h4 : k < 4
        · have h4i : (k : Int) < 4 := by omega
          go_wp2_with (go_at_call 98; refine cN.out.mono ?_; rintro e w2 ⟨z, b, rfl, hz9, hb2, hz⟩; have HB2 := Lib.hid hb2; have hs2 := hb2.size; have HZ := Lib.hid hz; have hI2 := Lib.hid (hI.out.keep hb2); have t1 := hI2.out.cell (i := k) (by rw [hul.out]; exact h4); have t2 := hI2.out.free k; clear hb2 hz)
          go_roundw
          case rel =>
            refine ⟨_, _, _, _, _, _, _, _, _, _, _, _, _, _, _, _, _, _, _, _, ?_, rfl⟩
            refine ⟨k + 1, u.set k z, by omega, by go_num, by (unfold Hid; rw [List.length_set]; exact hul.out), IBlk.set hI2.out k z, ?_, (HB1.out.trans HB2.out).setCell (p := ⟨w1.heap.size, k, none⟩) (Nat.le_refl _) _⟩
            refine Lib.hid (fun j hj => ?_)
            by_cases hjk : j = k
            · subst hjk
              refine ⟨fun _ => ⟨f, HF.out, ?_⟩, fun h => absurd h (by omega)⟩
              rw [List.getD_eq_getElem?_getD, List.getElem?_set_self (by rw [hul.out]; exact hj)]
              intro i hi he
              have h := (HZ.out i hi (by rw [HFF.out]; exact he)).1
              show (z : Int) = (i : Int)
              rw [h]
            · rw [List.getD_eq_getElem?_getD, List.getElem?_set_ne (fun h => hjk h.symm), ← List.getD_eq_getElem?_getD]
              exact ⟨fun h => (hN.out j hj).1 (by omega), fun h => (hN.out j hj).2 (by omega)⟩
          case measure => simp [intOf] <;> omega
        · have h4i : ¬ (k : Int) < 4 := by omega
          have h4j : (4 : Int) ≤ k := by omega
          go_wp2_with fail
          go_roundw
          case rel => exact ⟨k + 1, u, by omega, by go_num, hul, hI, Lib.hid (fun j hj => ⟨fun _ => (hN.out j hj).1 (by omega), fun h => absurd h (by omega)⟩), HB1.out⟩
          case measure => simp [intOf] <;> omega
      · have HNA : Hid (∀ j, j < 4 → NumAt fs j (u.getD j 0)) := fun j hj => by
          by_cases hjm : j < k
          · exact .inl ((hN.out j hj).1 hjm)
          · exact .inr ⟨by rw [Hml.out]; omega, (hN.out j hj).2 (by omega)⟩
        obtain rfl : m = k := by omega
        have A0 := HNA.out 0 (by omega)
        have r0 := hI.out.cell (i := 0) (by rw [hul.out]; omega)
        obtain ⟨n0, hn0⟩ : ∃ n, n = u.getD 0 0 := ⟨_, rfl⟩
        rw [← hn0] at A0 r0
        have A1 := HNA.out 1 (by omega)
        have r1 := hI.out.cell (i := 1) (by rw [hul.out]; omega)
        obtain ⟨n1, hn1⟩ : ∃ n, n = u.getD 1 0 := ⟨_, rfl⟩
        rw [← hn1] at A1 r1
        have A2 := HNA.out 2 (by omega)
        have r2 := hI.out.cell (i := 2) (by rw [hul.out]; omega)
        obtain ⟨n2, hn2⟩ : ∃ n, n = u.getD 2 0 := ⟨_, rfl⟩
        rw [← hn2] at A2 r2
        have A3 := HNA.out 3 (by omega)
        have r3 := hI.out.cell (i := 3) (by rw [hul.out]; omega)
        obtain ⟨n3, hn3⟩ : ∃ n, n = u.getD 3 0 := ⟨_, rfl⟩
        rw [← hn3] at A3 r3
        have HA := Lib.hid (fun (a' : GAct) (ha : acOk a' = true) (he : fs = actW a') => act_nums ha he A0 A1 A2 A3)
        have hgn : w1.heap.size < wr.heap.size := hI.out.lt
        have mgn : wr.heap.size ≠ w1.heap.size := by omega
        clear A0 A1 A2 A3 hn0 hn1 hn2 hn3
        go_wp2_with fail
        go_region
        clear r0 r1 r2 r3
        obtain ⟨W4, hW4⟩ : ∃ W4, W4 = (wr.alloc (.cells #[.int .i64 0, .int .i64 n0, .int .i64 n1, .int .i64 n2, .int .i64 n3] 37)).drew := ⟨_, rfl⟩
        have hE4 : Ext wr W4 := by rw [hW4]; exact ((Ext.refl wr).alloc _).drew
        have hB4 : Blk W4 wr.heap.size 37 #[.int .i64 0, .int .i64 n0, .int .i64 n1, .int .i64 n2, .int .i64 n3] := by rw [hW4]; exact (Blk.new _ _ _).drew
        rw [← hW4]
        clear hW4
        obtain ⟨wq, rfl⟩ : ∃ wq, wq = wr := ⟨_, rfl⟩
        obtain ⟨gB, hgB⟩ : ∃ gB, gB = wq.heap.size := ⟨_, rfl⟩
        rw [← hgB] at hB4 ⊢
        have hgB1 : w1.heap.size < gB := by omega
        have HB4 := Lib.hid hB4
        have HE4 := Lib.hid hE4
        have hgBq : Hid (wq.heap.size ≤ gB) := by unfold Hid; omega
        have HgB := Lib.hid hgB
        clear hB4 hE4 hgB mgn
        go_wp2_with fail
        go_loopw [10] (fun i wr => ∃ (k : Nat) (kk : Int), 1 ≤ k ∧ k ≤ 6 ∧ i = .int .i64 k ∧ Hid (Blk wr gB 37 #[.int .i64 kk, .int .i64 n0, .int .i64 n1, .int .i64 n2, .int .i64 n3]) ∧ Hid (∀ q : Nat, 1 ≤ q → q < k → ¬ (acOk ⟨q, n0, n1, n2, n3⟩ = true ∧ fs = actW ⟨q, n0, n1, n2, n3⟩)) ∧ Ext wq wr) (fun i _ => 6 - (intOf i).toNat)
        case atStart => exact ⟨1, 0, Nat.le_refl _, by omega, rfl, HB4, Lib.hid (fun q h1 h2 => absurd h2 (by omega)), HE4.out⟩
        case round =>
          obtain ⟨k, kk, hk1, hk6, rfl, hbx, hno, hb⟩ := hrel
          have hBr := hB1.keep (HB1.out.trans hb)
          have HBR := Lib.hid hBr
          have HEr := Lib.hid (HE1.out.trans (HB1.out.trans hb))
          have HEb := Lib.hid hb
          have hsr := hb.size
          have lr : w.heap.size < wr.heap.size := by omega
          have mr : wr.heap.size ≠ w.heap.size := by omega
          by_cases hle : k ≤ 5
          case neg =>
            have d0 : wr.cell? ⟨w.heap.size, 0, none⟩ = some (.int .i64 0) := hBr.cell 0
            have d1 : wr.cell? ⟨w.heap.size, 1, none⟩ = some (.int .i64 0) := hBr.cell 1
            have d2 : wr.cell? ⟨w.heap.size, 2, none⟩ = some (.int .i64 0) := hBr.cell 2
            have d3 : wr.cell? ⟨w.heap.size, 3, none⟩ = some (.int .i64 0) := hBr.cell 3
            have d4 : wr.cell? ⟨w.heap.size, 4, none⟩ = some (.int .i64 0) := hBr.cell 4
            have dz : ∀ o, wr.frozen? ⟨w.heap.size, o, none⟩ = false := fun o => hBr.free o
            have HN : Hid (∀ a', spOk x = true → acOk a' = true → fieldsOf x ≠ actW a') := fun a' _ ha he => by
              have he' : fs = actW a' := Hfs.out.trans he
              have h1 := HA.out a' ha he'
              have h2 := (ac_cases ha).1
              rcases h2 with h2 | h2 | h2 | h2 | h2
              · exact hno.out 1 (by omega) (by omega) (by rw [h2] at h1; rw [h1] at ha he'; exact ⟨ha, he'⟩)
              · exact hno.out 2 (by omega) (by omega) (by rw [h2] at h1; rw [h1] at ha he'; exact ⟨ha, he'⟩)
              · exact hno.out 3 (by omega) (by omega) (by rw [h2] at h1; rw [h1] at ha he'; exact ⟨ha, he'⟩)
              · exact hno.out 4 (by omega) (by omega) (by rw [h2] at h1; rw [h1] at ha he'; exact ⟨ha, he'⟩)
              · exact hno.out 5 (by omega) (by omega) (by rw [h2] at h1; rw [h1] at ha he'; exact ⟨ha, he'⟩)
            clear hBr
            go_wp2_with fail
            obtain ⟨WF, hWF⟩ : ∃ WF, WF = set5 wr w.heap.size (.int .i64 0) (.int .i64 0) (.int .i64 0) (.int .i64 0) (.int .i64 0) := ⟨_, rfl⟩
            have FB := set5_blk HBR.out (.int .i64 0) (.int .i64 0) (.int .i64 0) (.int .i64 0) (.int .i64 0)
            have FE := set5_ext HEr.out (Nat.le_refl _) (.int .i64 0) (.int .i64 0) (.int .i64 0) (.int .i64 0) (.int .i64 0)
            rw [← hWF] at FB FE
            unfold set5 at hWF
            rw [← hWF]
            clear hWF
            have y0 := FB.cell 0
            have y1 := FB.cell 1
            have y2 := FB.cell 2
            have y3 := FB.cell 3
            have y4 := FB.cell 4
            refine bodyPost_ret (v := .tuple #[.agg #[.int .i64 0, .int .i64 0, .int .i64 0, .int .i64 0, .int .i64 0], .bool false]) (by simp [results, Tryz.results75, go_sem, y0, y1, y2, y3, y4]) rfl (pa_none HN.out FE)
          case pos =>
            have lB : gB < wr.heap.size := hbx.out.lt
            have b0 : wr.cell? ⟨gB, 0, none⟩ = some (.int .i64 kk) := hbx.out.cell 0
            have b1 : wr.cell? ⟨gB, 1, none⟩ = some (.int .i64 n0) := hbx.out.cell 1
            have b2 : wr.cell? ⟨gB, 2, none⟩ = some (.int .i64 n1) := hbx.out.cell 2
            have b3 : wr.cell? ⟨gB, 3, none⟩ = some (.int .i64 n2) := hbx.out.cell 3
            have b4 : wr.cell? ⟨gB, 4, none⟩ = some (.int .i64 n3) := hbx.out.cell 4
            have bz : ∀ o, wr.frozen? ⟨gB, o, none⟩ = false := fun o => hbx.out.free o
            clear hb hBr
            go_wp2_with fail
            clear b0 b1 b2 b3 b4 bz
            obtain ⟨W5, hW5⟩ : ∃ W5, W5 = wr.setCell ⟨gB, 0, none⟩ (.int .i64 (k : Int)) := ⟨_, rfl⟩
            have hB5 : Blk W5 gB 37 #[.int .i64 (k : Int), .int .i64 n0, .int .i64 n1, .int .i64 n2, .int .i64 n3] := by rw [hW5]; exact hbx.out.set 0 _
            have hE5 : Ext wq W5 := by rw [hW5]; exact HEb.out.setCell (p := ⟨gB, 0, none⟩) hgBq.out _
            rw [← hW5]
            clear hW5
            have hFx : Ext w W5 := HE1.out.trans (HB1.out.trans hE5)
            have cF := Lib.hid (impl_FormatAct (⟨(k : Int), n0, n1, n2, n3⟩ : GAct) W5 (Lib.hid (tab_ext htab.out hFx)))
            have HB5 := Lib.hid hB5
            have HE5 := Lib.hid hE5
            have HFX := Lib.hid hFx
            clear hB5 hE5 hFx hbx
            have step : ∀ (w6 : World), Ext W5 w6 → ¬ (acOk (⟨(k : Int), n0, n1, n2, n3⟩ : GAct) = true ∧ fs = actW (⟨(k : Int), n0, n1, n2, n3⟩ : GAct)) → Hid (Blk w6 gB 37 #[.int .i64 (k : Int), .int .i64 n0, .int .i64 n1, .int .i64 n2, .int .i64 n3]) ∧ Hid (∀ q : Nat, 1 ≤ q → q < k + 1 → ¬ (acOk ⟨(q : Int), n0, n1, n2, n3⟩ = true ∧ fs = actW ⟨(q : Int), n0, n1, n2, n3⟩)) ∧ Ext wq w6 := fun w6 e hk =>
              ⟨HB5.out.keep e, no_snoc (p := fun q : Nat => acOk ⟨(q : Int), n0, n1, n2, n3⟩ = true ∧ fs = actW ⟨(q : Int), n0, n1, n2, n3⟩) hno.out hk, HE5.out.trans e⟩
            have HS := Lib.hid step
            clear step
            cases hok2 : acOk (⟨(k : Int), n0, n1, n2, n3⟩ : GAct)
            case false =>
              rw [hok2] at cF
              have hbad : Hid (¬ (acOk (⟨(k : Int), n0, n1, n2, n3⟩ : GAct) = true ∧ fs = actW (⟨(k : Int), n0, n1, n2, n3⟩ : GAct))) := fun h => by rw [hok2] at h; cases h.1
              clear hok2
              go_wp2_with (go_at_call 72; refine cF.out.mono ?_; rintro e w6 ⟨rfl, hb6⟩; have HB6 := Lib.hid hb6; clear hb6)
              go_roundw
              case rel =>
                first | refine ⟨_, _, _, _, _, _, _, _, _, _, _, _, _, _, _, _, _, _, _, _, ?_, rfl⟩ | refine ⟨_, _, _, _, _, _, _, _, _, _, _, _, _, _, _, _, _, _, _, _, _, ?_, rfl⟩ | refine ⟨_, _, _, _, _, _, _, _, _, _, _, _, _, _, _, _, _, _, _, _, _, _, ?_, rfl⟩ | refine ⟨_, _, _, _, _, _, _, _, _, _, _, _, _, _, _, _, _, _, _, _, _, _, _, ?_, rfl⟩ | refine ⟨_, _, _, _, _, _, _, _, _, _, _, _, _, _, _, _, _, _, _, _, _, _, _, _, ?_, rfl⟩ | refine ⟨_, _, _, _, _, _, _, _, _, _, _, _, _, _, _, _, _, _, _, _, _, _, _, _, _, ?_, rfl⟩ | refine ⟨_, _, _, _, _, _, _, _, _, _, _, _, _, _, _, _, _, _, _, _, _, _, _, _, _, _, ?_, rfl⟩ | refine ⟨_, _, _, _, _, _, _, _, _, _, _, _, _, _, _, _, _, _, _, _, _, _, _, _, _, _, _, ?_, rfl⟩ | refine ⟨_, _, _, _, _, _, _, _, _, _, _, _, _, _, _, _, _, _, _, _, _, _, _, _, _, _, _, _, ?_, rfl⟩ | refine ⟨_, _, _, _, _, _, _, _, _, _, _, _, _, _, _, _, _, _, _, _, _, _, _, _, _, _, _, _, _, ?_, rfl⟩ | refine ⟨_, _, _, _, _, _, _, _, _, _, _, _, _, _, _, _, _, _, _, _, _, _, _, _, _, _, _, _, _, _, ?_, rfl⟩
                exact ⟨k + 1, k, by omega, by omega, by go_num, (HS.out _ HB6.out hbad.out).1, (HS.out _ HB6.out hbad.out).2.1, (HS.out _ HB6.out hbad.out).2.2⟩
              case measure => simp [intOf] <;> omega
            case true =>
              rw [hok2] at cF
              obtain ⟨T2, hT2⟩ : ∃ T2, T2 = actT (⟨(k : Int), n0, n1, n2, n3⟩ : GAct) := ⟨_, rfl⟩
              rw [← hT2] at cF
              have HT2 := Lib.hid hT2
              have HO2 := Lib.hid hok2
              clear hT2 hok2
              obtain ⟨T, hT⟩ : ∃ T, T = jb fs := ⟨_, rfl⟩
              have HT := Lib.hid hT
              have cJ : Hid (∀ w6, Ext W5 w6 → Calls Tryz.prog 112 #[.slice (some ⟨g, o, none⟩) (m + 1) c', .string ⟨#[32]⟩] w6 fun e w' => e = .returned (.string T) ∧ Ext w6 w') := Lib.hid (fun w6 e6 => by
                have e16 : Ext w1 w6 := HB1.out.trans (HE5.out.trans e6)
                have h := Tryz.strings_Join g o c' (bas fs) ⟨#[32]⟩ w6 (fun j x hj => (e16.cellAt g hg (o + j)).trans (Hcell.out j _ (bas_at hj))) (by have := e16.size; omega) (by rw [bas_len, Hml.out]; omega) (by rw [bas_len, Hml.out]; omega) (by
                  have h1 : (Lib.join fs [32]).length ≤ fs.length * (x.size + 2) := jb_len fs Hfl.out
                  have h2 := Hml.out
                  rw [bas_data]
                  show (Lib.join fs [32]).length ≤ _
                  have : x.size + 2 ≤ 602 := by omega
                  have := Nat.mul_le_mul (show fs.length ≤ 25 by omega) this
                  omega)
                rw [bas_len, Hml.out, bas_data] at h
                refine h.mono ?_
                rintro e w' ⟨rfl, hb'⟩
                exact ⟨by rw [HT.out]; rfl, hb'⟩)
              clear hT
              cases hq : (T2.toList == T.toList)
              case false =>
                have hbad : Hid (¬ (acOk (⟨(k : Int), n0, n1, n2, n3⟩ : GAct) = true ∧ fs = actW (⟨(k : Int), n0, n1, n2, n3⟩ : GAct))) := fun h => bytes_ne hq (by rw [HT2.out, actT_jb HO2.out, HT.out, ← h.2])
                go_wp2_with (first
                  | (go_at_call 72; refine cF.out.mono ?_; rintro e w6 ⟨rfl, hb6⟩; have HB6 := Lib.hid hb6; clear hb6)
                  | (go_at_call 112; refine (cJ.out _ HB6.out).mono ?_; rintro e w7 ⟨rfl, hb7⟩; have HB7 := Lib.hid (HB6.out.trans hb7); clear hb7))
                go_roundw
                case rel => first | exact ⟨k + 1, k, by omega, by omega, by go_num, (HS.out _ HB7.out hbad.out).1, (HS.out _ HB7.out hbad.out).2.1, (HS.out _ HB7.out hbad.out).2.2⟩ | ((first | refine ⟨_, _, _, _, _, _, _, _, _, _, _, _, _, _, _, _, _, _, _, _, ?_, rfl⟩ | refine ⟨_, _, _, _, _, _, _, _, _, _, _, _, _, _, _, _, _, _, _, _, _, ?_, rfl⟩ | refine ⟨_, _, _, _, _, _, _, _, _, _, _, _, _, _, _, _, _, _, _, _, _, _, ?_, rfl⟩ | refine ⟨_, _, _, _, _, _, _, _, _, _, _, _, _, _, _, _, _, _, _, _, _, _, _, ?_, rfl⟩ | refine ⟨_, _, _, _, _, _, _, _, _, _, _, _, _, _, _, _, _, _, _, _, _, _, _, _, ?_, rfl⟩ | refine ⟨_, _, _, _, _, _, _, _, _, _, _, _, _, _, _, _, _, _, _, _, _, _, _, _, _, ?_, rfl⟩ | refine ⟨_, _, _, _, _, _, _, _, _, _, _, _, _, _, _, _, _, _, _, _, _, _, _, _, _, _, ?_, rfl⟩ | refine ⟨_, _, _, _, _, _, _, _, _, _, _, _, _, _, _, _, _, _, _, _, _, _, _, _, _, _, _, ?_, rfl⟩ | refine ⟨_, _, _, _, _, _, _, _, _, _, _, _, _, _, _, _, _, _, _, _, _, _, _, _, _, _, _, _, ?_, rfl⟩ | refine ⟨_, _, _, _, _, _, _, _, _, _, _, _, _, _, _, _, _, _, _, _, _, _, _, _, _, _, _, _, _, ?_, rfl⟩ | refine ⟨_, _, _, _, _, _, _, _, _, _, _, _, _, _, _, _, _, _, _, _, _, _, _, _, _, _, _, _, _, _, ?_, rfl⟩ | refine ⟨_, _, _, _, _, _, _, _, _, _, _, _, _, _, _, _, _, _, _, _, _, _, _, _, _, _, _, _, _, _, _, ?_, rfl⟩ | refine ⟨_, _, _, _, _, _, _, _, _, _, _, _, _, _, _, _, _, _, _, _, _, _, _, _, _, _, _, _, _, _, _, _, ?_, rfl⟩ | refine ⟨_, _, _, _, _, _, _, _, _, _, _, _, _, _, _, _, _, _, _, _, _, _, _, _, _, _, _, _, _, _, _, _, _, ?_, rfl⟩ | refine ⟨_, _, _, _, _, _, _, _, _, _, _, _, _, _, _, _, _, _, _, _, _, _, _, _, _, _, _, _, _, _, _, _, _, _, ?_, rfl⟩); exact ⟨k + 1, k, by omega, by omega, by go_num, (HS.out _ HB7.out hbad.out).1, (HS.out _ HB7.out hbad.out).2.1, (HS.out _ HB7.out hbad.out).2.2⟩)
                case measure => simp [intOf] <;> omega
              case true =>
                have hfin : Hid (fieldsOf x = actW (⟨(k : Int), n0, n1, n2, n3⟩ : GAct)) := by
                  unfold Hid
                  rw [← Hfs.out]
                  exact act_words HO2.out Hfg.out (fun h => by have := Hml.out; rw [h] at this; simp at this) (by rw [← HT2.out, bytes_eq hq, HT.out])
                go_wp2_with (first
                  | (go_at_call 72; refine cF.out.mono ?_; rintro e w6 ⟨rfl, hb6⟩; have HB6 := Lib.hid hb6; clear hb6)
                  | (go_at_call 112; refine (cJ.out _ HB6.out).mono ?_; rintro e w7 ⟨rfl, hb7⟩; have HB7 := Lib.hid (HB6.out.trans hb7); have X7 := Lib.hid (HB5.out.keep HB7.out); have x0 := X7.out.cell 0; have x1 := X7.out.cell 1; have x2 := X7.out.cell 2; have x3 := X7.out.cell 3; have x4 := X7.out.cell 4; have D7 := Lib.hid (hB1.keep (HB1.out.trans (HE5.out.trans HB7.out))); have d0 := D7.out.cell 0; have d1 := D7.out.cell 1; have d2 := D7.out.cell 2; have d3 := D7.out.cell 3; have d4 := D7.out.cell 4; have dz : ∀ o, w7.frozen? ⟨w.heap.size, o, none⟩ = false := fun o => D7.out.free o; clear hb7))
                obtain ⟨WF, hWF⟩ : ∃ WF, WF = set5 w7 w.heap.size (.int .i64 (k : Int)) (.int .i64 n0) (.int .i64 n1) (.int .i64 n2) (.int .i64 n3) := ⟨_, rfl⟩
                have FB := set5_blk D7.out (.int .i64 (k : Int)) (.int .i64 n0) (.int .i64 n1) (.int .i64 n2) (.int .i64 n3)
                have FE := set5_ext (HFX.out.trans HB7.out) (Nat.le_refl _) (.int .i64 (k : Int)) (.int .i64 n0) (.int .i64 n1) (.int .i64 n2) (.int .i64 n3)
                rw [← hWF] at FB FE
                unfold set5 at hWF
                rw [← hWF]
                clear hWF
                have y0 := FB.cell 0
                have y1 := FB.cell 1
                have y2 := FB.cell 2
                have y3 := FB.cell 3
                have y4 := FB.cell 4
                refine bodyPost_ret (v := .tuple #[.agg #[.int .i64 (k : Int), .int .i64 n0, .int .i64 n1, .int .i64 n2, .int .i64 n3], .bool true]) (by simp [results, Tryz.results75, go_sem, y0, y1, y2, y3, y4]) rfl (pa_some (⟨(k : Int), n0, n1, n2, n3⟩ : GAct) HOK.out HO2.out hfin.out FE)
end Go.Proofs.YtfmifllcbbfpoaaGreatDoor
