/- Contracts of withNumbers (the program's join of a word and numbers); no condition but what stands at each theorem. -/
import Derived.Test.YtcmbjkidgemdaaaDoorST2
import Derived.Test.YtcmbjkidgemdaaaDoorShelf2
import Derived.Lib.SmallJoins
namespace Go.Proofs.YtcmbjkidgemdaaaDoor
set_option linter.unusedSimpArgs false
set_option linter.unusedVariables false
open Go.RowKit Go.Sort
theorem tab_ext {P : Program} {w w' : World} {n : String} {k : IntKind} {zs : List Int} (h : Lib.TabIs P w n k zs) (e : Ext w w') : Lib.TabIs P w' n k zs := by
  cases hg : P.globalNamed n with
  | none => unfold Lib.TabIs World.var? at h; rw [hg] at h; cases h
  | some g => exact Go.Joins.tab_stays hg h e.below (Nat.le_refl _)
/-- A word, and numbers behind it, each behind a blank. -/
def numsF (s : ByteArray) : List Int → ByteArray
  | [] => s
  | x :: r => numsF (s ++ sp1 ++ itext x) r
theorem numsF_eq : ∀ (xs : List Int) (s : ByteArray), numsF s xs = ⟨(s.data.toList ++ Lib.joinTail [32] (xs.map fun x => (itext x).data.toList)).toArray⟩
  | [], s => by simp [numsF, Lib.joinTail]
  | x :: r, s => by
    rw [numsF, numsF_eq r]
    congr 2
    simp [Lib.joinTail, sp1]
theorem join_nums (s : ByteArray) (xs : List Int) : (⟨(Lib.join ((s :: xs.map itext).map (·.data.toList)) (⟨#[32]⟩ : ByteArray).data.toList).toArray⟩ : ByteArray) = numsF s xs := by
  rw [numsF_eq, List.map_cons, Lib.join_cons, List.map_map]
  rfl
theorem numsF_size : ∀ (xs : List Int) (s : ByteArray), (∀ x ∈ xs, 0 ≤ x ∧ x ≤ 1000) → (numsF s xs).size ≤ s.size + 22 * xs.length
  | [], s, _ => by simp [numsF]
  | x :: r, s, h => by
    have h1 := numsF_size r (s ++ sp1 ++ itext x) (fun y hy => h y (List.mem_cons_of_mem _ hy))
    have h2 := itext_size x (by have := (h x (List.mem_cons_self ..)).1; omega) (by have := (h x (List.mem_cons_self ..)).2; omega)
    rw [ByteArray.size_append, ByteArray.size_append] at h1
    have : sp1.size = 1 := rfl
    simp only [List.length_cons]
    rw [numsF]
    omega
def strs (s : ByteArray) (xs : List Int) : List Value := (s :: xs.map itext).map Value.string
theorem strs_len (s : ByteArray) (xs : List Int) : (strs s xs).length = xs.length + 1 := by simp [strs]
theorem strs_snoc (s : ByteArray) (xs : List Int) (x : Int) : strs s (xs ++ [x]) = strs s xs ++ [.string (itext x)] := by simp [strs]
theorem ei_S : EI Tryd.prog 72 9 1 := ei_of Tryd.underlying72 (by omega) (by kernel_rfl)
theorem one_str1 (s : ByteArray) : ∀ u ∈ [Value.string s], u.oneCell' = true := by intro u hu; simp at hu; subst hu; rfl
theorem own_str (W : World) (base : Nat) (t : TypeId) (s : ByteArray) (hb : base ≤ W.heap.size) : (W.alloc (.cells #[.string s] t)).ownsRow base t 1 (.slice (some ⟨W.heap.size, 0, none⟩) 1 1) 1 (strs s []) :=
  own_of_blk hb (Blk.new _ _ _) (by simp) (by unfold maxLen; omega) rfl
set_option maxRecDepth 100000 in
set_option maxHeartbeats 1000000 in
theorem impl_withNumbers (s : ByteArray) (A : Option Addr) (n c : Nat) (xs : List Int) (w : World) (hx : Rd w 1 A n (xs.flatMap ienc)) (hn : n ≤ 4) (hs : s.size ≤ 8) (hxs : Hid (∀ x ∈ xs, 0 ≤ x ∧ x ≤ 1000))
    (htab : Hid (Lib.TabIs Tryd.prog w "internal/strconv.uint64pow10" .u64 Lib.pow10Tab)) :
    Calls Tryd.prog 41 #[.string s, .slice A n c] w fun e w' => e = .returned (.string (numsF s xs)) ∧ Ext w w' := by
  have hl := Lib.hid (hx.len ienc_len (by omega))
  have HX := Lib.hid hx
  have Ho0 := Lib.hid (own_str w w.heap.size 9 s (Nat.le_refl _))
  go_enter Tryd.func41, Tryd.ntmps41
  go_wp2_with fail
  go_loopw [5, 12] (fun o i wr => ∃ (k : Nat), k ≤ n ∧ i = .int .i64 k ∧ Hid (wr.ownsRow w.heap.size 9 1 o (k + 1) (strs s (xs.take k))) ∧ Ext w wr) (fun _ i _ => n - (intOf i).toNat)
  case atStart => exact ⟨0, Nat.zero_le _, rfl, Ho0, (Ext.refl _).alloc _⟩
  case round =>
    obtain ⟨k, hk, rfl, hown, hb⟩ := hrel
    by_cases hlt : k < n
    · obtain ⟨b, off, x, rfl, hbs, hxk, h0⟩ := ienc_at (HX.out.keep hb) hlt
      obtain ⟨hx0, hx1⟩ := hxs.out x (List.mem_of_getElem? hxk)
      have HT : Hid (strs s (xs.take (k + 1)) = strs s (xs.take k) ++ [.string (itext x)]) := by
        unfold Hid; rw [← strs_snoc, List.take_add_one, hxk]; rfl
      have HB := Lib.hid hb
      have hF := Lib.hid (impl_FormatInt x (by omega) (by omega) wr (Lib.hid (tab_ext htab.out hb)))
      have hsw := hb.size
      obtain ⟨T, hTT⟩ : ∃ T, T = itext x := ⟨_, rfl⟩
      rw [← hTT] at HT hF
      clear hb hxk hTT
      go_wp2_with (first
        | (go_at_call 38; refine hF.out.mono ?_; rintro e w1 ⟨rfl, hb1⟩; have HB1 := Lib.hid hb1; have hs1 := hb1.size; clear hb1)
        | (at_builtin; refine append1 ei_S rfl _ _ rfl w.heap.size w1 _ _ (k + 1) _ (by rfl) (own_keep hown.out HB1.out) [.string T] (by rfl) rfl (one_str1 _) (by omega) (by omega) ?_; intro v' w2 ho2 he2; have HO2 := Lib.hid ho2; have HE2 := Lib.hid (he2 w (HB.out.trans HB1.out) (Nat.le_refl _)); clear ho2 he2))
      go_roundw
      case rel => exact ⟨k + 1, by omega, by go_num, by unfold Hid; rw [HT.out]; exact HO2.out, HE2.out⟩
      case measure => simp [intOf]; omega
    · obtain rfl : k = n := by omega
      have hown1 := hown.out
      rw [List.take_of_length_le (by rw [hl.out]; omega)] at hown1
      obtain ⟨A', c', rfl, hc'⟩ := own_form hown1
      obtain ⟨-, -, hr⟩ := Rd.of_own hown1
      obtain ⟨g, o, rfl, hg, hcell⟩ := hr (by omega)
      have hJ := Lib.hid (Tryd.strings_Join g o c' (s :: xs.map itext) ⟨#[32]⟩ wr (fun j x hj => hcell j _ (by rw [strs, List.getElem?_map, hj]; rfl)) hg (by simp; have := hl.out; omega) (by simp; have := hl.out; omega) (by
        have h1 := congrArg ByteArray.size (join_nums s xs)
        have h2 := numsF_size xs s hxs.out
        have h3 := hl.out
        have h4 : ∀ L : List UInt8, (⟨L.toArray⟩ : ByteArray).size = L.length := fun L => by simp [ByteArray.size]
        rw [h4] at h1
        omega))
      rw [join_nums, show (s :: xs.map itext).length = k + 1 by simp; exact hl.out] at hJ
      have HB := Lib.hid hb
      clear hb hown hown1 hcell hr
      go_wp2_with (refine hJ.out.mono ?_; rintro e w1 ⟨rfl, hb1⟩; have HB1 := Lib.hid hb1; clear hb1)
      go_ret
      exact ⟨rfl, HB.out.trans HB1.out⟩
end Go.Proofs.YtcmbjkidgemdaaaDoor
