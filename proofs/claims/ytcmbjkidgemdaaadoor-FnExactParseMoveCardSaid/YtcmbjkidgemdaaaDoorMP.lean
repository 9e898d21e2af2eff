/- Texts of acts, in plain Lean: a text of blank-free words gives its words back; an act's text gives the act back; no condition. -/
import Derived.Test.YtcmbjkidgemdaaaDoorST9
import Derived.Test.YtcmbjkidgemdaaaDoorST5
namespace Go.Proofs.YtcmbjkidgemdaaaDoor
set_option linter.unusedSimpArgs false
set_option linter.unusedVariables false
open Go.RowKit Go.Sort
def bfree (l : List UInt8) : Prop := ∀ b ∈ l, b ≠ 32
theorem wd_word : ∀ (l cur r : List UInt8), bfree l → wds cur (l ++ r) = wds (cur ++ l) r
  | [], cur, r, _ => by simp
  | b :: l, cur, r, h => by
    rw [List.cons_append, wd_ne (h b (List.mem_cons_self ..)), wd_word l _ r (fun c hc => h c (List.mem_cons_of_mem _ hc))]
    simp
theorem wd_tail : ∀ (fs : List (List UInt8)) (cur : List UInt8), cur ≠ [] → (∀ f ∈ fs, f ≠ [] ∧ bfree f) → wds cur (Lib.joinTail [32] fs ++ [32]) = cur :: fs
  | [], cur, h, _ => by
    rw [show Lib.joinTail [32] [] ++ [32] = [(32 : UInt8)] from rfl, wd_n h, wd_nil]
  | g :: fs, cur, h, hf => by
    have hg := hf g (List.mem_cons_self ..)
    rw [show Lib.joinTail [32] (g :: fs) ++ [32] = 32 :: (g ++ (Lib.joinTail [32] fs ++ [32])) by simp [Lib.joinTail], wd_n h, wd_word g [] _ hg.2, List.nil_append, wd_tail fs g hg.1 (fun f h => hf f (List.mem_cons_of_mem _ h))]
theorem wd_join {f : List UInt8} {fs : List (List UInt8)} (hf : ∀ g ∈ f :: fs, g ≠ [] ∧ bfree g) : wds [] (Lib.join (f :: fs) [32] ++ [32]) = f :: fs := by
  have h := hf f (List.mem_cons_self ..)
  rw [Lib.join_cons, List.append_assoc, wd_word f [] _ h.2, List.nil_append, wd_tail fs f h.1 (fun g hg => hf g (List.mem_cons_of_mem _ hg))]
theorem wds_good : ∀ (r cur : List UInt8), bfree cur → ∀ l ∈ wds cur r, l ≠ [] ∧ bfree l
  | [], _, _, l, hl => by rw [wd_nil] at hl; cases hl
  | b :: r, cur, hc, l, hl => by
    by_cases hb : b = 32
    · subst hb
      by_cases hcur : cur = []
      · subst hcur
        rw [wd_e] at hl
        exact wds_good r [] (fun b hb => by cases hb) l hl
      · rw [wd_n hcur] at hl
        rcases List.mem_cons.1 hl with rfl | hl
        · exact ⟨hcur, hc⟩
        · exact wds_good r [] (fun b hb => by cases hb) l hl
    · rw [wd_ne hb] at hl
      refine wds_good r _ (fun c h => ?_) l hl
      rw [List.mem_append, List.mem_singleton] at h
      rcases h with h | rfl
      · exact hc c h
      · exact hb
theorem fields_good (x : ByteArray) : ∀ l ∈ fieldsOf x, l ≠ [] ∧ bfree l := wds_good _ [] (fun b hb => by cases hb)
/-- The words, joined by blanks. -/
def jb (fs : List (List UInt8)) : ByteArray := ⟨(Lib.join fs [32]).toArray⟩
theorem jb_inj {f g : List UInt8} {fs gs : List (List UInt8)} (hf : ∀ l ∈ f :: fs, l ≠ [] ∧ bfree l) (hg : ∀ l ∈ g :: gs, l ≠ [] ∧ bfree l) (h : jb (f :: fs) = jb (g :: gs)) : f :: fs = g :: gs := by
  have h1 : Lib.join (f :: fs) [32] = Lib.join (g :: gs) [32] := by
    have := congrArg (fun b : ByteArray => b.data.toList) h
    simpa [jb] using this
  rw [← wd_join hf, ← wd_join hg, h1]
def actW (a : GAct) : List (List UInt8) := (wordOf a.k).data.toList :: ([a.a, a.b, a.c, a.d].take (cntOf a.k)).map fun x => (itext x).data.toList
theorem actT_jb {a : GAct} (h : acOk a = true) : actT a = jb (actW a) := by
  rw [actT, if_pos h, numsF_eq]
  unfold jb actW
  rw [Lib.join_cons]
theorem itext_good {x : Int} (h : 0 ≤ x) : (itext x).data.toList ≠ [] ∧ bfree (itext x).data.toList := by
  obtain ⟨n, rfl⟩ := Int.eq_ofNat_of_zero_le h
  rw [itext_list]
  refine ⟨fun e => ?_, fun b hb e => ?_⟩
  · have := dd_ne n; rw [e] at this; simp at this
  · have := dd_dig n b hb
    rw [e] at this
    have h32 : (32 : UInt8).toNat = 32 := rfl
    omega
theorem itext_inj {x y : Int} (hx : 0 ≤ x) (hy : 0 ≤ y) (h : (itext x).data.toList = (itext y).data.toList) : x = y := by
  obtain ⟨n, rfl⟩ := Int.eq_ofNat_of_zero_le hx
  obtain ⟨m, rfl⟩ := Int.eq_ofNat_of_zero_le hy
  rw [itext_list, itext_list] at h
  have := congrArg (List.foldl pS 0) h
  rw [dd_val, dd_val] at this
  rw [this]
theorem word_good {k : Int} (h : k = 1 ∨ k = 2 ∨ k = 3 ∨ k = 4 ∨ k = 5) : (wordOf k).data.toList ≠ [] ∧ bfree (wordOf k).data.toList := by
  unfold bfree
  rcases h with rfl | rfl | rfl | rfl | rfl <;> decide
theorem word_inj {k l : Int} (h : k = 1 ∨ k = 2 ∨ k = 3 ∨ k = 4 ∨ k = 5) (h' : l = 1 ∨ l = 2 ∨ l = 3 ∨ l = 4 ∨ l = 5) (e : (wordOf k).data.toList = (wordOf l).data.toList) : k = l := by
  rcases h with rfl | rfl | rfl | rfl | rfl <;> rcases h' with rfl | rfl | rfl | rfl | rfl <;> first | rfl | (exfalso; revert e; decide)
theorem actW_good {a : GAct} (h : acOk a = true) : ∀ l ∈ actW a, l ≠ [] ∧ bfree l := by
  obtain ⟨hk, hx, hy, hz, hu⟩ := ac_cases h
  intro l hl
  unfold actW at hl
  rcases List.mem_cons.1 hl with rfl | hl
  · exact word_good hk
  · obtain ⟨v, hv, rfl⟩ := List.mem_map.1 hl
    exact itext_good (vals_ok hx hy hz hu v (List.mem_of_mem_take hv)).1
/-- An act's text is the text of just these words. -/
theorem act_words {a : GAct} {fs : List (List UInt8)} (h : acOk a = true) (hf : ∀ l ∈ fs, l ≠ [] ∧ bfree l) (hn : fs ≠ []) (e : actT a = jb fs) : fs = actW a := by
  rw [actT_jb h] at e
  cases fs with
  | nil => exact absurd rfl hn
  | cons f fs => exact (jb_inj (actW_good h) hf e).symm
/-- What the parse of a word answers. -/
def NumOf (f : List UInt8) (z : Int) : Prop := ∀ i : Nat, i ≤ 1000 → (⟨f.toArray⟩ : ByteArray) = itext i → z = i
def NumAt (fs : List (List UInt8)) (j : Nat) (z : Int) : Prop := (∃ f, fs[j + 1]? = some f ∧ NumOf f z) ∨ (fs.length ≤ j + 1 ∧ z = 0)
theorem num_is {x z : Int} (h0 : 0 ≤ x) (h1 : x ≤ 1000) (h : NumOf (itext x).data.toList z) : z = x := by
  obtain ⟨n, rfl⟩ := Int.eq_ofNat_of_zero_le h0
  exact h n (by omega) (by rfl)
theorem ac_rest {a : GAct} (h : acOk a = true) : (a.k = 1 → a.c = 0 ∧ a.d = 0) ∧ (a.k = 3 ∨ a.k = 5 → a.b = 0 ∧ a.c = 0 ∧ a.d = 0) ∧ (a.k = 4 → a.a = 0 ∧ a.b = 0 ∧ a.c = 0 ∧ a.d = 0) := by
  unfold acOk at h
  refine ⟨fun e => ?_, fun e => ?_, fun e => ?_⟩
  · simp [e] at h; omega
  · rcases e with e | e <;> (simp [e] at h; omega)
  · simp [e] at h; omega
/-- Where an act has the text of the words, the numbers read from the words are the act's. -/
theorem act_nums {a : GAct} {fs : List (List UInt8)} {n0 n1 n2 n3 : Int} (h : acOk a = true) (e : fs = actW a) (h0 : NumAt fs 0 n0) (h1 : NumAt fs 1 n1) (h2 : NumAt fs 2 n2) (h3 : NumAt fs 3 n3) : a = ⟨a.k, n0, n1, n2, n3⟩ := by
  obtain ⟨hk, hx, hy, hz, hu⟩ := ac_cases h
  obtain ⟨r1, r3, r4⟩ := ac_rest h
  obtain ⟨k, x, y, z, u⟩ := a
  simp only at hk hx hy hz hu r1 r3 r4
  subst e
  have none_ : ∀ {j : Nat} {v : Int}, NumAt (actW ⟨k, x, y, z, u⟩) j v → (actW ⟨k, x, y, z, u⟩).length ≤ j + 1 → v = 0 := by
    intro j v hv hl
    rcases hv with ⟨f, hf, _⟩ | ⟨_, h⟩
    · rw [List.getElem?_eq_none hl] at hf; cases hf
    · exact h
  have some_ : ∀ {j : Nat} {v t : Int}, NumAt (actW ⟨k, x, y, z, u⟩) j v → (actW ⟨k, x, y, z, u⟩)[j + 1]? = some (itext t).data.toList → 0 ≤ t → t ≤ 1000 → v = t := by
    intro j v t hv hl ht0 ht1
    rcases hv with ⟨f, hf, hn⟩ | ⟨h, _⟩
    · rw [hl] at hf
      injection hf with hf
      subst hf
      exact num_is ht0 ht1 hn
    · rw [List.getElem?_eq_none h] at hl; cases hl
  rcases hk with rfl | rfl | rfl | rfl | rfl
  · obtain ⟨e1, e2⟩ := r1 rfl
    rw [some_ h0 rfl hx.1 hx.2, some_ h1 rfl hy.1 hy.2, none_ h2 (by simp [actW, cntOf]), none_ h3 (by simp [actW, cntOf]), e1, e2]
  · rw [some_ h0 rfl hx.1 hx.2, some_ h1 rfl hy.1 hy.2, some_ h2 rfl hz.1 hz.2, some_ h3 rfl hu.1 hu.2]
  · obtain ⟨e1, e2, e3⟩ := r3 (.inl rfl)
    rw [some_ h0 rfl hx.1 hx.2, none_ h1 (by simp [actW, cntOf]), none_ h2 (by simp [actW, cntOf]), none_ h3 (by simp [actW, cntOf]), e1, e2, e3]
  · obtain ⟨e0, e1, e2, e3⟩ := r4 rfl
    rw [none_ h0 (by simp [actW, cntOf]), none_ h1 (by simp [actW, cntOf]), none_ h2 (by simp [actW, cntOf]), none_ h3 (by simp [actW, cntOf]), e0, e1, e2, e3]
  · obtain ⟨e1, e2, e3⟩ := r3 (.inr rfl)
    rw [some_ h0 rfl hx.1 hx.2, none_ h1 (by simp [actW, cntOf]), none_ h2 (by simp [actW, cntOf]), none_ h3 (by simp [actW, cntOf]), e1, e2, e3]
theorem actW_len (a : GAct) : 1 ≤ (actW a).length ∧ (actW a).length ≤ 5 := by
  unfold actW
  simp only [List.length_cons, List.length_map, List.length_take, List.length_nil]
  omega
/-- What ParseAct answers. -/
def PA (x : ByteArray) (a : GAct) (b : Bool) : Prop :=
  (b = true ∧ spOk x = true ∧ acOk a = true ∧ fieldsOf x = actW a) ∨ (b = false ∧ a = ⟨0, 0, 0, 0, 0⟩ ∧ ∀ a', spOk x = true → acOk a' = true → fieldsOf x ≠ actW a')
theorem actW_inj {a a' : GAct} (h : acOk a = true) (h' : acOk a' = true) (e : actW a = actW a') : a = a' := by
  have key : ∀ {b : GAct}, acOk b = true → ∀ {fs}, fs = actW b → ∃ n0 n1 n2 n3, NumAt fs 0 n0 ∧ NumAt fs 1 n1 ∧ NumAt fs 2 n2 ∧ NumAt fs 3 n3 := by
    intro b hb fs e
    have at_ : ∀ j, ∃ n, NumAt fs j n := by
      intro j
      by_cases hj : fs.length ≤ j + 1
      · exact ⟨0, .inr ⟨hj, rfl⟩⟩
      · have hg : fs[j + 1]? = some fs[j + 1] := List.getElem?_eq_getElem (by omega)
        refine ⟨((fs[j + 1]).foldl pS 0 : Nat), .inl ⟨_, hg, fun i hi hh => ?_⟩⟩
        have := congrArg (fun b : ByteArray => b.data.toList) hh
        simp only [itext_list] at this
        rw [show fs[j + 1] = Lib.decDigits i by simpa using this, dd_val]
    obtain ⟨n0, h0⟩ := at_ 0
    obtain ⟨n1, h1⟩ := at_ 1
    obtain ⟨n2, h2⟩ := at_ 2
    obtain ⟨n3, h3⟩ := at_ 3
    exact ⟨n0, n1, n2, n3, h0, h1, h2, h3⟩
  obtain ⟨n0, n1, n2, n3, h0, h1, h2, h3⟩ := key h rfl
  have e1 := act_nums h rfl h0 h1 h2 h3
  have e2 := act_nums h' e h0 h1 h2 h3
  have hw : a.k = a'.k := by
    have := congrArg (fun l : List (List UInt8) => l.head?) e
    simp only [actW, List.head?_cons, Option.some.injEq] at this
    exact word_inj (ac_cases h).1 (ac_cases h').1 this
  rw [e1, e2, hw]
theorem pa_eq {x : ByteArray} {a a' : GAct} {b b' : Bool} (h : PA x a b) (h' : PA x a' b') : a = a' ∧ b = b' := by
  rcases h with ⟨rfl, hs, ho, he⟩ | ⟨rfl, rfl, hn⟩ <;> rcases h' with ⟨rfl, hs', ho', he'⟩ | ⟨rfl, rfl, hn'⟩
  · exact ⟨actW_inj ho ho' (he.symm.trans he'), rfl⟩
  · exact absurd he (hn' a hs ho)
  · exact absurd he' (hn a' hs' ho')
  · exact ⟨rfl, rfl⟩
end Go.Proofs.YtcmbjkidgemdaaaDoor
