/- Folds over the first k elements, and the elements of typed rows; no condition but what stands at each theorem. -/
import Derived.Test.YtkelmeemblmggaaT1
import Derived.Test.YtkelmeemblmggaaK2
namespace Go.Proofs.Ytkelmeemblmggaa
set_option linter.unusedSimpArgs false
set_option linter.unusedVariables false
open Go.RowKit
theorem fold_step {α β : Type} (f : β → α → β) (a : β) {xs : List α} {k : Nat} {x : α} (h : xs[k]? = some x) : (xs.take (k + 1)).foldl f a = f ((xs.take k).foldl f a) x := by
  have hk : k < xs.length := (List.getElem?_eq_some_iff.1 h).1
  have hx : xs[k] = x := (List.getElem?_eq_some_iff.1 h).2
  rw [List.take_succ_eq_append_getElem hk, List.foldl_append, hx]; rfl
theorem take_snoc {α : Type} {xs : List α} {k : Nat} {x : α} (h : xs[k]? = some x) : xs.take (k + 1) = xs.take k ++ [x] := by
  have hk : k < xs.length := (List.getElem?_eq_some_iff.1 h).1
  have hx : xs[k] = x := (List.getElem?_eq_some_iff.1 h).2
  rw [List.take_succ_eq_append_getElem hk, hx]
theorem GShift.len (x : GShift) : x.enc.length = 3 := rfl
theorem GCheck.len (x : GCheck) : x.enc.length = 3 := rfl
theorem GLoan.len (x : GLoan) : x.enc.length = 4 := rfl
theorem GClimate.len (x : GClimate) : x.enc.length = 3 := rfl
theorem GAct.len (x : GAct) : x.enc.length = 5 := rfl
theorem GStay.len (x : GStay) : x.enc.length = 4 := rfl
theorem GDoor.len (x : GDoor) : x.enc.length = 2 := rfl
theorem GMove.len (x : GMove) : x.enc.length = 4 := rfl
theorem ienc_len (x : Int) : (ienc x).length = 1 := rfl
section
variable {w : World} {A : Option Addr} {n k : Nat}
theorem GShift.at_ {xs : List GShift} (h : Rd w 3 A n (xs.flatMap GShift.enc)) (hk : k < n) :
    ∃ (b off : Nat) (x : GShift), A = some ⟨b, off, none⟩ ∧ b < w.heap.size ∧ xs[k]? = some x ∧ w.cell? ⟨b, off + k * 3, none⟩ = some (.int .i64 x.g) ∧ w.cell? ⟨b, off + k * 3 + 1, none⟩ = some (.int .i64 x.f) ∧ w.cell? ⟨b, off + k * 3 + 2, none⟩ = some (.int .i64 x.t) :=
  Rd.at3 (p := fun (s : GShift) => .int .i64 s.g) (q := fun s => .int .i64 s.f) (r := fun s => .int .i64 s.t) (fun _ => rfl) h hk
theorem GCheck.at_ {xs : List GCheck} (h : Rd w 3 A n (xs.flatMap GCheck.enc)) (hk : k < n) :
    ∃ (b off : Nat) (x : GCheck), A = some ⟨b, off, none⟩ ∧ b < w.heap.size ∧ xs[k]? = some x ∧ w.cell? ⟨b, off + k * 3, none⟩ = some (.int .i64 x.m) ∧ w.cell? ⟨b, off + k * 3 + 1, none⟩ = some (.int .i64 x.o) ∧ w.cell? ⟨b, off + k * 3 + 2, none⟩ = some (.bool x.th) :=
  Rd.at3 (p := fun (s : GCheck) => .int .i64 s.m) (q := fun s => .int .i64 s.o) (r := fun s => .bool s.th) (fun _ => rfl) h hk
theorem GClimate.at_ {xs : List GClimate} (h : Rd w 3 A n (xs.flatMap GClimate.enc)) (hk : k < n) :
    ∃ (b off : Nat) (x : GClimate), A = some ⟨b, off, none⟩ ∧ b < w.heap.size ∧ xs[k]? = some x ∧ w.cell? ⟨b, off + k * 3, none⟩ = some (.int .i64 x.l) ∧ w.cell? ⟨b, off + k * 3 + 1, none⟩ = some (.int .i64 x.h) ∧ w.cell? ⟨b, off + k * 3 + 2, none⟩ = some (.int .i64 x.g) :=
  Rd.at3 (p := fun (s : GClimate) => .int .i64 s.l) (q := fun s => .int .i64 s.h) (r := fun s => .int .i64 s.g) (fun _ => rfl) h hk
theorem GLoan.at_ {xs : List GLoan} (h : Rd w 4 A n (xs.flatMap GLoan.enc)) (hk : k < n) :
    ∃ (b off : Nat) (x : GLoan), A = some ⟨b, off, none⟩ ∧ b < w.heap.size ∧ xs[k]? = some x ∧ w.cell? ⟨b, off + k * 4, none⟩ = some (.int .i64 x.l) ∧ w.cell? ⟨b, off + k * 4 + 1, none⟩ = some (.int .i64 x.lo) ∧ w.cell? ⟨b, off + k * 4 + 2, none⟩ = some (.int .i64 x.hi) ∧ w.cell? ⟨b, off + k * 4 + 3, none⟩ = some (.int .i64 x.g) :=
  Rd.at4 (p := fun (s : GLoan) => .int .i64 s.l) (q := fun s => .int .i64 s.lo) (r := fun s => .int .i64 s.hi) (s := fun s => .int .i64 s.g) (fun _ => rfl) h hk
theorem GStay.at_ {xs : List GStay} (h : Rd w 4 A n (xs.flatMap GStay.enc)) (hk : k < n) :
    ∃ (b off : Nat) (x : GStay), A = some ⟨b, off, none⟩ ∧ b < w.heap.size ∧ xs[k]? = some x ∧ w.cell? ⟨b, off + k * 4, none⟩ = some (.int .i64 x.p) ∧ w.cell? ⟨b, off + k * 4 + 1, none⟩ = some (.int .i64 x.h) ∧ w.cell? ⟨b, off + k * 4 + 2, none⟩ = some (.int .i64 x.f) ∧ w.cell? ⟨b, off + k * 4 + 3, none⟩ = some (.int .i64 x.t) :=
  Rd.at4 (p := fun (s : GStay) => .int .i64 s.p) (q := fun s => .int .i64 s.h) (r := fun s => .int .i64 s.f) (s := fun s => .int .i64 s.t) (fun _ => rfl) h hk
theorem GMove.at_ {xs : List GMove} (h : Rd w 4 A n (xs.flatMap GMove.enc)) (hk : k < n) :
    ∃ (b off : Nat) (x : GMove), A = some ⟨b, off, none⟩ ∧ b < w.heap.size ∧ xs[k]? = some x ∧ w.cell? ⟨b, off + k * 4, none⟩ = some (.int .i64 x.o) ∧ w.cell? ⟨b, off + k * 4 + 1, none⟩ = some (.int .i64 x.t) ∧ w.cell? ⟨b, off + k * 4 + 2, none⟩ = some (.int .i64 x.f) ∧ w.cell? ⟨b, off + k * 4 + 3, none⟩ = some (.int .i64 x.s) :=
  Rd.at4 (p := fun (s : GMove) => .int .i64 s.o) (q := fun s => .int .i64 s.t) (r := fun s => .int .i64 s.f) (s := fun s => .int .i64 s.s) (fun _ => rfl) h hk
theorem GAct.at_ {xs : List GAct} (h : Rd w 5 A n (xs.flatMap GAct.enc)) (hk : k < n) :
    ∃ (b off : Nat) (x : GAct), A = some ⟨b, off, none⟩ ∧ b < w.heap.size ∧ xs[k]? = some x ∧ w.cell? ⟨b, off + k * 5, none⟩ = some (.int .i64 x.k) ∧ w.cell? ⟨b, off + k * 5 + 1, none⟩ = some (.int .i64 x.a) ∧ w.cell? ⟨b, off + k * 5 + 2, none⟩ = some (.int .i64 x.b) ∧ w.cell? ⟨b, off + k * 5 + 3, none⟩ = some (.int .i64 x.c) ∧ w.cell? ⟨b, off + k * 5 + 4, none⟩ = some (.int .i64 x.d) :=
  Rd.at5 (p := fun (s : GAct) => .int .i64 s.k) (q := fun s => .int .i64 s.a) (r := fun s => .int .i64 s.b) (s := fun s => .int .i64 s.c) (t := fun s => .int .i64 s.d) (fun _ => rfl) h hk
theorem GDoor.at_ {xs : List GDoor} (h : Rd w 2 A n (xs.flatMap GDoor.enc)) (hk : k < n) :
    ∃ (b off : Nat) (x : GDoor), A = some ⟨b, off, none⟩ ∧ b < w.heap.size ∧ xs[k]? = some x ∧ w.cell? ⟨b, off + k * 2, none⟩ = some (.int .i64 x.a) ∧ w.cell? ⟨b, off + k * 2 + 1, none⟩ = some (.int .i64 x.b) :=
  Rd.at2 (p := fun (s : GDoor) => .int .i64 s.a) (q := fun s => .int .i64 s.b) (fun _ => rfl) h hk
theorem ienc_at {xs : List Int} (h : Rd w 1 A n (xs.flatMap ienc)) (hk : k < n) :
    ∃ (b off : Nat) (x : Int), A = some ⟨b, off, none⟩ ∧ b < w.heap.size ∧ xs[k]? = some x ∧ w.cell? ⟨b, off + k, none⟩ = some (.int .i64 x) :=
  Rd.at1 (p := fun (s : Int) => .int .i64 s) (fun _ => rfl) h hk
end
end Go.Proofs.Ytkelmeemblmggaa
