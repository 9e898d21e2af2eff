/- A text of lemmas for the laws of this seat; what each says stands at its theorem; no condition. -/
import Derived.Test.YtkelmeemblmggaaProg
import Derived.Test.YtkelmeemblmggaaK1
namespace Go.Proofs.Ytkelmeemblmggaa
set_option linter.unusedSimpArgs false
set_option linter.unusedVariables false
open Go.RowKit
/-! The Go structs as Lean structures, and how their cells stand. -/
structure GShift where
  g : Int
  f : Int
  t : Int
def GShift.enc (s : GShift) : List Value := [.int .i64 s.g, .int .i64 s.f, .int .i64 s.t]
structure GLoan where
  l : Int
  lo : Int
  hi : Int
  g : Int
def GLoan.enc (s : GLoan) : List Value := [.int .i64 s.l, .int .i64 s.lo, .int .i64 s.hi, .int .i64 s.g]
structure GClimate where
  l : Int
  h : Int
  g : Int
def GClimate.enc (s : GClimate) : List Value := [.int .i64 s.l, .int .i64 s.h, .int .i64 s.g]
structure GAct where
  k : Int
  a : Int
  b : Int
  c : Int
  d : Int
def GAct.enc (s : GAct) : List Value := [.int .i64 s.k, .int .i64 s.a, .int .i64 s.b, .int .i64 s.c, .int .i64 s.d]
structure GCheck where
  m : Int
  o : Int
  th : Bool
def GCheck.enc (s : GCheck) : List Value := [.int .i64 s.m, .int .i64 s.o, .bool s.th]
structure GStay where
  p : Int
  h : Int
  f : Int
  t : Int
def GStay.enc (s : GStay) : List Value := [.int .i64 s.p, .int .i64 s.h, .int .i64 s.f, .int .i64 s.t]
structure GDoor where
  a : Int
  b : Int
def GDoor.enc (s : GDoor) : List Value := [.int .i64 s.a, .int .i64 s.b]
structure GMove where
  o : Int
  t : Int
  f : Int
  s : Int
def GMove.enc (s : GMove) : List Value := [.int .i64 s.o, .int .i64 s.t, .int .i64 s.f, .int .i64 s.s]
def ienc (i : Int) : List Value := [.int .i64 i]
end Go.Proofs.Ytkelmeemblmggaa
