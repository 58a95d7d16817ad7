/-
  define.Line: the plain function, and the two cuts that it makes.
-/
import Derived.Test.YtmllkffdejojbaaDoorLink
namespace Go.Proofs.YtmllkffdejojbaaDoor
open Go.RowKit
set_option linter.unusedVariables false

/-- What stands before and behind a byte, and whether there is one. -/
def cutAt (c : UInt8) (l : List UInt8) : List UInt8 × List UInt8 × Bool := Lib.cut l [c]
def preAt (c : UInt8) (l : List UInt8) : List UInt8 × Bool := (Lib.trimPrefix l [c], Lib.hasPrefix l [c])

theorem pre_any (c : UInt8) (s : ByteArray) (w : World) :
    Calls Tryd.prog 55 #[.string s, .string ⟨#[c]⟩] w fun e w' => e = .returned (.tuple #[.string ⟨(preAt c s.data.toList).1.toArray⟩, .bool (preAt c s.data.toList).2]) ∧ w' = w :=
  Tryd.strings_CutPrefix s ⟨#[c]⟩ w

theorem cut_any (c : UInt8) (s : ByteArray) (w : World) (hE : Env w) (hs : s.size ≤ 1000000000) :
    Calls Tryd.prog 56 #[.string s, .string ⟨#[c]⟩] w fun e w' => e = .returned (.tuple #[.string ⟨(cutAt c s.data.toList).1.toArray⟩, .string ⟨(cutAt c s.data.toList).2.1.toArray⟩, .bool (cutAt c s.data.toList).2.2]) ∧ Below w.heap.size w w' := by
  obtain ⟨m, hm⟩ := hE.maxl
  refine (Tryd.strings_Cut s ⟨#[c]⟩ m w (by omega) hm).mono ?_
  rintro e w' ⟨rfl, n, rfl⟩
  exact ⟨rfl, below_drewN w n⟩

/-- A definition: its name, url, title, text, and whether it is a note. -/
structure DefL where
  name : List UInt8
  url : List UInt8
  title : List UInt8
  text : List UInt8
  note : Bool
deriving DecidableEq

def DefL.none : DefL := ⟨[], [], [], [], false⟩
def DefL.val (d : DefL) : Value := defV d.name d.url d.title d.text d.note

/-- What Line makes of a name and of what stands behind the colon. -/
def lineOf (name rest : List UInt8) : DefL × Bool :=
  if (preAt 94 name).2 = true then
    if plainL rest ≠ [] ∧ (nameL (preAt 94 name).1).2 = true then (⟨(nameL (preAt 94 name).1).1, [], [], plainL rest, true⟩, true) else (DefL.none, false)
  else if (linkL rest).2.2 = true ∧ (nameL name).2 = true then (⟨(nameL name).1, (linkL rest).1, (linkL rest).2.1, [], false⟩, true) else (DefL.none, false)

def lineL (l : List UInt8) : DefL × Bool :=
  if (preAt 91 l).2 = false then (DefL.none, false)
  else if (cutAt 93 (preAt 91 l).1).2.2 = true ∧ (preAt 58 (cutAt 93 (preAt 91 l).1).2.1).2 = true then
    lineOf (cutAt 93 (preAt 91 l).1).1 (behindL (preAt 58 (cutAt 93 (preAt 91 l).1).2.1).1).1
  else (DefL.none, false)

/-- What Take makes of a text: the definitions, and the rest. -/
def takeL : Nat → List UInt8 → List DefL → List DefL × List UInt8
  | 0, l, out => (out, l)
  | f + 1, l, out =>
    if l = [] then (out, l)
    else if (lineL (cutAt 10 l).1).2 = true then takeL f (cutAt 10 l).2.1 (out ++ [(lineL (cutAt 10 l).1).1]) else (out, l)

end Go.Proofs.YtmllkffdejojbaaDoor
