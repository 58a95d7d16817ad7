/-
  token: the plain functions: which token a text begins with, and how many bytes it has.
-/
import Derived.Test.YtmllkffdejojbaaDoorEntFn
import Derived.Test.YtmllkffdejojbaaDoorLineSpec
import Derived.Lib.IndexAny
import Derived.Lib.IndexBytes
namespace Go.Proofs.YtmllkffdejojbaaDoor
open Go.RowKit
set_option linter.unusedVariables false

inductive Tok
  | word (l : List UInt8)
  | code (l : List UInt8)
  | tag (l : List UInt8)
  | auto (u t : List UInt8)
  | run (c : UInt8) (n : Nat)
  | mark (l : List UInt8)
  | brk (h : Bool)
  | atom (n : Nat)
deriving DecidableEq

def lettersL : List UInt8 := [97, 98, 99, 100, 101, 102, 103, 104, 105, 106, 107, 108, 109, 110, 111, 112, 113, 114, 115, 116, 117, 118, 119, 120, 121, 122, 65, 66, 67, 68, 69, 70, 71, 72, 73, 74, 75, 76, 77, 78, 79, 80, 81, 82, 83, 84, 85, 86, 87, 88, 89, 90]
def digitsL : List UInt8 := [48, 49, 50, 51, 52, 53, 54, 55, 56, 57]
def specialL : List UInt8 := [0, 92, 38, 96, 60, 42, 95, 33, 91, 93, 10, 32]

/-- How many bytes of a set a text begins with. -/
def amongL (s set : List UInt8) : Nat := (s.takeWhile (set.contains ·)).length
def numOf (l : List UInt8) : Nat := l.foldl (fun v c => v * 10 + (c.toNat - 48)) 0

def atomL (s : List UInt8) : Option (Tok × Nat) :=
  if amongL (s.drop 1) digitsL < 1 ∨ 4 < amongL (s.drop 1) digitsL then none
  else if (s.drop (1 + amongL (s.drop 1) digitsL)).head? = some 0 then some (.atom (numOf ((s.drop 1).take (amongL (s.drop 1) digitsL))), amongL (s.drop 1) digitsL + 2)
  else none

def behindT (s : List UInt8) : Nat := 1 + amongL (s.drop 1) [32, 9]

def escapedL (s : List UInt8) : Option (Tok × Nat) :=
  match s.drop 1 with
  | [] => none
  | c :: _ => if asciiP c = true then some (.word [c], 2) else if c = 10 then some (.brk true, 1 + behindT (s.drop 1)) else none

/-- The text of code: LFs are blanks; one blank at each end goes, if there is more than blanks. -/
def lfBlank (l : List UInt8) : List UInt8 := l.map fun c => if c = 10 then 32 else c
def codeText (l : List UInt8) : List UInt8 :=
  if (lfBlank l).head? = some 32 ∧ (lfBlank l).getLast? = some 32 ∧ (lfBlank l).any (fun c => c != 32) = true then (lfBlank l).tail.dropLast else lfBlank l
def codeGo : Nat → List UInt8 → Nat → Nat → Tok × Nat
  | 0, s, n, _ => (.word (s.take n), n)
  | f + 1, s, n, i =>
    if Lib.indexByte (s.drop i) 96 < 0 then (.word (s.take n), n)
    else if amongL (s.drop (i + (Lib.indexByte (s.drop i) 96).toNat)) [96] = n then
      (.code (codeText ((s.take (i + (Lib.indexByte (s.drop i) 96).toNat)).drop n)), i + (Lib.indexByte (s.drop i) 96).toNat + n)
    else codeGo f s n (i + (Lib.indexByte (s.drop i) 96).toNat + amongL (s.drop (i + (Lib.indexByte (s.drop i) 96).toNat)) [96])
def codeL (s : List UInt8) : Tok × Nat := codeGo (s.length + 1) s (amongL s [96]) (amongL s [96])

def autoEnd : List UInt8 → Nat → Option Nat
  | [], _ => none
  | c :: l, i => if c = 62 then some i else if c ≤ 32 ∨ c = 60 ∨ c = 127 then none else autoEnd l (i + 1)
def autoL (s : List UInt8) : Option (Tok × Nat) :=
  if amongL (s.drop 1) lettersL = 0 then none
  else if amongL (s.drop 2) (lettersL ++ digitsL ++ [43, 46, 45]) < 1 ∨ 31 < amongL (s.drop 2) (lettersL ++ digitsL ++ [43, 46, 45]) then none
  else if (s.drop (2 + amongL (s.drop 2) (lettersL ++ digitsL ++ [43, 46, 45]))).head? = some 58 then
    (match autoEnd (s.drop (2 + amongL (s.drop 2) (lettersL ++ digitsL ++ [43, 46, 45]))) (2 + amongL (s.drop 2) (lettersL ++ digitsL ++ [43, 46, 45])) with
    | some i => some (.auto ((s.take i).drop 1) ((s.take i).drop 1), i + 1)
    | none => none)
  else none

def mailto : List UInt8 := [109, 97, 105, 108, 116, 111, 58]
def mailL (s : List UInt8) : Option (Tok × Nat) :=
  if amongL (s.drop 1) (lettersL ++ digitsL ++ [46, 45, 95, 43]) = 0 then none
  else if (s.drop (1 + amongL (s.drop 1) (lettersL ++ digitsL ++ [46, 45, 95, 43]))).head? = some 64 then
    (if amongL (s.drop (2 + amongL (s.drop 1) (lettersL ++ digitsL ++ [46, 45, 95, 43]))) (lettersL ++ digitsL ++ [45, 46]) = 0 then none
    else if (s.drop (2 + amongL (s.drop 1) (lettersL ++ digitsL ++ [46, 45, 95, 43]) + amongL (s.drop (2 + amongL (s.drop 1) (lettersL ++ digitsL ++ [46, 45, 95, 43]))) (lettersL ++ digitsL ++ [45, 46]))).head? = some 62 then
      some (.auto (mailto ++ (s.take (2 + amongL (s.drop 1) (lettersL ++ digitsL ++ [46, 45, 95, 43]) + amongL (s.drop (2 + amongL (s.drop 1) (lettersL ++ digitsL ++ [46, 45, 95, 43]))) (lettersL ++ digitsL ++ [45, 46]))).drop 1)
        ((s.take (2 + amongL (s.drop 1) (lettersL ++ digitsL ++ [46, 45, 95, 43]) + amongL (s.drop (2 + amongL (s.drop 1) (lettersL ++ digitsL ++ [46, 45, 95, 43]))) (lettersL ++ digitsL ++ [45, 46]))).drop 1),
        2 + amongL (s.drop 1) (lettersL ++ digitsL ++ [46, 45, 95, 43]) + amongL (s.drop (2 + amongL (s.drop 1) (lettersL ++ digitsL ++ [46, 45, 95, 43]))) (lettersL ++ digitsL ++ [45, 46]) + 1)
    else none)
  else none

def tagEnd : List UInt8 → Nat → Option Nat
  | [], _ => none
  | c :: l, i => if c = 62 then some i else if c = 60 ∨ c = 0 then none else tagEnd l (i + 1)
def tagAt (s : List UInt8) (a : Nat) : Option (Tok × Nat) :=
  if amongL (s.drop a) lettersL = 0 then none
  else
    match s.drop (a + amongL (s.drop a) (lettersL ++ digitsL ++ [45])) with
    | [] => none
    | c :: r =>
      if c ≠ 62 ∧ c ≠ 32 ∧ c ≠ 10 ∧ c ≠ 47 then none
      else match tagEnd (c :: r) (a + amongL (s.drop a) (lettersL ++ digitsL ++ [45])) with
        | some i => some (.tag (s.take (i + 1)), i + 1)
        | none => none
def tagL (s : List UInt8) : Option (Tok × Nat) := tagAt s (if (s.drop 1).head? = some 47 then 2 else 1)

def angleL (s : List UInt8) : Option (Tok × Nat) :=
  match autoL s with
  | some r => some r
  | none => match mailL s with
    | some r => some r
    | none => tagL s

def beginsL : List UInt8 → Option (Tok × Nat)
  | [] => none
  | c :: r =>
    if c = 0 then atomL (c :: r)
    else if c = 92 then escapedL (c :: r)
    else if c = 38 then (if 0 < (entAt (c :: r)).2 then some (.word (entAt (c :: r)).1, (entAt (c :: r)).2) else none)
    else if c = 96 then some (codeL (c :: r))
    else if c = 60 then angleL (c :: r)
    else if c = 42 ∨ c = 95 then some (.run c (amongL (c :: r) [c]), amongL (c :: r) [c])
    else if c = 33 then (if r.head? = some 91 then some (.mark [33, 91], 2) else none)
    else if c = 91 ∨ c = 93 then some (.mark [c], 1)
    else if c = 32 ∨ c = 10 then
      (if ((c :: r).drop (amongL (c :: r) [32])).head? = some 10 then some (.brk (decide (2 ≤ amongL (c :: r) [32])), amongL (c :: r) [32] + behindT ((c :: r).drop (amongL (c :: r) [32])))
      else some (.word ((c :: r).take (amongL (c :: r) [32])), amongL (c :: r) [32]))
    else none

/-- How many bytes a word of other bytes has. -/
def plainTo (s : List UInt8) : Nat := if 0 ≤ Lib.indexAny (s.drop 1) specialL then 1 + (Lib.indexAny (s.drop 1) specialL).toNat else s.length
def nextL (s : List UInt8) : Tok × Nat :=
  match beginsL s with
  | some r => r
  | none => (.word (s.take (plainTo s)), plainTo s)

def allL : Nat → List UInt8 → List Tok
  | 0, _ => []
  | f + 1, l => if l = [] then [] else (nextL l).1 :: allL f (l.drop (nextL l).2)

/-- A token, as the model keeps it. -/
def Tok.val : Tok → Value
  | .word l => .iface 88 (.string ⟨l.toArray⟩)
  | .code l => .iface 89 (.string ⟨l.toArray⟩)
  | .tag l => .iface 90 (.string ⟨l.toArray⟩)
  | .auto u t => .iface 92 (.agg #[.string ⟨u.toArray⟩, .string ⟨t.toArray⟩])
  | .run c n => .iface 94 (.agg #[.int .u8 (c.toNat : Int), .int .i64 n])
  | .mark l => .iface 96 (.agg #[.string ⟨l.toArray⟩])
  | .brk h => .iface 98 (.agg #[.bool h])
  | .atom n => .iface 100 (.agg #[.int .i64 n])

def tokVal : Option (Tok × Nat) → Value
  | some r => r.1.val
  | none => .nilIface
def tokLen : Option (Tok × Nat) → Nat
  | some r => r.2
  | none => 0

theorem ba_ex (l : List UInt8) : ∃ X : ByteArray, X.data.toList = l ∧ X.size = l.length := ⟨⟨l.toArray⟩, rfl, by rw [Lib.size_eq]⟩

theorem among_trim (s set : List UInt8) : amongL s set + (Lib.trimLeftS s set).length = s.length := by
  unfold amongL Lib.trimLeftS
  rw [← List.length_append, List.takeWhile_append_dropWhile]
theorem among_le (s set : List UInt8) : amongL s set ≤ s.length := by have := among_trim s set; omega

end Go.Proofs.YtmllkffdejojbaaDoor
