/-
  entity's names and what they stand for; the entity with which a text begins; a text without its escapes; the readers of targets, titles and brackets. Plain functions on lists of bytes.
-/
import Derived.Test.YtmllkffdejojbaaDoorEntSpec
import Derived.Test.YtmllkffdejojbaaDoorAmong
import Derived.Lib.IndexMore
import Derived.Lib.SlTrimSet
namespace Go.Proofs.YtmllkffdejojbaaDoor
open Go.RowKit

def entNames : List (List UInt8) := [[97, 109, 112], [108, 116], [103, 116], [113, 117, 111, 116], [97, 112, 111, 115], [110, 98, 115, 112], [99, 111, 112, 121], [114, 101, 103], [100, 101, 103], [115, 101, 99, 116], [112, 97, 114, 97], [109, 105, 100, 100, 111, 116], [101, 97, 99, 117, 116, 101], [97, 117, 109, 108], [111, 117, 109, 108], [117, 117, 109, 108], [115, 122, 108, 105, 103], [110, 100, 97, 115, 104], [109, 100, 97, 115, 104], [104, 101, 108, 108, 105, 112], [101, 117, 114, 111], [108, 97, 114, 114], [114, 97, 114, 114]]
def entRunes : List Int := [38, 60, 62, 34, 39, 160, 169, 174, 176, 167, 182, 183, 233, 228, 246, 252, 223, 8211, 8212, 8230, 8364, 8592, 8594]
def named (l : List UInt8) : List UInt8 × Bool :=
  match entNames.findIdx? (· == l) with
  | some i => ((Utf8.encode (entRunes.getD i 0)).data.toList, true)
  | none => ([], false)

/-- The entity with which a text begins, and how many bytes it has. -/
def entAt (l : List UInt8) : List UInt8 × Nat :=
  match l with
  | 38 :: 35 :: r =>
    let hex := r.head? = some 120 ∨ r.head? = some 88
    let ahead := if hex then 3 else 2
    let p := number (if hex then 16 else 10) (if hex then 6 else 7) (l.drop ahead)
    if p.2 = 0 then ([], 0) else (p.1, ahead + p.2 + 1)
  | 38 :: rest =>
    let c := Lib.cut rest [59]
    if c.2.2 then
      let n := named c.1
      if n.2 then (n.1, c.1.length + 2) else ([], 0)
    else ([], 0)
  | _ => ([], 0)

def unescF : Nat → List UInt8 → List UInt8
  | 0, _ => []
  | _ + 1, [] => []
  | n + 1, c :: l =>
    if c = 92 ∧ (l.head?.map asciiP).getD false = true then l.take 1 ++ unescF n (l.drop 1)
    else if 0 < (entAt (c :: l)).2 then (entAt (c :: l)).1 ++ unescF n ((c :: l).drop (entAt (c :: l)).2)
    else c :: unescF n l
def unesc (l : List UInt8) : List UInt8 := unescF l.length l

/-- From a place on: where a byte e stands that no backslash is ahead of; none: a bad byte or the end comes first. -/
def scanTo (e : UInt8) (bad : UInt8 → Bool) : Nat → List UInt8 → Nat → Option Nat
  | 0, _, _ => none
  | _ + 1, [], _ => none
  | n + 1, c :: l, i =>
    if c = 92 then (if l.head? = some 0 then none else scanTo e bad n (l.drop 1) (i + 2))
    else if c = e then some i
    else if bad c ∨ c = 0 then none
    else scanTo e bad n l (i + 1)

def angled (l : List UInt8) : List UInt8 × Nat × Bool :=
  match scanTo 62 (fun c => c == 60 || c == 10) l.length (l.drop 1) 1 with
  | some i => (unesc ((l.take i).drop 1), i + 1, true)
  | none => ([], 0, false)

def isWhite (c : UInt8) : Bool := c ≤ 32 || c == 127

def destGo : Nat → List UInt8 → Nat → Nat → Nat × Nat
  | 0, _, o, i => (o, i)
  | _ + 1, [], o, i => (o, i)
  | n + 1, c :: l, o, i =>
    if isWhite c then (o, i)
    else if c = 92 ∧ (l.head?.map (fun d => !isWhite d)).getD false = true then destGo n (l.drop 1) o (i + 2)
    else if c = 40 then destGo n l (o + 1) (i + 1)
    else if c = 41 ∧ o = 0 then (o, i)
    else if c = 41 then destGo n l (o - 1) (i + 1)
    else destGo n l o (i + 1)

def dest (l : List UInt8) : List UInt8 × Nat × Bool :=
  if l.head? = some 60 then angled l
  else
    let p := destGo l.length l 0 0
    if p.2 = 0 ∨ 0 < p.1 then ([], 0, false) else (unesc (l.take p.2), p.2, true)

def title (l : List UInt8) : List UInt8 × Nat × Bool :=
  match l with
  | [] => ([], 0, false)
  | c :: r =>
    if c = 34 ∨ c = 39 ∨ c = 40 then
      let e := if c = 40 then 41 else c
      match scanTo e (fun d => d == 40 && e == 41) r.length r 1 with
      | some i => (unesc ((l.take i).drop 1), i + 1, true)
      | none => ([], 0, false)
    else ([], 0, false)

def whites : List UInt8 := [32, 9, 10]
def skipW (l : List UInt8) (at_ : Nat) : Nat := l.length - (Lib.trimLeftS (l.drop at_) whites).length

def inside (l : List UInt8) : List UInt8 × List UInt8 × Nat × Bool :=
  if l.head? = some 40 then
    let a := skipW l 1
    let d := dest (l.drop a)
    let b := if d.2.2 then skipW l (a + d.2.1) else a
    let gap := if d.2.2 then decide (a + d.2.1 < b) else decide (1 < a)
    let t := if gap then title (l.drop b) else ([], 0, false)
    let z := if t.2.2 then skipW l (b + t.2.1) else b
    if l[z]? = some 41 then (d.1, t.1, z + 1, true) else ([], [], 0, false)
  else ([], [], 0, false)

theorem entAt_other (c : UInt8) (l : List UInt8) (h : c ≠ 38) : entAt (c :: l) = ([], 0) := by
  unfold entAt
  split
  · rename_i heq; simp only [List.cons.injEq] at heq; exact absurd heq.1 h
  · rename_i heq; simp only [List.cons.injEq] at heq; exact absurd heq.1 h
  · rfl

end Go.Proofs.YtmllkffdejojbaaDoor
