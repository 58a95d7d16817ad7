/-
  No cell of these rows narrows 'for every input' (looked for: loops, veiled, ifaces, maps, wideKeys, modest, calm, conditions, laid).
  DERIVED. THE GIVEN ROWS OF THIS SEAT. 6 by the template 'for every input the law returns true; each argument reads behind the call as it read before'; 0 by the template 'total and deterministic' (their statements: YteblfpliiijeaaaTotals.lean).
  GIVEN WITH THE SEED: the statements are not yours to turn. If you find one false, say at which input.
  Laid BY PROGRAM, IN A SANDBOX (cutbox-rows.mjs): the forced cells as the released guide's own fill.sh prints them over the translation d2ff859539255328… (all of the seat's roots in one cut). By AI agents, Wed Nov 11 2026. No macro, syntax, notation, axiom, sorry.
-/
import Derived.Test.YteblfpliiijeaaaChecked
import GoSem.Claim
import GoSem.ClaimJoined
import GoSem.ClaimMapViews
import Derived.JoinedTies
import Derived.KernelRfl
namespace Go.Proofs.Yteblfpliiijeaaa
/- THE CELL 'sum', in the pinned program and in every row, IS THE sha256 OF THE DUMP (.gsa) THAT YteblfpliiijeaaaProg.lean LOADS. Nothing in Lean hashes anything: it is a label: what it is worth is what the hold of that sum in a sandbox is worth. -/
noncomputable def Try.pinned : Pinned := { name := "yteblfpliiijeaaa", sum := "d2ff859539255328ba62f5afb88f18aa6a7649b368fce856ac7cac90d3e79a68", checked := Try.checked }
namespace Rows
def none {H : Type} : Left H := { results := [], args := [] }

/-- 'bowdlerlaw5.LatticeTells': WHATEVER THE INPUT: true; the input reads as it did. -/
def latticeTellsSpec : ChangeSpec := { name := "latticeTells", fn := fun _ => fun
  | [d1, d2, d3, d4] => { results := [.lit (.bool true)], args := [d1, d2, d3, d4] }
  | _ => none }
def latticeTellsRow : OpenClaim := { program := "yteblfpliiijeaaa", sum := "d2ff859539255328ba62f5afb88f18aa6a7649b368fce856ac7cac90d3e79a68", func := "bowdler/bowdlerlaw5.LatticeTells", spec := "latticeTells", apart := false }
def LatticeTellsSaid : Prop := latticeTellsRow.holds Try.pinned (OpenSpec.ofChange latticeTellsSpec)

/-- ITS FALSE NEIGHBOUR: 'it returns false'. Refute it at one input. -/
def latticeTellsWrong : ChangeSpec := { name := "latticeTells", fn := fun _ => fun
  | [d1, d2, d3, d4] => { results := [.lit (.bool false)], args := [d1, d2, d3, d4] }
  | _ => none }
def LatticeTellsWrongFalsely : Prop := latticeTellsRow.holds Try.pinned (OpenSpec.ofChange latticeTellsWrong)

/-- 'bowdlerlaw5.LatticeLaws': WHATEVER THE INPUT: true; the input reads as it did. -/
def latticeLawsSpec : ChangeSpec := { name := "latticeLaws", fn := fun _ => fun
  | [d1, d2, d3, d4, d5] => { results := [.lit (.bool true)], args := [d1, d2, d3, d4, d5] }
  | _ => none }
def latticeLawsRow : OpenClaim := { program := "yteblfpliiijeaaa", sum := "d2ff859539255328ba62f5afb88f18aa6a7649b368fce856ac7cac90d3e79a68", func := "bowdler/bowdlerlaw5.LatticeLaws", spec := "latticeLaws", apart := false }
def LatticeLawsSaid : Prop := latticeLawsRow.holds Try.pinned (OpenSpec.ofChange latticeLawsSpec)

/-- ITS FALSE NEIGHBOUR: 'it returns false'. Refute it at one input. -/
def latticeLawsWrong : ChangeSpec := { name := "latticeLaws", fn := fun _ => fun
  | [d1, d2, d3, d4, d5] => { results := [.lit (.bool false)], args := [d1, d2, d3, d4, d5] }
  | _ => none }
def LatticeLawsWrongFalsely : Prop := latticeLawsRow.holds Try.pinned (OpenSpec.ofChange latticeLawsWrong)

/-- 'bowdlerlaw5.LatticeChains': WHATEVER THE INPUT: true; the input reads as it did. -/
def latticeChainsSpec : ChangeSpec := { name := "latticeChains", fn := fun _ => fun
  | [d1, d2, d3] => { results := [.lit (.bool true)], args := [d1, d2, d3] }
  | _ => none }
def latticeChainsRow : OpenClaim := { program := "yteblfpliiijeaaa", sum := "d2ff859539255328ba62f5afb88f18aa6a7649b368fce856ac7cac90d3e79a68", func := "bowdler/bowdlerlaw5.LatticeChains", spec := "latticeChains", apart := false }
def LatticeChainsSaid : Prop := latticeChainsRow.holds Try.pinned (OpenSpec.ofChange latticeChainsSpec)

/-- ITS FALSE NEIGHBOUR: 'it returns false'. Refute it at one input. -/
def latticeChainsWrong : ChangeSpec := { name := "latticeChains", fn := fun _ => fun
  | [d1, d2, d3] => { results := [.lit (.bool false)], args := [d1, d2, d3] }
  | _ => none }
def LatticeChainsWrongFalsely : Prop := latticeChainsRow.holds Try.pinned (OpenSpec.ofChange latticeChainsWrong)

/-- 'bowdlerlaw5.LatticeSets': WHATEVER THE INPUT: true; the input reads as it did. -/
def latticeSetsSpec : ChangeSpec := { name := "latticeSets", fn := fun _ => fun
  | [d1, d2] => { results := [.lit (.bool true)], args := [d1, d2] }
  | _ => none }
def latticeSetsRow : OpenClaim := { program := "yteblfpliiijeaaa", sum := "d2ff859539255328ba62f5afb88f18aa6a7649b368fce856ac7cac90d3e79a68", func := "bowdler/bowdlerlaw5.LatticeSets", spec := "latticeSets", apart := false }
def LatticeSetsSaid : Prop := latticeSetsRow.holds Try.pinned (OpenSpec.ofChange latticeSetsSpec)

/-- ITS FALSE NEIGHBOUR: 'it returns false'. Refute it at one input. -/
def latticeSetsWrong : ChangeSpec := { name := "latticeSets", fn := fun _ => fun
  | [d1, d2] => { results := [.lit (.bool false)], args := [d1, d2] }
  | _ => none }
def LatticeSetsWrongFalsely : Prop := latticeSetsRow.holds Try.pinned (OpenSpec.ofChange latticeSetsWrong)

/-- 'bowdlerlaw5.LatticeBad': WHATEVER THE INPUT: true; the input reads as it did. -/
def latticeBadSpec : ChangeSpec := { name := "latticeBad", fn := fun _ => fun
  | [d1, d2, d3] => { results := [.lit (.bool true)], args := [d1, d2, d3] }
  | _ => none }
def latticeBadRow : OpenClaim := { program := "yteblfpliiijeaaa", sum := "d2ff859539255328ba62f5afb88f18aa6a7649b368fce856ac7cac90d3e79a68", func := "bowdler/bowdlerlaw5.LatticeBad", spec := "latticeBad", apart := false }
def LatticeBadSaid : Prop := latticeBadRow.holds Try.pinned (OpenSpec.ofChange latticeBadSpec)

/-- ITS FALSE NEIGHBOUR: 'it returns false'. Refute it at one input. -/
def latticeBadWrong : ChangeSpec := { name := "latticeBad", fn := fun _ => fun
  | [d1, d2, d3] => { results := [.lit (.bool false)], args := [d1, d2, d3] }
  | _ => none }
def LatticeBadWrongFalsely : Prop := latticeBadRow.holds Try.pinned (OpenSpec.ofChange latticeBadWrong)

/-- 'bowdlerlaw5.LatticeTurns': WHATEVER THE INPUT: true; the input reads as it did. -/
def latticeTurnsSpec : ChangeSpec := { name := "latticeTurns", fn := fun _ => fun
  | [d1, d2, d3, d4, d5] => { results := [.lit (.bool true)], args := [d1, d2, d3, d4, d5] }
  | _ => none }
def latticeTurnsRow : OpenClaim := { program := "yteblfpliiijeaaa", sum := "d2ff859539255328ba62f5afb88f18aa6a7649b368fce856ac7cac90d3e79a68", func := "bowdler/bowdlerlaw5.LatticeTurns", spec := "latticeTurns", apart := false }
def LatticeTurnsSaid : Prop := latticeTurnsRow.holds Try.pinned (OpenSpec.ofChange latticeTurnsSpec)

/-- ITS FALSE NEIGHBOUR: 'it returns false'. Refute it at one input. -/
def latticeTurnsWrong : ChangeSpec := { name := "latticeTurns", fn := fun _ => fun
  | [d1, d2, d3, d4, d5] => { results := [.lit (.bool false)], args := [d1, d2, d3, d4, d5] }
  | _ => none }
def LatticeTurnsWrongFalsely : Prop := latticeTurnsRow.holds Try.pinned (OpenSpec.ofChange latticeTurnsWrong)

/- THE SECOND FORM. 'bulk': how many values and letters a reading holds, each counted each time it is reached (what is shared counts as often as it is met; a slice's spare places count too). A statement '..UptoSaid' is the law's where the arguments, and the package variables that the reading takes, are together of bulk at most 1048576: NARROWER than '..Said'. Prove '..Said' where nothing that the law and all that it calls make is longer than what came in: it says more and counts as full. Else prove '..UptoSaid'. A law counts once. -/
mutual
def uptoBulk {H : Type} : DataW H → Nat
  | .lit (.string bytes) => bytes.length + 1
  | .lit _ => 1
  | .nil => 1
  | .ptr d => uptoBulk d + 1
  | .slice elems spare => uptoBulkAll elems + uptoBulkAll spare + 1
  | .agg parts => uptoBulkAll parts + 1
  | .iface _ d => uptoBulk d + 1
  | .map entries => uptoBulkEntries entries + 1
  | .held _ => 1
def uptoBulkAll {H : Type} : List (DataW H) → Nat
  | [] => 0
  | d :: r => uptoBulk d + uptoBulkAll r
def uptoBulkEntries {H : Type} : List (Lit × DataW H) → Nat
  | [] => 0
  | x :: r => uptoBulkEntry x + uptoBulkEntries r
def uptoBulkEntry {H : Type} : Lit × DataW H → Nat
  | (.string bytes, d) => bytes.length + uptoBulk d + 1
  | (_, d) => uptoBulk d + 1
 end
def uptoSmall : (H : Type) → List (DataW H) → Bool := fun _ ds => decide (uptoBulkAll ds ≤ 1048576)
def OpenSpec.upto (s : _root_.Go.ChangeSpec) : _root_.Go.OpenSpec := { _root_.Go.OpenSpec.ofChange s with cond := some uptoSmall }

/-- 'bowdlerlaw5.LatticeTells', WHERE WHAT IT READS IS OF BULK AT MOST 1048576: true; the input reads as it did. -/
def latticeTellsUptoRow : OpenClaim := { program := "yteblfpliiijeaaa", sum := "d2ff859539255328ba62f5afb88f18aa6a7649b368fce856ac7cac90d3e79a68", func := "bowdler/bowdlerlaw5.LatticeTells", spec := "latticeTells", apart := false, narrowed := true }
def LatticeTellsUptoSaid : Prop := latticeTellsUptoRow.holds Try.pinned (OpenSpec.upto latticeTellsSpec)

/-- 'bowdlerlaw5.LatticeLaws', WHERE WHAT IT READS IS OF BULK AT MOST 1048576: true; the input reads as it did. -/
def latticeLawsUptoRow : OpenClaim := { program := "yteblfpliiijeaaa", sum := "d2ff859539255328ba62f5afb88f18aa6a7649b368fce856ac7cac90d3e79a68", func := "bowdler/bowdlerlaw5.LatticeLaws", spec := "latticeLaws", apart := false, narrowed := true }
def LatticeLawsUptoSaid : Prop := latticeLawsUptoRow.holds Try.pinned (OpenSpec.upto latticeLawsSpec)

/-- 'bowdlerlaw5.LatticeChains', WHERE WHAT IT READS IS OF BULK AT MOST 1048576: true; the input reads as it did. -/
def latticeChainsUptoRow : OpenClaim := { program := "yteblfpliiijeaaa", sum := "d2ff859539255328ba62f5afb88f18aa6a7649b368fce856ac7cac90d3e79a68", func := "bowdler/bowdlerlaw5.LatticeChains", spec := "latticeChains", apart := false, narrowed := true }
def LatticeChainsUptoSaid : Prop := latticeChainsUptoRow.holds Try.pinned (OpenSpec.upto latticeChainsSpec)

/-- 'bowdlerlaw5.LatticeSets', WHERE WHAT IT READS IS OF BULK AT MOST 1048576: true; the input reads as it did. -/
def latticeSetsUptoRow : OpenClaim := { program := "yteblfpliiijeaaa", sum := "d2ff859539255328ba62f5afb88f18aa6a7649b368fce856ac7cac90d3e79a68", func := "bowdler/bowdlerlaw5.LatticeSets", spec := "latticeSets", apart := false, narrowed := true }
def LatticeSetsUptoSaid : Prop := latticeSetsUptoRow.holds Try.pinned (OpenSpec.upto latticeSetsSpec)

/-- 'bowdlerlaw5.LatticeBad', WHERE WHAT IT READS IS OF BULK AT MOST 1048576: true; the input reads as it did. -/
def latticeBadUptoRow : OpenClaim := { program := "yteblfpliiijeaaa", sum := "d2ff859539255328ba62f5afb88f18aa6a7649b368fce856ac7cac90d3e79a68", func := "bowdler/bowdlerlaw5.LatticeBad", spec := "latticeBad", apart := false, narrowed := true }
def LatticeBadUptoSaid : Prop := latticeBadUptoRow.holds Try.pinned (OpenSpec.upto latticeBadSpec)

/-- 'bowdlerlaw5.LatticeTurns', WHERE WHAT IT READS IS OF BULK AT MOST 1048576: true; the input reads as it did. -/
def latticeTurnsUptoRow : OpenClaim := { program := "yteblfpliiijeaaa", sum := "d2ff859539255328ba62f5afb88f18aa6a7649b368fce856ac7cac90d3e79a68", func := "bowdler/bowdlerlaw5.LatticeTurns", spec := "latticeTurns", apart := false, narrowed := true }
def LatticeTurnsUptoSaid : Prop := latticeTurnsUptoRow.holds Try.pinned (OpenSpec.upto latticeTurnsSpec)

end Rows
end Go.Proofs.Yteblfpliiijeaaa
