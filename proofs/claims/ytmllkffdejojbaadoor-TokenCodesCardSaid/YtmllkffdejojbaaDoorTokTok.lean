/-
  bowdlerlaw12.tok, token.MustWord, bowdlerlaw12.panics: a token, plainly.
-/
import Derived.Test.YtmllkffdejojbaaDoorTokAll
import Derived.Test.YtmllkffdejojbaaDoorOneByte
namespace Go.Proofs.YtmllkffdejojbaaDoor
open Go.RowKit
set_option maxRecDepth 100000
set_option linter.unusedVariables false
set_option linter.unusedSimpArgs false

/-- A token as the reference tells it: its kind, text, url and number. -/
structure TokP where
  kind : UInt8
  text : List UInt8
  url : List UInt8
  n : Nat
deriving DecidableEq
def TokP.val (p : TokP) : Value := .agg #[.int .u8 (p.kind.toNat : Int), .string ⟨p.text.toArray⟩, .string ⟨p.url.toArray⟩, .int .i64 p.n]
def Tok.plain : Tok → TokP
  | .word l => ⟨119, l, [], 0⟩
  | .code l => ⟨99, l, [], 0⟩
  | .tag l => ⟨116, l, [], 0⟩
  | .auto u t => ⟨97, t, u, 0⟩
  | .run c n => ⟨114, [c], [], n⟩
  | .mark l => ⟨109, l, [], 0⟩
  | .brk h => ⟨98, [], [], if h then 1 else 0⟩
  | .atom n => ⟨120, [], [], n⟩

theorem ta_Word_Word (v : Value) (W : World) : (Instr.typeAssert (.iface 88 v) 20 88 true).run Tryd.prog W = .ok (.tuple #[v, .bool true]) W := by kernel_rfl
theorem ta_Code_Word (v : Value) (W : World) : (Instr.typeAssert (.iface 89 v) 20 88 true).run Tryd.prog W = .ok (.tuple #[.string ⟨#[]⟩, .bool false]) W := by kernel_rfl
theorem ta_Code_Code (v : Value) (W : World) : (Instr.typeAssert (.iface 89 v) 20 89 true).run Tryd.prog W = .ok (.tuple #[v, .bool true]) W := by kernel_rfl
theorem ta_Tag_Word (v : Value) (W : World) : (Instr.typeAssert (.iface 90 v) 20 88 true).run Tryd.prog W = .ok (.tuple #[.string ⟨#[]⟩, .bool false]) W := by kernel_rfl
theorem ta_Tag_Code (v : Value) (W : World) : (Instr.typeAssert (.iface 90 v) 20 89 true).run Tryd.prog W = .ok (.tuple #[.string ⟨#[]⟩, .bool false]) W := by kernel_rfl
theorem ta_Tag_Tag (v : Value) (W : World) : (Instr.typeAssert (.iface 90 v) 20 90 true).run Tryd.prog W = .ok (.tuple #[v, .bool true]) W := by kernel_rfl
theorem ta_Auto_Word (v : Value) (W : World) : (Instr.typeAssert (.iface 92 v) 20 88 true).run Tryd.prog W = .ok (.tuple #[.string ⟨#[]⟩, .bool false]) W := by kernel_rfl
theorem ta_Auto_Code (v : Value) (W : World) : (Instr.typeAssert (.iface 92 v) 20 89 true).run Tryd.prog W = .ok (.tuple #[.string ⟨#[]⟩, .bool false]) W := by kernel_rfl
theorem ta_Auto_Tag (v : Value) (W : World) : (Instr.typeAssert (.iface 92 v) 20 90 true).run Tryd.prog W = .ok (.tuple #[.string ⟨#[]⟩, .bool false]) W := by kernel_rfl
theorem ta_Auto_Auto (v : Value) (W : World) : (Instr.typeAssert (.iface 92 v) 20 92 true).run Tryd.prog W = .ok (.tuple #[v, .bool true]) W := by kernel_rfl
theorem ta_Run_Word (v : Value) (W : World) : (Instr.typeAssert (.iface 94 v) 20 88 true).run Tryd.prog W = .ok (.tuple #[.string ⟨#[]⟩, .bool false]) W := by kernel_rfl
theorem ta_Run_Code (v : Value) (W : World) : (Instr.typeAssert (.iface 94 v) 20 89 true).run Tryd.prog W = .ok (.tuple #[.string ⟨#[]⟩, .bool false]) W := by kernel_rfl
theorem ta_Run_Tag (v : Value) (W : World) : (Instr.typeAssert (.iface 94 v) 20 90 true).run Tryd.prog W = .ok (.tuple #[.string ⟨#[]⟩, .bool false]) W := by kernel_rfl
theorem ta_Run_Auto (v : Value) (W : World) : (Instr.typeAssert (.iface 94 v) 20 92 true).run Tryd.prog W = .ok (.tuple #[.agg #[.string ⟨#[]⟩, .string ⟨#[]⟩], .bool false]) W := by kernel_rfl
theorem ta_Run_Run (v : Value) (W : World) : (Instr.typeAssert (.iface 94 v) 20 94 true).run Tryd.prog W = .ok (.tuple #[v, .bool true]) W := by kernel_rfl
theorem ta_Mark_Word (v : Value) (W : World) : (Instr.typeAssert (.iface 96 v) 20 88 true).run Tryd.prog W = .ok (.tuple #[.string ⟨#[]⟩, .bool false]) W := by kernel_rfl
theorem ta_Mark_Code (v : Value) (W : World) : (Instr.typeAssert (.iface 96 v) 20 89 true).run Tryd.prog W = .ok (.tuple #[.string ⟨#[]⟩, .bool false]) W := by kernel_rfl
theorem ta_Mark_Tag (v : Value) (W : World) : (Instr.typeAssert (.iface 96 v) 20 90 true).run Tryd.prog W = .ok (.tuple #[.string ⟨#[]⟩, .bool false]) W := by kernel_rfl
theorem ta_Mark_Auto (v : Value) (W : World) : (Instr.typeAssert (.iface 96 v) 20 92 true).run Tryd.prog W = .ok (.tuple #[.agg #[.string ⟨#[]⟩, .string ⟨#[]⟩], .bool false]) W := by kernel_rfl
theorem ta_Mark_Run (v : Value) (W : World) : (Instr.typeAssert (.iface 96 v) 20 94 true).run Tryd.prog W = .ok (.tuple #[.agg #[.int .u8 0, .int .i64 0], .bool false]) W := by kernel_rfl
theorem ta_Mark_Mark (v : Value) (W : World) : (Instr.typeAssert (.iface 96 v) 20 96 true).run Tryd.prog W = .ok (.tuple #[v, .bool true]) W := by kernel_rfl
theorem ta_Break_Word (v : Value) (W : World) : (Instr.typeAssert (.iface 98 v) 20 88 true).run Tryd.prog W = .ok (.tuple #[.string ⟨#[]⟩, .bool false]) W := by kernel_rfl
theorem ta_Break_Code (v : Value) (W : World) : (Instr.typeAssert (.iface 98 v) 20 89 true).run Tryd.prog W = .ok (.tuple #[.string ⟨#[]⟩, .bool false]) W := by kernel_rfl
theorem ta_Break_Tag (v : Value) (W : World) : (Instr.typeAssert (.iface 98 v) 20 90 true).run Tryd.prog W = .ok (.tuple #[.string ⟨#[]⟩, .bool false]) W := by kernel_rfl
theorem ta_Break_Auto (v : Value) (W : World) : (Instr.typeAssert (.iface 98 v) 20 92 true).run Tryd.prog W = .ok (.tuple #[.agg #[.string ⟨#[]⟩, .string ⟨#[]⟩], .bool false]) W := by kernel_rfl
theorem ta_Break_Run (v : Value) (W : World) : (Instr.typeAssert (.iface 98 v) 20 94 true).run Tryd.prog W = .ok (.tuple #[.agg #[.int .u8 0, .int .i64 0], .bool false]) W := by kernel_rfl
theorem ta_Break_Mark (v : Value) (W : World) : (Instr.typeAssert (.iface 98 v) 20 96 true).run Tryd.prog W = .ok (.tuple #[.agg #[.string ⟨#[]⟩], .bool false]) W := by kernel_rfl
theorem ta_Break_Break (v : Value) (W : World) : (Instr.typeAssert (.iface 98 v) 20 98 true).run Tryd.prog W = .ok (.tuple #[v, .bool true]) W := by kernel_rfl
theorem ta_Atom_Word (v : Value) (W : World) : (Instr.typeAssert (.iface 100 v) 20 88 true).run Tryd.prog W = .ok (.tuple #[.string ⟨#[]⟩, .bool false]) W := by kernel_rfl
theorem ta_Atom_Code (v : Value) (W : World) : (Instr.typeAssert (.iface 100 v) 20 89 true).run Tryd.prog W = .ok (.tuple #[.string ⟨#[]⟩, .bool false]) W := by kernel_rfl
theorem ta_Atom_Tag (v : Value) (W : World) : (Instr.typeAssert (.iface 100 v) 20 90 true).run Tryd.prog W = .ok (.tuple #[.string ⟨#[]⟩, .bool false]) W := by kernel_rfl
theorem ta_Atom_Auto (v : Value) (W : World) : (Instr.typeAssert (.iface 100 v) 20 92 true).run Tryd.prog W = .ok (.tuple #[.agg #[.string ⟨#[]⟩, .string ⟨#[]⟩], .bool false]) W := by kernel_rfl
theorem ta_Atom_Run (v : Value) (W : World) : (Instr.typeAssert (.iface 100 v) 20 94 true).run Tryd.prog W = .ok (.tuple #[.agg #[.int .u8 0, .int .i64 0], .bool false]) W := by kernel_rfl
theorem ta_Atom_Mark (v : Value) (W : World) : (Instr.typeAssert (.iface 100 v) 20 96 true).run Tryd.prog W = .ok (.tuple #[.agg #[.string ⟨#[]⟩], .bool false]) W := by kernel_rfl
theorem ta_Atom_Break (v : Value) (W : World) : (Instr.typeAssert (.iface 100 v) 20 98 true).run Tryd.prog W = .ok (.tuple #[.agg #[.bool false], .bool false]) W := by kernel_rfl
theorem ta_Atom_Atom (v : Value) (W : World) : (Instr.typeAssert (.iface 100 v) 20 100 true).run Tryd.prog W = .ok (.tuple #[v, .bool true]) W := by kernel_rfl


set_option maxHeartbeats 4000000 in
theorem tok_tok (t : Tok) (w : World) :
    Calls Tryd.prog 35 #[t.val] w fun e w' => e = .returned t.plain.val ∧ Below w.heap.size w w' := by
  cases t with
  | word l =>
    show Calls Tryd.prog 35 #[.iface 88 (.string ⟨l.toArray⟩)] w _
    have q0 := ta_Word_Word
    go_enter Tryd.func35, Tryd.ntmps35
    go_wp2_with fail
    refine bodyPost_ret (v := .agg #[.int .u8 119, .string ⟨l.toArray⟩, .string ⟨#[]⟩, .int .i64 0]) (by simp [results, Tryd.results35, go_sem]) rfl ⟨by rfl, ?_⟩
    exact (Below.refl _ w).alloc (Nat.le_refl _) _
  | code l =>
    show Calls Tryd.prog 35 #[.iface 89 (.string ⟨l.toArray⟩)] w _
    have q0 := ta_Code_Word; have q1 := ta_Code_Code
    go_enter Tryd.func35, Tryd.ntmps35
    go_wp2_with fail
    refine bodyPost_ret (v := .agg #[.int .u8 99, .string ⟨l.toArray⟩, .string ⟨#[]⟩, .int .i64 0]) (by simp [results, Tryd.results35, go_sem]) rfl ⟨by rfl, ?_⟩
    exact (Below.refl _ w).alloc (Nat.le_refl _) _
  | tag l =>
    show Calls Tryd.prog 35 #[.iface 90 (.string ⟨l.toArray⟩)] w _
    have q0 := ta_Tag_Word; have q1 := ta_Tag_Code; have q2 := ta_Tag_Tag
    go_enter Tryd.func35, Tryd.ntmps35
    go_wp2_with fail
    refine bodyPost_ret (v := .agg #[.int .u8 116, .string ⟨l.toArray⟩, .string ⟨#[]⟩, .int .i64 0]) (by simp [results, Tryd.results35, go_sem]) rfl ⟨by rfl, ?_⟩
    exact (Below.refl _ w).alloc (Nat.le_refl _) _
  | auto u t =>
    show Calls Tryd.prog 35 #[.iface 92 (.agg #[.string ⟨u.toArray⟩, .string ⟨t.toArray⟩])] w _
    have q0 := ta_Auto_Word; have q1 := ta_Auto_Code; have q2 := ta_Auto_Tag; have q3 := ta_Auto_Auto
    go_enter Tryd.func35, Tryd.ntmps35
    go_wp2_with fail
    refine bodyPost_ret (v := .agg #[.int .u8 97, .string ⟨t.toArray⟩, .string ⟨u.toArray⟩, .int .i64 0]) (by simp [results, Tryd.results35, go_sem]) rfl ⟨by rfl, ?_⟩
    exact ((Below.refl _ w).alloc (Nat.le_refl _) _).alloc (by simp) _
  | run c n =>
    show Calls Tryd.prog 35 #[.iface 94 (.agg #[.int .u8 (c.toNat : Int), .int .i64 n])] w _
    have q0 := ta_Run_Word; have q1 := ta_Run_Code; have q2 := ta_Run_Tag; have q3 := ta_Run_Auto; have q4 := ta_Run_Run
    have cvq := one_byte
    go_enter Tryd.func35, Tryd.ntmps35
    go_wp2_with fail
    refine bodyPost_ret (v := .agg #[.int .u8 114, .string ⟨#[c]⟩, .string ⟨#[]⟩, .int .i64 n]) (by simp [results, Tryd.results35, go_sem]) rfl ⟨by rfl, ?_⟩
    exact (((Below.refl _ w).alloc (Nat.le_refl _) _).alloc (by simp) _).alloc (by simp; omega) _
  | mark l =>
    show Calls Tryd.prog 35 #[.iface 96 (.agg #[.string ⟨l.toArray⟩])] w _
    have q0 := ta_Mark_Word; have q1 := ta_Mark_Code; have q2 := ta_Mark_Tag; have q3 := ta_Mark_Auto; have q4 := ta_Mark_Run; have q5 := ta_Mark_Mark
    go_enter Tryd.func35, Tryd.ntmps35
    go_wp2_with fail
    refine bodyPost_ret (v := .agg #[.int .u8 109, .string ⟨l.toArray⟩, .string ⟨#[]⟩, .int .i64 0]) (by simp [results, Tryd.results35, go_sem]) rfl ⟨by rfl, ?_⟩
    exact ((Below.refl _ w).alloc (Nat.le_refl _) _).alloc (by simp) _
  | brk h =>
    cases h
    · show Calls Tryd.prog 35 #[.iface 98 (.agg #[.bool false])] w _
      have q0 := ta_Break_Word; have q1 := ta_Break_Code; have q2 := ta_Break_Tag; have q3 := ta_Break_Auto; have q4 := ta_Break_Run; have q5 := ta_Break_Mark; have q6 := ta_Break_Break
      go_enter Tryd.func35, Tryd.ntmps35
      go_wp2_with fail
      refine bodyPost_ret (v := .agg #[.int .u8 98, .string ⟨#[]⟩, .string ⟨#[]⟩, .int .i64 0]) (by simp [results, Tryd.results35, go_sem]) rfl ⟨by rfl, ?_⟩
      exact ((Below.refl _ w).alloc (Nat.le_refl _) _).alloc (by simp) _
    · show Calls Tryd.prog 35 #[.iface 98 (.agg #[.bool true])] w _
      have q0 := ta_Break_Word; have q1 := ta_Break_Code; have q2 := ta_Break_Tag; have q3 := ta_Break_Auto; have q4 := ta_Break_Run; have q5 := ta_Break_Mark; have q6 := ta_Break_Break
      go_enter Tryd.func35, Tryd.ntmps35
      go_wp2_with fail
      refine bodyPost_ret (v := .agg #[.int .u8 98, .string ⟨#[]⟩, .string ⟨#[]⟩, .int .i64 1]) (by simp [results, Tryd.results35, go_sem]) rfl ⟨by rfl, ?_⟩
      exact ((Below.refl _ w).alloc (Nat.le_refl _) _).alloc (by simp) _
  | atom n =>
    show Calls Tryd.prog 35 #[.iface 100 (.agg #[.int .i64 n])] w _
    have q0 := ta_Atom_Word; have q1 := ta_Atom_Code; have q2 := ta_Atom_Tag; have q3 := ta_Atom_Auto; have q4 := ta_Atom_Run; have q5 := ta_Atom_Mark; have q6 := ta_Atom_Break; have q7 := ta_Atom_Atom
    go_enter Tryd.func35, Tryd.ntmps35
    go_wp2_with fail
    refine bodyPost_ret (v := .agg #[.int .u8 120, .string ⟨#[]⟩, .string ⟨#[]⟩, .int .i64 n]) (by simp [results, Tryd.results35, go_sem]) rfl ⟨by rfl, ?_⟩
    exact ((Below.refl _ w).alloc (Nat.le_refl _) _).alloc (by simp) _

theorem ta_must (v : Value) (W : World) : (Instr.typeAssert (.iface 88 v) 20 88 false).run Tryd.prog W = .ok v W := by kernel_rfl

/-- The text of a Word. -/
theorem must_word (l : List UInt8) (w : World) :
    Calls Tryd.prog 36 #[(Tok.word l).val] w fun e w' => e = .returned (.string ⟨l.toArray⟩) ∧ w' = w := by
  show Calls Tryd.prog 36 #[.iface 88 (.string ⟨l.toArray⟩)] w _
  have q := ta_must
  go_enter Tryd.func36, Tryd.ntmps36
  go_wp2_with fail
  go_ret
  exact ⟨rfl, rfl⟩

end Go.Proofs.YtmllkffdejojbaaDoor
