/-
  define.Line: the walk.
-/
import Derived.Test.YtmllkffdejojbaaDoorLineSpec
namespace Go.Proofs.YtmllkffdejojbaaDoor
open Go.RowKit
set_option maxRecDepth 100000
set_option linter.unusedVariables false
set_option linter.unusedSimpArgs false

theorem ret_line {p : DefL × Bool} {n u t x : ByteArray} {nt b : Bool} (h : p = (⟨n.data.toList, u.data.toList, t.data.toList, x.data.toList, nt⟩, b)) : Ending.returned (.tuple #[.agg #[.string n, .string u, .string t, .string x, .bool nt], .bool b]) = .returned (.tuple #[p.1.val, .bool p.2]) := by
  rw [h]; unfold DefL.val defV; simp only [Lib.mk_data]

set_option maxHeartbeats 4000000 in
/-- No bracket at the head, or no bracket and colon behind: no definition. -/
theorem line_none (s : ByteArray) (w : World) (hE : Env w) (hs : s.size ≤ 1000000000) (hno : (preAt 91 s.data.toList).2 = false) :
    Calls Tryd.prog 31 #[.string s] w fun e w' => e = .returned (.tuple #[(lineL s.data.toList).1.val, .bool (lineL s.data.toList).2]) ∧ Below w.heap.size w w' := by
  have HL := Lib.hid (show lineL s.data.toList = (DefL.none, false) by unfold lineL; rw [if_pos hno])
  have hp := fun W => pre_any 91 s W
  rw [hno] at hp
  obtain ⟨C, hC⟩ : ∃ C : ByteArray, C = ⟨(preAt 91 s.data.toList).1.toArray⟩ := ⟨_, rfl⟩
  rw [← hC] at hp
  have HP := Lib.hid hp
  clear hp hC hno
  have hb1 : Below w.heap.size w (w.alloc (.cells #[.string ⟨#[]⟩, .string ⟨#[]⟩, .string ⟨#[]⟩, .string ⟨#[]⟩, .bool false] 40)) := (Below.refl _ w).alloc (Nat.le_refl _) _
  go_enter Tryd.func31, Tryd.ntmps31
  go_wp2_with fail
  have hz := zero_def (Below.refl (w.heap.size + 1) (w.alloc (.cells #[.string ⟨#[]⟩, .string ⟨#[]⟩, .string ⟨#[]⟩, .string ⟨#[]⟩, .bool false] 40))) rfl
  obtain ⟨W1, hW1⟩ : ∃ W1, w.alloc (.cells #[.string ⟨#[]⟩, .string ⟨#[]⟩, .string ⟨#[]⟩, .string ⟨#[]⟩, .bool false] 40) = W1 := ⟨_, rfl⟩
  rw [hW1] at hz hb1
  rw [hW1]
  clear hW1
  obtain ⟨c0, c1, c2, c3, c4, f0, f1, f2, f3, f4, hsz⟩ := hz
  refine (HP.out _).mono ?_
  rintro e w2 ⟨rfl, rfl⟩
  go_wp2_with fail
  refine bodyPost_ret (v := .tuple #[.agg #[.string ⟨#[]⟩, .string ⟨#[]⟩, .string ⟨#[]⟩, .string ⟨#[]⟩, .bool false], .bool false]) (by simp [results, Tryd.results31, go_sem, c0, c1, c2, c3, c4, f0, f1, f2, f3, f4]) rfl ⟨?_, below_def hb1⟩
  exact ret_line (n := ⟨#[]⟩) (u := ⟨#[]⟩) (t := ⟨#[]⟩) (x := ⟨#[]⟩) HL.out

def zeroDef : Value := .agg #[.string ⟨#[]⟩, .string ⟨#[]⟩, .string ⟨#[]⟩, .string ⟨#[]⟩, .bool false]

set_option maxHeartbeats 4000000 in
/-- A bracket at the head, but no bracket and colon behind: no definition. -/
theorem line_none2 (s C N R R2 : ByteArray) (is colon : Bool) (w : World) (hE : Env w) (hs : s.size ≤ 1000000000)
    (h1 : preAt 91 s.data.toList = (C.data.toList, true)) (hCz : C.size ≤ s.size) (h2 : cutAt 93 C.data.toList = (N.data.toList, R.data.toList, is))
    (h3 : preAt 58 R.data.toList = (R2.data.toList, colon)) (h4 : is = false ∨ (is = true ∧ colon = false)) :
    Calls Tryd.prog 31 #[.string s] w fun e w' => e = .returned (.tuple #[(lineL s.data.toList).1.val, .bool (lineL s.data.toList).2]) ∧ Below w.heap.size w w' := by
  have HL := Lib.hid (show lineL s.data.toList = (DefL.none, false) by
    unfold lineL
    rw [h1]; simp only
    rw [h2]; simp only
    rw [h3]; simp only
    rw [if_neg (by simp), if_neg (by rcases h4 with h | ⟨_, h⟩ <;> simp [h])])
  have hp := fun W => pre_any 91 s W
  rw [h1] at hp
  have hq := fun W hW => cut_any 93 C W hW (by omega)
  rw [h2] at hq
  have hr := fun W => pre_any 58 R W
  rw [h3] at hr
  simp only [Lib.mk_data] at hp hq hr
  have HE := Lib.hid hE
  have HP := Lib.hid hp
  have HQ := Lib.hid hq
  have HR := Lib.hid hr
  clear hp hq hr h1 h2 h3 hE
  have hb1 : Below w.heap.size w (w.alloc (.cells #[.string ⟨#[]⟩, .string ⟨#[]⟩, .string ⟨#[]⟩, .string ⟨#[]⟩, .bool false] 40)) := (Below.refl _ w).alloc (Nat.le_refl _) _
  rcases h4 with rfl | ⟨rfl, rfl⟩
  all_goals
    go_enter Tryd.func31, Tryd.ntmps31
    go_wp2_with fail
    refine (HP.out _).mono ?_
    rintro e w2 ⟨rfl, rfl⟩
    go_wp2_with fail
    refine (HQ.out _ (HE.out.below hb1)).mono ?_
    rintro e w3 ⟨rfl, b3⟩
    obtain ⟨c0, c1, c2, c3, c4, f0, f1, f2, f3, f4, hsz⟩ := zero_def b3
    have hb3 := below_step hb1 b3
    clear hb1 b3
    go_wp2_with fail
    refine (HR.out _).mono ?_
    rintro e w4 ⟨rfl, rfl⟩
    go_wp2_with fail
    refine bodyPost_ret (v := .tuple #[.agg #[.string ⟨#[]⟩, .string ⟨#[]⟩, .string ⟨#[]⟩, .string ⟨#[]⟩, .bool false], .bool false]) (by simp [results, Tryd.results31, go_sem, c0, c1, c2, c3, c4, f0, f1, f2, f3, f4]) rfl ⟨?_, below_def hb3⟩
    exact ret_line (n := ⟨#[]⟩) (u := ⟨#[]⟩) (t := ⟨#[]⟩) (x := ⟨#[]⟩) HL.out

end Go.Proofs.YtmllkffdejojbaaDoor
