/-
  token.angle, begins, Next.
-/
import Derived.Test.YtmllkffdejojbaaDoorTokTag
import Derived.Test.YtmllkffdejojbaaDoorTokCode2
import Derived.Test.YtmllkffdejojbaaDoorIdxAny
import Derived.LoopN
namespace Go.Proofs.YtmllkffdejojbaaDoor
open Go.RowKit
set_option maxRecDepth 100000
set_option linter.unusedVariables false
set_option linter.unusedSimpArgs false

theorem tokLen_some {o : Option (Tok × Nat)} (h : o ≠ none) : ∃ t n, o = some (t, n) := by
  cases o with
  | none => exact absurd rfl h
  | some r => exact ⟨r.1, r.2, rfl⟩

set_option maxHeartbeats 8000000 in
theorem angle_tok (s : ByteArray) (w : World) (h0 : 1 ≤ s.size) (hs : s.size ≤ 1000000000) :
    Calls Tryd.prog 82 #[.string s] w fun e w' => e = .returned (.tuple #[tokVal (angleL s.data.toList), .int .i64 (tokLen (angleL s.data.toList))]) ∧ Below w.heap.size w w' := by
  have ha := fun W => auto_tok s W h0 hs
  have hm := fun W => mail_tok s W h0 hs
  have ht := fun W => tag_tok s W h0 hs
  have hA : angleL s.data.toList = match autoL s.data.toList with
    | some r => some r
    | none => match mailL s.data.toList with
      | some r => some r
      | none => tagL s.data.toList := rfl
  have pa := fun t n => @auto_le s.data.toList t n
  have pm := fun t n => @mail_le s.data.toList t n
  have pt : ∀ t n, tagL s.data.toList = some (t, n) → 0 < n := fun t n h => (tagAt_le h).1
  obtain ⟨oa, ea⟩ : ∃ o, autoL s.data.toList = o := ⟨_, rfl⟩
  obtain ⟨om, em⟩ : ∃ o, mailL s.data.toList = o := ⟨_, rfl⟩
  obtain ⟨ot, et⟩ : ∃ o, tagL s.data.toList = o := ⟨_, rfl⟩
  rw [ea] at ha hA pa
  rw [em] at hm hA pm
  rw [et] at ht hA pt
  rcases oa with _ | ⟨t, n⟩
  · simp only [tokVal, tokLen] at ha
    rcases om with _ | ⟨t, n⟩
    · simp only [tokVal, tokLen] at hm
      rcases ot with _ | ⟨t, n⟩
      · simp only [tokVal, tokLen] at ht
        have HA := Lib.hid ha
        have HM := Lib.hid hm
        have HT := Lib.hid ht
        have HE := Lib.hid hA
        clear ha hm ht hA ea em et pa pm pt
        go_enter Tryd.func82, Tryd.ntmps82
        go_wp2_with fail
        obtain ⟨W1, hW1⟩ : ∃ W1, w.alloc (.cells #[.func (.func 106) #[] #[], .func (.func 107) #[] #[], .func (.func 108) #[] #[]] 101) = W1 := ⟨_, rfl⟩
        have c0 : W1.cell? ⟨w.heap.size, 0, none⟩ = some (.func (.func 106) #[] #[]) := by rw [← hW1]; simp
        have c1 : W1.cell? ⟨w.heap.size, 1, none⟩ = some (.func (.func 107) #[] #[]) := by rw [← hW1]; simp
        have c2 : W1.cell? ⟨w.heap.size, 2, none⟩ = some (.func (.func 108) #[] #[]) := by rw [← hW1]; simp
        have hB1 : Below w.heap.size w W1 := by rw [← hW1]; exact (Below.refl _ w).alloc (Nat.le_refl _) _
        have hs1 : w.heap.size < W1.heap.size := by rw [← hW1, World.size_alloc]; omega
        rw [hW1]
        clear hW1
        refine wp_loop_rounds 4 ?_
        rw [rounds_succ]
        go_wp2_with fail
        refine (HA.out _).mono ?_
        rintro e w2 ⟨rfl, b2⟩
        have d1 := (b2.cell (p := ⟨w.heap.size, 1, none⟩) hs1).trans c1
        have d2 := (b2.cell (p := ⟨w.heap.size, 2, none⟩) hs1).trans c2
        have hs2 : w.heap.size < w2.heap.size := by have := b2.size; omega
        have B2 := below_step hB1 b2
        clear c0 c1 c2 b2
        go_wp2_with fail
        rw [rounds_succ]
        go_wp2_with fail
        refine (HM.out _).mono ?_
        rintro e w3 ⟨rfl, b3⟩
        have e2 := (b3.cell (p := ⟨w.heap.size, 2, none⟩) hs2).trans d2
        have B3 := below_step B2 b3
        clear d1 d2 b3
        go_wp2_with fail
        rw [rounds_succ]
        go_wp2_with fail
        refine (HT.out _).mono ?_
        rintro e w4 ⟨rfl, b4⟩
        have B4 := below_step B3 b4
        clear e2 b4
        go_wp2_with fail
        rw [rounds_succ]
        go_wp2_with fail
        go_ret2
        exact ⟨ret_nil HE.out, B4⟩
      · simp only [tokVal, tokLen] at ht
        have hn := pt t n rfl
        have hn' : (0 : Int) < (n : Int) := by omega
        have HA := Lib.hid ha
        have HM := Lib.hid hm
        have HT := Lib.hid ht
        have HE := Lib.hid hA
        clear ha hm ht hA ea em et pa pm pt
        go_enter Tryd.func82, Tryd.ntmps82
        go_wp2_with fail
        obtain ⟨W1, hW1⟩ : ∃ W1, w.alloc (.cells #[.func (.func 106) #[] #[], .func (.func 107) #[] #[], .func (.func 108) #[] #[]] 101) = W1 := ⟨_, rfl⟩
        have c0 : W1.cell? ⟨w.heap.size, 0, none⟩ = some (.func (.func 106) #[] #[]) := by rw [← hW1]; simp
        have c1 : W1.cell? ⟨w.heap.size, 1, none⟩ = some (.func (.func 107) #[] #[]) := by rw [← hW1]; simp
        have c2 : W1.cell? ⟨w.heap.size, 2, none⟩ = some (.func (.func 108) #[] #[]) := by rw [← hW1]; simp
        have hB1 : Below w.heap.size w W1 := by rw [← hW1]; exact (Below.refl _ w).alloc (Nat.le_refl _) _
        have hs1 : w.heap.size < W1.heap.size := by rw [← hW1, World.size_alloc]; omega
        rw [hW1]
        clear hW1
        refine wp_loop_rounds 4 ?_
        rw [rounds_succ]
        go_wp2_with fail
        refine (HA.out _).mono ?_
        rintro e w2 ⟨rfl, b2⟩
        have d1 := (b2.cell (p := ⟨w.heap.size, 1, none⟩) hs1).trans c1
        have d2 := (b2.cell (p := ⟨w.heap.size, 2, none⟩) hs1).trans c2
        have hs2 : w.heap.size < w2.heap.size := by have := b2.size; omega
        have B2 := below_step hB1 b2
        clear c0 c1 c2 b2
        go_wp2_with fail
        rw [rounds_succ]
        go_wp2_with fail
        refine (HM.out _).mono ?_
        rintro e w3 ⟨rfl, b3⟩
        have e2 := (b3.cell (p := ⟨w.heap.size, 2, none⟩) hs2).trans d2
        have B3 := below_step B2 b3
        clear d1 d2 b3
        go_wp2_with fail
        rw [rounds_succ]
        go_wp2_with fail
        refine (HT.out _).mono ?_
        rintro e w4 ⟨rfl, b4⟩
        have B4 := below_step B3 b4
        clear e2 b4
        go_wp2_with fail
        go_ret2
        exact ⟨ret_tok HE.out rfl rfl, B4⟩
    · simp only [tokVal, tokLen] at hm
      have hn := (pm t n rfl).1
      have hn' : (0 : Int) < (n : Int) := by omega
      have HA := Lib.hid ha
      have HM := Lib.hid hm
      have HE := Lib.hid hA
      clear ha hm ht hA ea em et pa pm pt
      go_enter Tryd.func82, Tryd.ntmps82
      go_wp2_with fail
      obtain ⟨W1, hW1⟩ : ∃ W1, w.alloc (.cells #[.func (.func 106) #[] #[], .func (.func 107) #[] #[], .func (.func 108) #[] #[]] 101) = W1 := ⟨_, rfl⟩
      have c0 : W1.cell? ⟨w.heap.size, 0, none⟩ = some (.func (.func 106) #[] #[]) := by rw [← hW1]; simp
      have c1 : W1.cell? ⟨w.heap.size, 1, none⟩ = some (.func (.func 107) #[] #[]) := by rw [← hW1]; simp
      have c2 : W1.cell? ⟨w.heap.size, 2, none⟩ = some (.func (.func 108) #[] #[]) := by rw [← hW1]; simp
      have hB1 : Below w.heap.size w W1 := by rw [← hW1]; exact (Below.refl _ w).alloc (Nat.le_refl _) _
      have hs1 : w.heap.size < W1.heap.size := by rw [← hW1, World.size_alloc]; omega
      rw [hW1]
      clear hW1
      refine wp_loop_rounds 4 ?_
      rw [rounds_succ]
      go_wp2_with fail
      refine (HA.out _).mono ?_
      rintro e w2 ⟨rfl, b2⟩
      have d1 := (b2.cell (p := ⟨w.heap.size, 1, none⟩) hs1).trans c1
      have d2 := (b2.cell (p := ⟨w.heap.size, 2, none⟩) hs1).trans c2
      have hs2 : w.heap.size < w2.heap.size := by have := b2.size; omega
      have B2 := below_step hB1 b2
      clear c0 c1 c2 b2
      go_wp2_with fail
      rw [rounds_succ]
      go_wp2_with fail
      refine (HM.out _).mono ?_
      rintro e w3 ⟨rfl, b3⟩
      have e2 := (b3.cell (p := ⟨w.heap.size, 2, none⟩) hs2).trans d2
      have B3 := below_step B2 b3
      clear d1 d2 b3
      go_wp2_with fail
      go_ret2
      exact ⟨ret_tok HE.out rfl rfl, B3⟩
  · simp only [tokVal, tokLen] at ha
    have hn := (pa t n rfl).1
    have hn' : (0 : Int) < (n : Int) := by omega
    have HA := Lib.hid ha
    have HE := Lib.hid hA
    clear ha hm ht hA ea em et pa pm pt
    go_enter Tryd.func82, Tryd.ntmps82
    go_wp2_with fail
    obtain ⟨W1, hW1⟩ : ∃ W1, w.alloc (.cells #[.func (.func 106) #[] #[], .func (.func 107) #[] #[], .func (.func 108) #[] #[]] 101) = W1 := ⟨_, rfl⟩
    have c0 : W1.cell? ⟨w.heap.size, 0, none⟩ = some (.func (.func 106) #[] #[]) := by rw [← hW1]; simp
    have c1 : W1.cell? ⟨w.heap.size, 1, none⟩ = some (.func (.func 107) #[] #[]) := by rw [← hW1]; simp
    have c2 : W1.cell? ⟨w.heap.size, 2, none⟩ = some (.func (.func 108) #[] #[]) := by rw [← hW1]; simp
    have hB1 : Below w.heap.size w W1 := by rw [← hW1]; exact (Below.refl _ w).alloc (Nat.le_refl _) _
    have hs1 : w.heap.size < W1.heap.size := by rw [← hW1, World.size_alloc]; omega
    rw [hW1]
    clear hW1
    refine wp_loop_rounds 4 ?_
    rw [rounds_succ]
    go_wp2_with fail
    refine (HA.out _).mono ?_
    rintro e w2 ⟨rfl, b2⟩
    have d1 := (b2.cell (p := ⟨w.heap.size, 1, none⟩) hs1).trans c1
    have d2 := (b2.cell (p := ⟨w.heap.size, 2, none⟩) hs1).trans c2
    have hs2 : w.heap.size < w2.heap.size := by have := b2.size; omega
    have B2 := below_step hB1 b2
    clear c0 c1 c2 b2
    go_wp2_with fail
    go_ret2
    exact ⟨ret_tok HE.out rfl rfl, B2⟩

end Go.Proofs.YtmllkffdejojbaaDoor
