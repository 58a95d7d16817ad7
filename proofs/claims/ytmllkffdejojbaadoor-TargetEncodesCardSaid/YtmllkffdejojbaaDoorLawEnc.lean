/-
  TargetEncodes: what is encoded has signs of urls alone; encoded again it stays: the walk of the law.
-/
import Derived.Test.YtmllkffdejojbaaDoorAlive10
import Derived.Test.YtmllkffdejojbaaDoorTgtLaw
namespace Go.Proofs.YtmllkffdejojbaaDoor
open Go.RowKit
set_option maxRecDepth 100000
set_option linter.unusedVariables false
set_option linter.unusedSimpArgs false

theorem bad_facts (b : UInt8) : badUrl b = false → (32 < b.toNat ∧ b.toNat < 127 ∧ b.toNat ≠ 34 ∧ b.toNat ≠ 60 ∧ b.toNat ≠ 62 ∧ b.toNat ≠ 92 ∧ b.toNat ≠ 96) :=
  allB (p := fun b => badUrl b = false → (32 < b.toNat ∧ b.toNat < 127 ∧ b.toNat ≠ 34 ∧ b.toNat ≠ 60 ∧ b.toNat ≠ 62 ∧ b.toNat ≠ 92 ∧ b.toNat ≠ 96)) (by unfold AllB; decide +kernel) b

set_option maxHeartbeats 2000000 in
theorem law_encodes (s : ByteArray) (w : World) (hE : Env w) :
    Calls Tryd.prog 4 #[.string s] w fun e w' => e = .returned (.bool true) ∧ Below w.heap.size w w' := by
  by_cases hs : 200 < s.size
  · have hs' : (200 : Int) < (s.size : Int) := by omega
    go_enter Tryd.func4, Tryd.ntmps4
    go_wp2_with fail
    refine (alive10 _ hE).mono ?_
    rintro e w1 ⟨rfl, b1⟩
    go_wp2_with fail
    go_ret
    exact ⟨rfl, b1⟩
  · have hs' : ¬ (200 : Int) < (s.size : Int) := by omega
    have hlen := encode_len' s.data.toList
    have hlong := encode_long s.data.toList
    obtain ⟨E, hEq⟩ : ∃ E : ByteArray, E = ⟨(encode s.data.toList).toArray⟩ := ⟨_, rfl⟩
    have hEl : E.data.toList = encode s.data.toList := by rw [hEq]
    have hEs : E.size = (encode s.data.toList).length := by rw [Lib.size_eq, hEl]
    have hEz : E.size ≤ 1000000 := by rw [hEs]; rw [← Lib.size_eq] at hlen; omega
    have hsE : s.size ≤ E.size := by rw [hEs, Lib.size_eq]; exact hlong
    have c1 : ∀ W, Calls Tryd.prog 23 #[.string s] W fun e w' => e = .returned (.string E) ∧ Below W.heap.size W w' := fun W => by
      have := encode_any s W (by omega)
      rw [← hEq] at this
      exact this
    have c2 : ∀ W, Calls Tryd.prog 23 #[.string E] W fun e w' => e = .returned (.string E) ∧ Below W.heap.size W w' := fun W => by
      have := encode_any E W hEz
      rw [hEl, encode_twice, ← hEq] at this
      exact this
    have hb : ∀ i (h : i < E.size), (32 < E[i].toNat ∧ E[i].toNat < 127 ∧ E[i].toNat ≠ 34 ∧ E[i].toNat ≠ 60 ∧ E[i].toNat ≠ 62 ∧ E[i].toNat ≠ 92 ∧ E[i].toNat ≠ 96) := fun i h => by
      refine bad_facts _ (okUrl_good _ (encode_ok s.data.toList _ ?_))
      rw [← hEl]
      exact List.mem_of_getElem? (Lib.data_getElem? E i h)
    have C1 := Lib.hid c1
    have C2 := Lib.hid c2
    have HB := Lib.hid hb
    clear c1 c2 hb hEq hEl hEs hlen hlong
    go_enter Tryd.func4, Tryd.ntmps4
    go_wp2_with fail
    refine (alive10 _ hE).mono ?_
    rintro e w1 ⟨rfl, b1⟩
    go_wp2_with fail
    refine (C1.out _).mono ?_
    rintro e w2 ⟨rfl, b2⟩
    have B2 := below_step b1 b2
    go_wp2_with fail
    go_loop [4] (fun u4 => ∃ i : Nat, i ≤ E.size ∧ u4 = .int .i64 i) (fun u4 => E.size - (intOf u4).toNat)
    case atStart => exact ⟨0, Nat.zero_le _, rfl⟩
    case round =>
      obtain ⟨i, hi, rfl⟩ := hrel
      by_cases hlt : i < E.size
      · obtain ⟨x, hx⟩ : ∃ x, E[i] = x := ⟨_, rfl⟩
        have hf := HB.out i hlt
        rw [hx] at hf
        obtain ⟨f1, f2, f3, f4, f5, f6, f7⟩ := hf
        have g1 : ¬ (x.toNat : Int) ≤ 32 := by omega
        have g2 : ¬ (127 : Int) ≤ (x.toNat : Int) := by omega
        have g3 : ((x.toNat : Int) == 34) = false := by simp; omega
        have g4 : ((x.toNat : Int) == 60) = false := by simp; omega
        have g5 : ((x.toNat : Int) == 62) = false := by simp; omega
        have g6 : ((x.toNat : Int) == 92) = false := by simp; omega
        have g7 : ((x.toNat : Int) == 96) = false := by simp; omega
        clear f1 f2 f3 f4 f5 f6 f7
        go_wp2_with fail
        go_round
        case rel => exact ⟨i + 1, by omega, by go_num⟩
        case measure => simp [intOf]; omega
      · go_wp2_with fail
        refine (C2.out _).mono ?_
        rintro e w3 ⟨rfl, b3⟩
        have B3 := below_step B2 b3
        go_wp2_with fail
        go_ret
        exact ⟨rfl, B3⟩

end Go.Proofs.YtmllkffdejojbaaDoor
