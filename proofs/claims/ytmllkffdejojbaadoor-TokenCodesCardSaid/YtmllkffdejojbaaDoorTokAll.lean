/-
  token.Next, All: the token at a place; all tokens.
-/
import Derived.Test.YtmllkffdejojbaaDoorTokBegins
import Derived.Test.YtmllkffdejojbaaDoorFlags
import Derived.OwnWalk
import Derived.Laws.OwnMore
namespace Go.Proofs.YtmllkffdejojbaaDoor
open Go.RowKit
set_option maxRecDepth 100000
set_option linter.unusedVariables false
set_option linter.unusedSimpArgs false

theorem ret_next {r : Tok × Nat} {t : Tok} {m i : Nat} {v : Value} {n : Int} (h : r = (t, m)) (hv : v = t.val) (hn : n = ((i + m : Nat) : Int)) : Ending.returned (.tuple #[v, .int .i64 n]) = .returned (.tuple #[r.1.val, .int .i64 ((i + r.2 : Nat) : Int)]) := by
  rw [h, hv, hn]
theorem ret_nextw {r : Tok × Nat} {l : List UInt8} {X : ByteArray} {m i : Nat} {n : Int} (h : r = (.word l, m)) (hX : X.data.toList = l) (hn : n = ((i + m : Nat) : Int)) : Ending.returned (.tuple #[.iface 88 (.string X), .int .i64 n]) = .returned (.tuple #[r.1.val, .int .i64 ((i + r.2 : Nat) : Int)]) := by
  refine ret_next h ?_ hn
  rw [ba_of hX]; rfl

set_option maxHeartbeats 2000000 in
/-- THE TOKEN AT A PLACE, and where the next one begins. -/
theorem next_tok (s : ByteArray) (i : Nat) (w : World) (hE : Env w) (hi : i < s.size) (hs : s.size ≤ 1000000) :
    Calls Tryd.prog 37 #[.string s, .int .i64 i] w fun e w' => e = .returned (.tuple #[(nextL (s.data.toList.drop i)).1.val, .int .i64 ((i + (nextL (s.data.toList.drop i)).2 : Nat) : Int)]) ∧ Below w.heap.size w w' := by
  have hi' : (i : Int) < (s.size : Int) := by omega
  have hi2 : ¬ (s.size : Int) ≤ (i : Int) := by omega
  obtain ⟨S, hS⟩ : ∃ S, s.extract i s.size = S := ⟨_, rfl⟩
  have hSl : S.data.toList = s.data.toList.drop i := by rw [← hS, tail_list]
  have hSz : S.size = s.size - i := by rw [← hS, tail_size]
  have hS1 : 1 ≤ S.size := by omega
  have hS2 : S.size + i ≤ s.size := by omega
  have hS3 : s.size ≤ S.size + i := by omega
  clear hSz
  have hb := fun W hW => begins_tok S W hW (by omega) (by omega)
  rw [hSl] at hb
  have hN : nextL (s.data.toList.drop i) = match beginsL (s.data.toList.drop i) with
    | some r => r
    | none => (.word ((s.data.toList.drop i).take (plainTo (s.data.toList.drop i))), plainTo (s.data.toList.drop i)) := rfl
  cases hbo : beginsL (s.data.toList.drop i) with
  | none =>
    rw [hbo] at hb hN
    simp only at hN
    simp only [tokVal, tokLen] at hb
    have hx := fun W => indexAny_any (S.extract 1 S.size) W (by rw [tail_size]; omega)
    rw [tail_list, hSl] at hx
    have hlt := indexAny_lt specialL ((s.data.toList.drop i).drop 1)
    have hP : plainTo (s.data.toList.drop i) = if 0 ≤ Lib.indexAny ((s.data.toList.drop i).drop 1) specialL then 1 + (Lib.indexAny ((s.data.toList.drop i).drop 1) specialL).toNat else (s.data.toList.drop i).length := rfl
    obtain ⟨k, hk⟩ : ∃ k, Lib.indexAny ((s.data.toList.drop i).drop 1) specialL = k := ⟨_, rfl⟩
    rw [hk] at hx hlt hP
    rw [← hSl, ← Lib.size_eq] at hP
    have HB := Lib.hid hb
    have HX := Lib.hid hx
    have HE := Lib.hid hE
    have HSL := Lib.hid hSl
    clear hb hx hE hk hbo
    by_cases hk0 : 0 ≤ k
    · rw [if_pos hk0] at hP
      obtain ⟨K, rfl⟩ : ∃ K : Nat, k = K := ⟨k.toNat, by omega⟩
      have hlt := hlt hk0
      rw [List.length_drop, ← hSl, ← Lib.size_eq, Int.toNat_natCast] at hlt
      rw [Int.toNat_natCast, hSl] at hP
      rw [hP] at hN
      have HN := Lib.hid hN
      have hK1 : (1 : Int) + (K : Int) ≤ (S.size : Int) := by omega
      clear hN hP hSl
      go_enter Tryd.func37, Tryd.ntmps37
      go_wp2_with fail
      refine (HB.out _ HE.out).mono ?_
      rintro e w2 ⟨rfl, b2⟩
      go_wp2_with fail
      refine (HX.out _).mono ?_
      rintro e w3 ⟨rfl, b3⟩
      have B3 := below_step b2 b3
      go_wp2_with fail
      go_ret2
      exact ⟨ret_nextw HN.out (by rw [Lib.extract_data, HSL.out]; simp) (by omega), B3⟩
    · rw [if_neg hk0, hSl] at hP
      rw [hP, ← hSl] at hN
      have HN := Lib.hid hN
      clear hN hP hSl hlt
      go_enter Tryd.func37, Tryd.ntmps37
      go_wp2_with fail
      refine (HB.out _ HE.out).mono ?_
      rintro e w2 ⟨rfl, b2⟩
      go_wp2_with fail
      refine (HX.out _).mono ?_
      rintro e w3 ⟨rfl, b3⟩
      have B3 := below_step b2 b3
      go_wp2_with fail
      go_ret2
      exact ⟨ret_nextw (l := S.data.toList.take S.size) (m := S.size) (X := S) (by rw [← HSL.out]; exact HN.out) (take_all S).symm (by omega), B3⟩
  | some r =>
    obtain ⟨t, n⟩ := r
    rw [hbo] at hb hN
    simp only at hN
    simp only [tokVal, tokLen] at hb
    obtain ⟨hpos, hsafe⟩ := begins_le hbo
    rw [List.length_drop, ← Lib.size_eq] at hsafe
    have HB := Lib.hid hb
    have HN := Lib.hid hN
    have HE := Lib.hid hE
    have hn0 : (0 : Int) < (n : Int) := by omega
    clear hb hN hE hbo hSl
    go_enter Tryd.func37, Tryd.ntmps37
    go_wp2_with fail
    refine (HB.out _ HE.out).mono ?_
    rintro e w2 ⟨rfl, b2⟩
    go_wp2_with fail
    go_ret2
    exact ⟨ret_next HN.out rfl (by omega), b2⟩

theorem infoAny : (Tryd.prog.info? 20).map (fun i => (i.zero, i.size, i.bytes)) = some (some .nilIface, 1, 16) := by kernel_rfl
theorem tok_iface (t : Tok) : ∃ T x, t.val = .iface T x := by cases t <;> exact ⟨_, _, rfl⟩

set_option maxHeartbeats 4000000 in
/-- ALL TOKENS. -/
theorem all_tok (s : ByteArray) (w : World) (hE : Env w) (hs : s.size ≤ 1000000) :
    Calls Tryd.prog 34 #[.string s] w fun e w' => ∃ v, e = .returned v ∧ w'.ownsRow w.heap.size 20 1 v (allL (s.size + 1) s.data.toList).length ((allL (s.size + 1) s.data.toList).map Tok.val) ∧ Below w.heap.size w w' := by
  obtain ⟨i0, hi, hz0, hz1, hz2⟩ := info_parts infoAny
  have HE := Lib.hid hE
  clear hE
  go_enter Tryd.func34, Tryd.ntmps34
  go_wp2_with fail
  go_loopw [3, 4] (fun u3 u4 wr => ∃ (i f : Nat) (out : List Tok), u4 = .int .i64 i ∧ out.length ≤ i ∧ i ≤ s.size + 11 ∧ out ++ allL f (s.data.toList.drop i) = allL (s.size + 1) s.data.toList ∧ s.size < i + f ∧ wr.ownsRow w.heap.size 20 1 u3 out.length (out.map Tok.val) ∧ Below w.heap.size w wr) (fun _ u4 _ => s.size - (intOf u4).toNat)
  case atStart => exact ⟨0, s.size + 1, [], rfl, by simp, by omega, rfl, by omega, World.ownsRow_nil _ _ _ _, Below.refl _ _⟩
  case round =>
    obtain ⟨i, f, out, rfl, hol, hib, hall, hf, hown, hB⟩ := hrel
    by_cases hit : i < s.size
    · obtain ⟨f, rfl⟩ : ∃ g, f = g + 1 := ⟨f - 1, by omega⟩
      have hne : s.data.toList.drop i ≠ [] := by
        rw [drop_at s i hit]; simp
      rw [allL, if_neg hne, List.drop_drop] at hall
      have hle := next_le (s.data.toList.drop i) hne
      rw [List.length_drop, ← Lib.size_eq] at hle
      have hn := fun W hW => next_tok s i W hW hit hs
      obtain ⟨t, n, htn⟩ : ∃ t n, nextL (s.data.toList.drop i) = (t, n) := ⟨_, _, rfl⟩
      rw [htn] at hall hle hn
      simp only at hall hle hn
      obtain ⟨T, x, hv⟩ := tok_iface t
      rw [hv] at hn
      have HV := Lib.hid hv
      have HN := Lib.hid hn
      have HALL := Lib.hid hall
      clear hn hall htn hne hv
      go_wp2_with fail
      refine (HN.out _ (HE.out.below hB)).mono ?_
      rintro e w2 ⟨rfl, b2⟩
      have hB2 := below_step hB b2
      have hown2 := own_below hown b2
      clear b2 hown hB
      go_wp2_with (first
        | (at_builtin; refine wpList_append_own _ rfl _ _ 49 rfl w.heap.size 20 i0 .nilIface 1 16 Tryd.underlying49 hi hz0 hz1 hz2 rfl (by decide) _ _ _ rfl (hown2.alloc _) ⟨w2.heap.size, 0, none⟩ 1 1 [.iface T x] rfl rfl ?c1 ?c2 ?c3 ?c4 ?c5 ?_))
      case c1 => exact cells_new _ _ _ _ (by simp)
      case c2 => intro u hu; simp at hu; subst hu; rfl
      case c3 => unfold maxLen; omega
      case c4 => omega
      case c5 => have := hB2.size; simp; omega
      intro v' w4 hown4 hgrow _
      have hB4 := (hB2.alloc hB2.size (.cells #[.iface T x] 20)).grown hgrow (by have := hB2.size; simp; omega) (fun j hj => (hown2.lt j hj).1)
      clear hgrow hown2 hB2
      go_wp2_with fail
      go_roundw
      case rel => exact ⟨i + n, f, out ++ [t], by go_num, by simp; omega, by omega, by rw [← HALL.out]; simp, by omega, by rw [List.length_append, List.map_append, List.map_singleton, HV.out]; exact hown4, hB4⟩
      case measure => simp [intOf]; omega
    · have h0 : allL f (s.data.toList.drop i) = [] := by
        rw [drop_end s i (by omega)]
        cases f with
        | zero => rfl
        | succ f => rw [allL, if_pos rfl]
      rw [h0, List.append_nil] at hall
      have HALL := Lib.hid hall
      clear h0 hall
      go_wp2_with fail
      go_ret
      exact ⟨u3, rfl, by rw [← HALL.out]; exact hown, hB⟩

end Go.Proofs.YtmllkffdejojbaaDoor
