/-
  token.among, behind, escaped, atom: the small readers.
-/
import Derived.Test.YtmllkffdejojbaaDoorTokSpec
import Derived.Test.YtmllkffdejojbaaDoorName
namespace Go.Proofs.YtmllkffdejojbaaDoor
open Go.RowKit
set_option maxRecDepth 100000
set_option linter.unusedVariables false
set_option linter.unusedSimpArgs false

theorem ret_tok {o : Option (Tok × Nat)} {t : Tok} {m : Nat} {v : Value} {n : Int} (h : o = some (t, m)) (hv : v = t.val) (hn : n = m) : Ending.returned (.tuple #[v, .int .i64 n]) = .returned (.tuple #[tokVal o, .int .i64 (tokLen o)]) := by
  rw [h, hv, hn]; rfl
theorem ret_nil {o : Option (Tok × Nat)} (h : o = none) : Ending.returned (.tuple #[.nilIface, .int .i64 0]) = .returned (.tuple #[tokVal o, .int .i64 (tokLen o)]) := by
  rw [h]; rfl

theorem ret_tokc {r : Tok × Nat} {t : Tok} {m : Nat} {v : Value} {n : Int} (h : r = (t, m)) (hv : v = t.val) (hn : n = m) : Ending.returned (.tuple #[v, .int .i64 n]) = .returned (.tuple #[r.1.val, .int .i64 r.2]) := by
  rw [h, hv, hn]

theorem ret_word {o : Option (Tok × Nat)} {l : List UInt8} {X : ByteArray} {m : Nat} {n : Int} (h : o = some (.word l, m)) (hX : X.data.toList = l) (hn : n = m) : Ending.returned (.tuple #[.iface 88 (.string X), .int .i64 n]) = .returned (.tuple #[tokVal o, .int .i64 (tokLen o)]) := by
  refine ret_tok h ?_ hn
  rw [ba_of hX]; rfl
theorem ret_tag {o : Option (Tok × Nat)} {l : List UInt8} {X : ByteArray} {m : Nat} {n : Int} (h : o = some (.tag l, m)) (hX : X.data.toList = l) (hn : n = m) : Ending.returned (.tuple #[.iface 90 (.string X), .int .i64 n]) = .returned (.tuple #[tokVal o, .int .i64 (tokLen o)]) := by
  refine ret_tok h ?_ hn
  rw [ba_of hX]; rfl
theorem ret_auto {o : Option (Tok × Nat)} {u t : List UInt8} {X Y : ByteArray} {m : Nat} {n : Int} (h : o = some (.auto u t, m)) (hX : X.data.toList = u) (hY : Y.data.toList = t) (hn : n = m) : Ending.returned (.tuple #[.iface 92 (.agg #[.string X, .string Y]), .int .i64 n]) = .returned (.tuple #[tokVal o, .int .i64 (tokLen o)]) := by
  refine ret_tok h ?_ hn
  rw [ba_of hX, ba_of hY]; rfl
theorem ret_cword {r : Tok × Nat} {l : List UInt8} {X : ByteArray} {m : Nat} {n : Int} (h : r = (.word l, m)) (hX : X.data.toList = l) (hn : n = m) : Ending.returned (.tuple #[.iface 88 (.string X), .int .i64 n]) = .returned (.tuple #[r.1.val, .int .i64 r.2]) := by
  refine ret_tokc h ?_ hn
  rw [ba_of hX]; rfl
theorem ret_ccode {r : Tok × Nat} {l : List UInt8} {X : ByteArray} {m : Nat} {n : Int} (h : r = (.code l, m)) (hX : X.data.toList = l) (hn : n = m) : Ending.returned (.tuple #[.iface 89 (.string X), .int .i64 n]) = .returned (.tuple #[r.1.val, .int .i64 r.2]) := by
  refine ret_tokc h ?_ hn
  rw [ba_of hX]; rfl

/-- How many bytes of a set a text begins with. -/
theorem among_tok (s set : ByteArray) (w : World) (hz : set.size < 4294967281) (ha : ∀ (j : Nat) b, set.data.toList[j]? = some b → b.toNat < 128) (hs : s.size ≤ 1000000000) :
    Calls Tryd.prog 83 #[.string s, .string set] w fun e w' => e = .returned (.int .i64 (amongL s.data.toList set.data.toList)) ∧ Below w.heap.size w w' := by
  have hc : ∀ W, Calls Tryd.prog 69 #[.string s, .string set] W fun e w' => e = .returned (.string ⟨(Lib.trimLeftS s.data.toList set.data.toList).toArray⟩) ∧ Below W.heap.size W w' := fun W =>
    Any.strings_TrimLeft_laid Tryd.lays161 (by kernel_rfl) s set W hz ha
  obtain ⟨X, hX⟩ : ∃ X : ByteArray, X = ⟨(Lib.trimLeftS s.data.toList set.data.toList).toArray⟩ := ⟨_, rfl⟩
  have hXs : X.size = (Lib.trimLeftS s.data.toList set.data.toList).length := by rw [hX, Lib.size_eq]
  rw [← hX] at hc
  have hl := among_trim s.data.toList set.data.toList
  rw [← hXs, ← Lib.size_eq] at hl
  have HC := Lib.hid hc
  have HL := Lib.hid hl
  have hXle : X.size ≤ s.size := by omega
  clear hc hl hXs hX
  go_enter Tryd.func83, Tryd.ntmps83
  go_wp2_with fail
  refine (HC.out _).mono ?_
  rintro e w2 ⟨rfl, b2⟩
  go_wp2_with fail
  go_ret
  exact ⟨ret_int (by have := HL.out; omega), b2⟩

theorem among_small (set : List UInt8) (h : set.all (fun b => decide (b.toNat < 128)) = true) (hn : set.length < 4294967281) (s : ByteArray) (w : World) (hs : s.size ≤ 1000000000) :
    Calls Tryd.prog 83 #[.string s, .string ⟨set.toArray⟩] w fun e w' => e = .returned (.int .i64 (amongL s.data.toList set)) ∧ Below w.heap.size w w' :=
  among_tok s ⟨set.toArray⟩ w (by rw [Lib.size_eq]; exact hn) (ascii_of_all h) hs

theorem tail_list (s : ByteArray) (k : Nat) : (s.extract k s.size).data.toList = s.data.toList.drop k := Lib.extract_to_end s k
theorem tail_size (s : ByteArray) (k : Nat) : (s.extract k s.size).size = s.size - k := by rw [Lib.size_eq, tail_list, List.length_drop, ← Lib.size_eq]

/-- What stands behind the first byte. -/
theorem behind_tok (s : ByteArray) (w : World) (h0 : 1 ≤ s.size) (hs : s.size ≤ 1000000000) :
    Calls Tryd.prog 84 #[.string s] w fun e w' => e = .returned (.int .i64 (behindT s.data.toList)) ∧ Below w.heap.size w w' := by
  have hc := fun W => among_small [32, 9] (by decide) (by decide) (s.extract 1 s.size) W (by rw [tail_size]; omega)
  rw [tail_list] at hc
  have hle := among_le (s.data.toList.drop 1) [32, 9]
  rw [List.length_drop, ← Lib.size_eq] at hle
  have HB := Lib.hid (show behindT s.data.toList = 1 + amongL (s.data.toList.drop 1) [32, 9] from rfl)
  obtain ⟨n, hn⟩ : ∃ n, amongL (s.data.toList.drop 1) [32, 9] = n := ⟨_, rfl⟩
  rw [hn] at hc hle
  have HN := Lib.hid hn
  have HC := Lib.hid hc
  clear hc hn
  go_enter Tryd.func84, Tryd.ntmps84
  go_wp2_with fail
  refine (HC.out _).mono ?_
  rintro e w2 ⟨rfl, b2⟩
  go_wp2_with fail
  go_ret
  exact ⟨ret_int (by rw [HB.out, HN.out]; omega), b2⟩

/-- Behind a backslash. -/
theorem escaped_tok (s : ByteArray) (w : World) (h0 : 1 ≤ s.size) (hs : s.size ≤ 1000000000) :
    Calls Tryd.prog 80 #[.string s] w fun e w' => e = .returned (.tuple #[tokVal (escapedL s.data.toList), .int .i64 (tokLen (escapedL s.data.toList))]) ∧ Below w.heap.size w w' := by
  by_cases h1 : 1 < s.size
  · have hd := drop_at s 1 h1
    obtain ⟨c, hc⟩ : ∃ c, s[1] = c := ⟨_, rfl⟩
    rw [hc] at hd
    have ha := fun W => ascii_any c W
    have h1' : (1 : Int) < (s.size : Int) := by omega
    have hE : escapedL s.data.toList = if asciiP c = true then some (.word [c], 2) else if c = 10 then some (.brk true, 1 + behindT (s.data.toList.drop 1)) else none := by
      unfold escapedL
      rw [hd]
    have hx : (s.extract 1 2).data.toList = [c] := by
      rw [Lib.extract_data, hd]
      rfl
    cases hp : asciiP c
    · rw [hp] at ha hE
      simp only [Bool.false_eq_true, if_false] at hE
      by_cases h10 : c = 10
      · subst h10
        rw [if_pos rfl] at hE
        have hb := fun W => behind_tok (s.extract 1 s.size) W (by rw [tail_size]; omega) (by rw [tail_size]; omega)
        rw [tail_list] at hb
        have hbl : behindT (s.data.toList.drop 1) ≤ 1000000000 := by
          unfold behindT
          have := among_le ((s.data.toList.drop 1).drop 1) [32, 9]
          simp only [List.length_drop] at this
          rw [← Lib.size_eq] at this
          omega
        obtain ⟨n, hn⟩ : ∃ n, behindT (s.data.toList.drop 1) = n := ⟨_, rfl⟩
        rw [hn] at hb hE hbl
        have HA := Lib.hid ha
        have HB := Lib.hid hb
        have HE := Lib.hid hE
        clear ha hb hE hd hx hn hp
        go_enter Tryd.func80, Tryd.ntmps80
        go_wp2_with fail
        refine (HA.out _).mono ?_
        rintro e w2 ⟨rfl, b2⟩
        go_wp2_with fail
        refine (HB.out _).mono ?_
        rintro e w3 ⟨rfl, b3⟩
        go_wp2_with fail
        go_ret2
        exact ⟨ret_tok HE.out rfl (by omega), below_step b2 b3⟩
      · rw [if_neg h10] at hE
        have h10' : ((c.toNat : Int) == 10) = false := by
          rw [beq_eq_false_iff_ne]
          intro e
          exact h10 (by have : c.toNat = 10 := by omega
                        exact byte_eq this)
        have HA := Lib.hid ha
        have HE := Lib.hid hE
        clear ha hE hd hx h10 hp
        go_enter Tryd.func80, Tryd.ntmps80
        go_wp2_with fail
        refine (HA.out _).mono ?_
        rintro e w2 ⟨rfl, b2⟩
        go_wp2_with fail
        go_ret2
        exact ⟨ret_nil HE.out, b2⟩
    · rw [hp] at ha hE
      rw [if_pos rfl] at hE
      have HA := Lib.hid ha
      have HE := Lib.hid hE
      have HX := Lib.hid hx
      clear ha hE hd hx hp
      go_enter Tryd.func80, Tryd.ntmps80
      go_wp2_with fail
      refine (HA.out _).mono ?_
      rintro e w2 ⟨rfl, b2⟩
      go_wp2_with fail
      go_ret2
      exact ⟨ret_word HE.out HX.out rfl, b2⟩
  · have h1' : ¬ (1 : Int) < (s.size : Int) := by omega
    have HE := Lib.hid (show escapedL s.data.toList = none by unfold escapedL; rw [drop_end s 1 (by omega)])
    go_enter Tryd.func80, Tryd.ntmps80
    go_wp2_with fail
    go_ret2
    exact ⟨ret_nil HE.out, Below.refl _ _⟩

end Go.Proofs.YtmllkffdejojbaaDoor
