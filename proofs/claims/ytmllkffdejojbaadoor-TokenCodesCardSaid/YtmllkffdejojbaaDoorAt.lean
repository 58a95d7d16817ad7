/-
  entity.At: the entity with which a text begins.
-/
import Derived.Test.YtmllkffdejojbaaDoorNamed
import Derived.Test.YtmllkffdejojbaaDoorNum
namespace Go.Proofs.YtmllkffdejojbaaDoor
open Go.RowKit
set_option maxRecDepth 100000
set_option linter.unusedVariables false
set_option linter.unusedSimpArgs false

theorem trimPrefix_cons (c : UInt8) (l : List UInt8) : Lib.trimPrefix (c :: l) [c] = l := by simp [Lib.trimPrefix, Lib.hasPrefix]
theorem entAt_amp (rest : List UInt8) (h : rest.head? ≠ some 35) : entAt (38 :: rest) =
    (if (Lib.cut rest [59]).2.2 = true then (if (named (Lib.cut rest [59]).1).2 = true then ((named (Lib.cut rest [59]).1).1, (Lib.cut rest [59]).1.length + 2) else ([], 0)) else ([], 0)) := by
  unfold entAt
  split
  · rename_i heq; simp only [List.cons.injEq, true_and] at heq; rw [heq] at h; simp at h
  · rename_i heq; simp only [List.cons.injEq, true_and] at heq; rw [heq]
  · rename_i h1 h2; exact absurd rfl (h2 rest)

/-- The three ways of an entity's text: by its number in two bases. -/
theorem entAt_num (r : List UInt8) (b m a : Nat) (h : (r.head? = some 120 ∨ r.head? = some 88) ∧ b = 16 ∧ m = 6 ∧ a = 3 ∨ ¬ (r.head? = some 120 ∨ r.head? = some 88) ∧ b = 10 ∧ m = 7 ∧ a = 2) :
    entAt (38 :: 35 :: r) = (if (number b m ((38 :: 35 :: r).drop a)).2 = 0 then ([], 0) else ((number b m ((38 :: 35 :: r).drop a)).1, a + (number b m ((38 :: 35 :: r).drop a)).2 + 1)) := by
  rcases h with ⟨h, rfl, rfl, rfl⟩ | ⟨h, rfl, rfl, rfl⟩
  · unfold entAt
    simp only [h, if_true]
  · unfold entAt
    simp only [h, if_false]

theorem pre_hash (r : List UInt8) (c : UInt8) : Lib.hasPrefix (35 :: r) [35, c] = decide (r.head? = some c) := by
  unfold Lib.hasPrefix
  cases r with
  | nil => simp [List.isPrefixOf]
  | cons d r => simp [List.isPrefixOf]; rw [Bool.eq_iff_iff]; simp; exact eq_comm

theorem pre_no (rest p : List UInt8) (h : rest.head? ≠ some 35) : Lib.hasPrefix rest (35 :: p) = false := by
  unfold Lib.hasPrefix
  cases rest with
  | nil => rfl
  | cons d r => simp at h; simp [List.isPrefixOf]; intro e; exact absurd e.symm h

theorem number_le (b m : Nat) (l : List UInt8) : (number b m l).2 ≤ m := by
  unfold number
  simp only
  split
  · exact Nat.zero_le _
  · rename_i h; simp only; omega

theorem cut_le (l p : List UInt8) : (Lib.cut l p).1.length ≤ l.length := by
  unfold Lib.cut
  split
  · simp only; exact List.length_take_le' _ _
  · exact Nat.le_refl _

theorem ret_at {p : List UInt8 × Nat} {x : List UInt8} {n : Int} {m : Nat} (h : p = (x, m)) (hn : n = m) : Ending.returned (.tuple #[.string ⟨x.toArray⟩, .int .i64 n]) = .returned (.tuple #[.string ⟨p.1.toArray⟩, .int .i64 p.2]) := by rw [h, hn]

set_option maxHeartbeats 4000000 in
/-- Behind '&#': a number in one base. -/
theorem at_num (s R : ByteArray) (r : List UInt8) (w : World) (hs : s.data.toList = 38 :: 35 :: r) (hR : R.data.toList = 35 :: r) (hz : s.size ≤ 1000000000) :
    Calls Tryd.prog 50 #[.string s] w fun e w' => e = .returned (.tuple #[.string ⟨(entAt s.data.toList).1.toArray⟩, .int .i64 (entAt s.data.toList).2]) ∧ Below w.heap.size w w' := by
  have hcut : ∀ W, Calls Tryd.prog 55 #[.string s, .string ⟨#[38]⟩] W fun e w' => e = .returned (.tuple #[.string R, .bool true]) ∧ w' = W := fun W => by
    refine (Tryd.strings_CutPrefix s ⟨#[38]⟩ W).mono ?_
    rintro e w' ⟨rfl, rfl⟩
    refine ⟨?_, rfl⟩
    rw [hs, ba_of hR, show (ByteArray.mk #[38]).data.toList = [38] from rfl, trimPrefix_cons]
    rfl
  have hl : s.size = r.length + 2 := by rw [Lib.size_eq, hs]; simp
  have hp : ∀ (c : UInt8) W, Calls Tryd.prog 41 #[.string R, .string ⟨#[35, c]⟩] W fun e w' => e = .returned (.bool (decide (r.head? = some c))) ∧ w' = W := fun c W => by
    have := Tryd.strings_HasPrefix R ⟨#[35, c]⟩ W
    rw [hR, show (ByteArray.mk #[35, c]).data.toList = [35, c] from rfl, pre_hash] at this
    exact this
  have hp0 : ∀ W, Calls Tryd.prog 41 #[.string R, .string ⟨#[35]⟩] W fun e w' => e = .returned (.bool true) ∧ w' = W := fun W => by
    have := Tryd.strings_HasPrefix R ⟨#[35]⟩ W
    rw [hR, show Lib.hasPrefix (35 :: r) (ByteArray.mk #[35]).data.toList = true by simp [Lib.hasPrefix]] at this
    exact this
  have HC := Lib.hid hcut
  have HP := Lib.hid hp
  have HP0 := Lib.hid hp0
  have HS := Lib.hid hs
  clear hcut hp hp0 hs hR
  have fin : ∀ (b m a : Nat) (p : List UInt8 × Nat), entAt (38 :: 35 :: r) = (if (number b m ((38 :: 35 :: r).drop a)).2 = 0 then ([], 0) else ((number b m ((38 :: 35 :: r).drop a)).1, a + (number b m ((38 :: 35 :: r).drop a)).2 + 1)) →
      number b m ((38 :: 35 :: r).drop a) = p → entAt s.data.toList = if p.2 = 0 then ([], 0) else (p.1, a + p.2 + 1) := fun b m a p h hp => by rw [HS.out, h, hp]
  have FIN := Lib.hid fin
  clear fin
  have hsl : 2 ≤ s.size := by omega
  by_cases h2 : r.head? = some 120 ∨ r.head? = some 88
  · have hr1 : 1 ≤ r.length := by cases r with | nil => simp at h2 | cons _ _ => simp
    have hs3 : (3 : Int) ≤ (s.size : Int) := by omega
    obtain ⟨S, hS⟩ : ∃ S : ByteArray, s.extract 3 s.size = S := ⟨_, rfl⟩
    have hSl : S.data.toList = (38 :: 35 :: r).drop 3 := by rw [← hS, Lib.extract_to_end, HS.out]
    have hSz : S.size ≤ 1000000000 := by rw [Lib.size_eq, hSl]; simp; omega
    have hnum : ∀ W, Calls Tryd.prog 71 #[.string S, .int .i64 16, .int .i64 6] W _ := number_any S 16 6 (Or.inr rfl) (by omega) hSz
    rw [hSl] at hnum
    have hnl := number_le 16 6 ((38 :: 35 :: r).drop 3)
    obtain ⟨p, hp⟩ : ∃ p, number 16 6 ((38 :: 35 :: r).drop 3) = p := ⟨_, rfl⟩
    have HF := Lib.hid (FIN.out 16 6 3 p (entAt_num r 16 6 3 (Or.inl ⟨h2, rfl, rfl, rfl⟩)) hp)
    rw [hp] at hnum hnl
    have HN := Lib.hid hnum
    clear hnum hp hSl FIN hl
    by_cases h3 : r.head? = some 120
    · have hd : decide (r.head? = some 120) = true := decide_eq_true h3
      have HD := Lib.hid hd
      clear h2 h3 hd
      by_cases h0 : p.2 = 0
      · have HR := Lib.hid (show entAt s.data.toList = ([], 0) by rw [HF.out, if_pos h0])
        have h0' : ((p.2 : Int) == 0) = true := by simp; omega
        clear h0 HF
        go_enter Tryd.func50, Tryd.ntmps50
        go_wp2_with fail
        refine (HC.out _).mono ?_
        rintro e w' ⟨rfl, rfl⟩
        go_wp2_with fail
        refine (HP.out 120 _).mono ?_
        rintro e w' ⟨rfl, rfl⟩
        rw [HD.out]
        go_wp2_with fail
        refine (HP0.out _).mono ?_
        rintro e w' ⟨rfl, rfl⟩
        go_wp2_with fail
        refine (HN.out _).mono ?_
        rintro e w' ⟨rfl, hb⟩
        go_wp2_with fail
        go_ret2
        exact ⟨ret_at HR.out rfl, hb⟩
      · have HR := Lib.hid (show entAt s.data.toList = (p.1, 3 + p.2 + 1) by rw [HF.out, if_neg h0])
        have h0' : ((p.2 : Int) == 0) = false := by simp; omega
        clear h0 HF
        go_enter Tryd.func50, Tryd.ntmps50
        go_wp2_with fail
        refine (HC.out _).mono ?_
        rintro e w' ⟨rfl, rfl⟩
        go_wp2_with fail
        refine (HP.out 120 _).mono ?_
        rintro e w' ⟨rfl, rfl⟩
        rw [HD.out]
        go_wp2_with fail
        refine (HP0.out _).mono ?_
        rintro e w' ⟨rfl, rfl⟩
        go_wp2_with fail
        refine (HN.out _).mono ?_
        rintro e w' ⟨rfl, hb⟩
        go_wp2_with fail
        go_ret2
        exact ⟨ret_at HR.out (by simp), hb⟩
    · have hd : decide (r.head? = some 120) = false := decide_eq_false h3
      have hd2 : decide (r.head? = some 88) = true := decide_eq_true (h2.resolve_left h3)
      have HD := Lib.hid hd
      have HD2 := Lib.hid hd2
      clear h2 h3 hd hd2
      by_cases h0 : p.2 = 0
      · have HR := Lib.hid (show entAt s.data.toList = ([], 0) by rw [HF.out, if_pos h0])
        have h0' : ((p.2 : Int) == 0) = true := by simp; omega
        clear h0 HF
        go_enter Tryd.func50, Tryd.ntmps50
        go_wp2_with fail
        refine (HC.out _).mono ?_
        rintro e w' ⟨rfl, rfl⟩
        go_wp2_with fail
        refine (HP.out 120 _).mono ?_
        rintro e w' ⟨rfl, rfl⟩
        rw [HD.out]
        go_wp2_with fail
        refine (HP.out 88 _).mono ?_
        rintro e w' ⟨rfl, rfl⟩
        rw [HD2.out]
        go_wp2_with fail
        refine (HP0.out _).mono ?_
        rintro e w' ⟨rfl, rfl⟩
        go_wp2_with fail
        refine (HN.out _).mono ?_
        rintro e w' ⟨rfl, hb⟩
        go_wp2_with fail
        go_ret2
        exact ⟨ret_at HR.out rfl, hb⟩
      · have HR := Lib.hid (show entAt s.data.toList = (p.1, 3 + p.2 + 1) by rw [HF.out, if_neg h0])
        have h0' : ((p.2 : Int) == 0) = false := by simp; omega
        clear h0 HF
        go_enter Tryd.func50, Tryd.ntmps50
        go_wp2_with fail
        refine (HC.out _).mono ?_
        rintro e w' ⟨rfl, rfl⟩
        go_wp2_with fail
        refine (HP.out 120 _).mono ?_
        rintro e w' ⟨rfl, rfl⟩
        rw [HD.out]
        go_wp2_with fail
        refine (HP.out 88 _).mono ?_
        rintro e w' ⟨rfl, rfl⟩
        rw [HD2.out]
        go_wp2_with fail
        refine (HP0.out _).mono ?_
        rintro e w' ⟨rfl, rfl⟩
        go_wp2_with fail
        refine (HN.out _).mono ?_
        rintro e w' ⟨rfl, hb⟩
        go_wp2_with fail
        go_ret2
        exact ⟨ret_at HR.out (by simp), hb⟩
  · have hd : decide (r.head? = some 120) = false := decide_eq_false (fun h => h2 (Or.inl h))
    have hd2 : decide (r.head? = some 88) = false := decide_eq_false (fun h => h2 (Or.inr h))
    have HD := Lib.hid hd
    have HD2 := Lib.hid hd2
    have hs3 : (2 : Int) ≤ (s.size : Int) := by omega
    obtain ⟨S, hS⟩ : ∃ S : ByteArray, s.extract 2 s.size = S := ⟨_, rfl⟩
    have hSl : S.data.toList = (38 :: 35 :: r).drop 2 := by rw [← hS, Lib.extract_to_end, HS.out]
    have hSz : S.size ≤ 1000000000 := by rw [Lib.size_eq, hSl]; simp; omega
    have hnum : ∀ W, Calls Tryd.prog 71 #[.string S, .int .i64 10, .int .i64 7] W _ := number_any S 10 7 (Or.inl rfl) (by omega) hSz
    rw [hSl] at hnum
    have hnl := number_le 10 7 ((38 :: 35 :: r).drop 2)
    obtain ⟨p, hp⟩ : ∃ p, number 10 7 ((38 :: 35 :: r).drop 2) = p := ⟨_, rfl⟩
    have HF := Lib.hid (FIN.out 10 7 2 p (entAt_num r 10 7 2 (Or.inr ⟨h2, rfl, rfl, rfl⟩)) hp)
    rw [hp] at hnum hnl
    have HN := Lib.hid hnum
    clear hnum hp hSl FIN hl
    clear h2 hd hd2
    by_cases h0 : p.2 = 0
    · have HR := Lib.hid (show entAt s.data.toList = ([], 0) by rw [HF.out, if_pos h0])
      have h0' : ((p.2 : Int) == 0) = true := by simp; omega
      clear h0 HF
      go_enter Tryd.func50, Tryd.ntmps50
      go_wp2_with fail
      refine (HC.out _).mono ?_
      rintro e w' ⟨rfl, rfl⟩
      go_wp2_with fail
      refine (HP.out 120 _).mono ?_
      rintro e w' ⟨rfl, rfl⟩
      rw [HD.out]
      go_wp2_with fail
      refine (HP.out 88 _).mono ?_
      rintro e w' ⟨rfl, rfl⟩
      rw [HD2.out]
      go_wp2_with fail
      refine (HP0.out _).mono ?_
      rintro e w' ⟨rfl, rfl⟩
      go_wp2_with fail
      refine (HN.out _).mono ?_
      rintro e w' ⟨rfl, hb⟩
      go_wp2_with fail
      go_ret2
      exact ⟨ret_at HR.out rfl, hb⟩
    · have HR := Lib.hid (show entAt s.data.toList = (p.1, 2 + p.2 + 1) by rw [HF.out, if_neg h0])
      have h0' : ((p.2 : Int) == 0) = false := by simp; omega
      clear h0 HF
      go_enter Tryd.func50, Tryd.ntmps50
      go_wp2_with fail
      refine (HC.out _).mono ?_
      rintro e w' ⟨rfl, rfl⟩
      go_wp2_with fail
      refine (HP.out 120 _).mono ?_
      rintro e w' ⟨rfl, rfl⟩
      rw [HD.out]
      go_wp2_with fail
      refine (HP.out 88 _).mono ?_
      rintro e w' ⟨rfl, rfl⟩
      rw [HD2.out]
      go_wp2_with fail
      refine (HP0.out _).mono ?_
      rintro e w' ⟨rfl, rfl⟩
      go_wp2_with fail
      refine (HN.out _).mono ?_
      rintro e w' ⟨rfl, hb⟩
      go_wp2_with fail
      go_ret2
      exact ⟨ret_at HR.out (by simp), hb⟩

set_option maxHeartbeats 4000000 in
theorem at_any (s : ByteArray) (w : World) (hE : Env w) (hz : s.size ≤ 1000000000) :
    Calls Tryd.prog 50 #[.string s] w fun e w' => e = .returned (.tuple #[.string ⟨(entAt s.data.toList).1.toArray⟩, .int .i64 (entAt s.data.toList).2]) ∧ Below w.heap.size w w' := by
  obtain ⟨mx, hmx⟩ := hE.maxl
  have HE := Lib.hid hE
  clear hE
  by_cases h0 : ∃ rest, s.data.toList = 38 :: rest
  · obtain ⟨rest, hs⟩ := h0
    have hRl : (ByteArray.mk rest.toArray).data.toList = rest := rfl
    by_cases h1 : rest.head? = some 35
    · obtain ⟨r, rfl⟩ : ∃ r, rest = 35 :: r := by
        cases rest with
        | nil => simp at h1
        | cons d r => simp at h1; exact ⟨r, by rw [h1]⟩
      exact at_num s ⟨(35 :: r).toArray⟩ r w hs rfl hz
    · obtain ⟨R, hR⟩ : ∃ R : ByteArray, R = ⟨rest.toArray⟩ := ⟨_, rfl⟩
      have hRl : R.data.toList = rest := by rw [hR]
      have hRs : R.size ≤ 1000000000 := by rw [Lib.size_eq, hRl]; have : s.size = rest.length + 1 := by rw [Lib.size_eq, hs]; simp
                                           omega
      have hcut : ∀ W, Calls Tryd.prog 55 #[.string s, .string ⟨#[38]⟩] W fun e w' => e = .returned (.tuple #[.string R, .bool true]) ∧ w' = W := fun W => by
        refine (Tryd.strings_CutPrefix s ⟨#[38]⟩ W).mono ?_
        rintro e w' ⟨rfl, rfl⟩
        refine ⟨?_, rfl⟩
        rw [hs, hR, show (ByteArray.mk #[38]).data.toList = [38] from rfl, trimPrefix_cons]
        rfl
      have hp : ∀ (p : List UInt8) W, Calls Tryd.prog 41 #[.string R, .string ⟨(35 :: p).toArray⟩] W fun e w' => e = .returned (.bool false) ∧ w' = W := fun p W => by
        have := Tryd.strings_HasPrefix R ⟨(35 :: p).toArray⟩ W
        rw [hRl, show (ByteArray.mk (35 :: p).toArray).data.toList = 35 :: p from rfl, pre_no _ _ h1] at this
        exact this
      have hc := Tryd.strings_Cut R ⟨#[59]⟩ mx
      rw [hRl, show (ByteArray.mk #[59]).data.toList = [59] from rfl] at hc
      have hcl := cut_le rest [59]
      have hrl : rest.length ≤ 1000000000 := by rw [← hRl, ← Lib.size_eq]; exact hRs
      have HA := Lib.hid (entAt_amp rest h1)
      obtain ⟨c, hce⟩ : ∃ c, Lib.cut rest [59] = c := ⟨_, rfl⟩
      rw [hce] at hc hcl
      have HCE := Lib.hid hce
      have HC := Lib.hid hcut
      have HP := Lib.hid hp
      have HT := Lib.hid hc
      have HS := Lib.hid hs
      clear hce hcut hp hc hs hRl hR h1
      cases hb : c.2.2
      · have HR := Lib.hid (show entAt s.data.toList = ([], 0) by rw [HS.out, HA.out, HCE.out, hb]; rfl)
        have HB := Lib.hid hb
        clear hb
        go_enter Tryd.func50, Tryd.ntmps50
        go_wp2_with fail
        refine (HC.out _).mono ?_
        rintro e w' ⟨rfl, rfl⟩
        go_wp2_with fail
        refine (HP.out [120] _).mono ?_
        rintro e w' ⟨rfl, rfl⟩
        go_wp2_with fail
        refine (HP.out [88] _).mono ?_
        rintro e w' ⟨rfl, rfl⟩
        go_wp2_with fail
        refine (HP.out [] _).mono ?_
        rintro e w' ⟨rfl, rfl⟩
        go_wp2_with fail
        refine (HT.out _ (by omega) hmx).mono ?_
        rintro e w' ⟨rfl, nq, rfl⟩
        rw [HB.out]
        go_wp2_with fail
        go_ret2
        exact ⟨ret_at HR.out rfl, below_drewN _ _⟩
      · obtain ⟨q, hq⟩ : ∃ q, named c.1 = q := ⟨_, rfl⟩
        have hcz : c.1.length ≤ 1000000000 := by omega
        have hN : ∀ W, Env W → Calls Tryd.prog 39 #[.string ⟨c.1.toArray⟩] W fun e w' => e = .returned (.tuple #[.string ⟨q.1.toArray⟩, .bool q.2]) ∧ Below W.heap.size W w' := fun W hW => by
          have := named_any ⟨c.1.toArray⟩ W hW
          rw [show (ByteArray.mk c.1.toArray).data.toList = c.1 from rfl, hq] at this
          exact this
        have HN := Lib.hid hN
        have HB := Lib.hid hb
        have hsz : (ByteArray.mk c.1.toArray).size = c.1.length := by rw [Lib.size_eq]
        have HZ := Lib.hid hsz
        have HQ := Lib.hid hq
        clear hb hN hsz hq
        cases hq2 : q.2
        · have HR := Lib.hid (show entAt s.data.toList = ([], 0) by rw [HS.out, HA.out, HCE.out, HB.out, HQ.out, hq2]; rfl)
          have HQ2 := Lib.hid hq2
          clear hq2
          go_enter Tryd.func50, Tryd.ntmps50
          go_wp2_with fail
          refine (HC.out _).mono ?_
          rintro e w' ⟨rfl, rfl⟩
          go_wp2_with fail
          refine (HP.out [120] _).mono ?_
          rintro e w' ⟨rfl, rfl⟩
          go_wp2_with fail
          refine (HP.out [88] _).mono ?_
          rintro e w' ⟨rfl, rfl⟩
          go_wp2_with fail
          refine (HP.out [] _).mono ?_
          rintro e w' ⟨rfl, rfl⟩
          go_wp2_with fail
          refine (HT.out _ (by omega) hmx).mono ?_
          rintro e w' ⟨rfl, nq, rfl⟩
          rw [HB.out]
          go_wp2_with fail
          refine (HN.out _ (HE.out.below (below_drewN _ _))).mono ?_
          rintro e w' ⟨rfl, hb⟩
          rw [HQ2.out]
          go_wp2_with fail
          go_ret2
          exact ⟨ret_at HR.out rfl, (below_drewN _ _).trans hb⟩
        · have HR := Lib.hid (show entAt s.data.toList = (q.1, c.1.length + 2) by rw [HS.out, HA.out, HCE.out, HB.out, HQ.out, hq2]; rfl)
          have HQ2 := Lib.hid hq2
          clear hq2
          go_enter Tryd.func50, Tryd.ntmps50
          go_wp2_with fail
          refine (HC.out _).mono ?_
          rintro e w' ⟨rfl, rfl⟩
          go_wp2_with fail
          refine (HP.out [120] _).mono ?_
          rintro e w' ⟨rfl, rfl⟩
          go_wp2_with fail
          refine (HP.out [88] _).mono ?_
          rintro e w' ⟨rfl, rfl⟩
          go_wp2_with fail
          refine (HP.out [] _).mono ?_
          rintro e w' ⟨rfl, rfl⟩
          go_wp2_with fail
          refine (HT.out _ (by omega) hmx).mono ?_
          rintro e w' ⟨rfl, nq, rfl⟩
          rw [HB.out]
          go_wp2_with fail
          refine (HN.out _ (HE.out.below (below_drewN _ _))).mono ?_
          rintro e w' ⟨rfl, hb⟩
          rw [HQ2.out]
          go_wp2_with fail
          go_ret2
          exact ⟨ret_at HR.out (by simp), (below_drewN _ _).trans hb⟩
  · have hno : Lib.hasPrefix s.data.toList [38] = false := by
      unfold Lib.hasPrefix
      cases hl : s.data.toList with
      | nil => rfl
      | cons d r =>
        simp [List.isPrefixOf]
        intro e
        exact h0 ⟨r, by rw [hl, e]⟩
    have hR : entAt s.data.toList = ([], 0) := by
      cases hl : s.data.toList with
      | nil => rfl
      | cons d r => exact entAt_other d r (fun e => h0 ⟨r, by rw [hl, e]⟩)
    have HR := Lib.hid hR
    have HNO := Lib.hid hno
    clear hno hR h0
    go_enter Tryd.func50, Tryd.ntmps50
    go_wp2_with fail
    refine (Tryd.strings_CutPrefix _ _ _).mono ?_
    rintro e w' ⟨rfl, rfl⟩
    rw [show (ByteArray.mk #[38]).data.toList = [38] from rfl, HNO.out]
    go_wp2_with fail
    go_ret2
    exact ⟨ret_at HR.out rfl, Below.refl _ _⟩
end Go.Proofs.YtmllkffdejojbaaDoor
