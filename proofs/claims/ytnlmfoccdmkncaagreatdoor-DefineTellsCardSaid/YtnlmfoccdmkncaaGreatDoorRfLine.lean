/-
  The reference's DefLine: it answers as the program's Line does.
-/
import Derived.Test.YtnlmfoccdmkncaaGreatDoorRfTitle
import Derived.Test.YtnlmfoccdmkncaaGreatDoorDefD
import Derived.Test.YtnlmfoccdmkncaaGreatDoorEntLaw
namespace Go.Proofs.YtnlmfoccdmkncaaGreatDoor
open Go.RowKit
set_option maxRecDepth 100000
set_option linter.unusedVariables false
set_option linter.unusedSimpArgs false

def LinePost (s : ByteArray) (w : World) (e : Ending) (w' : World) : Prop := e = .returned (.tuple #[(lineL s.data.toList).1.val, .bool (lineL s.data.toList).2]) ∧ Below w.heap.size w w'
theorem line_end {s : ByteArray} {w w' : World} {v : Value} {b : Bool} {d : DefL} (h : lineL s.data.toList = (d, b)) (hv : d.val = v) (hb : Below w.heap.size w w') : LinePost s w (.returned (.tuple #[v, .bool b])) w' := by
  refine ⟨?_, hb⟩
  rw [h, ← hv]


theorem rline_head (s : ByteArray) (w : World) (hs : s.size ≤ 1000000) (h : s.data.toList.head? ≠ some 91) : Calls Tryz.prog 9 #[.string s] w (LinePost s w) := by
  have HQ := Lib.hid (line_head _ h)
  by_cases h0 : 0 < s.size
  · have he := empty_no h0
    obtain ⟨q, hq⟩ : ∃ q, s[0] = q := ⟨_, rfl⟩
    have q91 : q ≠ 91 := by
      intro e
      have := drop_at s 0 h0
      rw [List.drop_zero, hq, e] at this
      rw [this] at h
      exact h rfl
    have t0 : ((q.toNat : Int) != 91) = true := is_noB (d := 91) q91
    have hb1 : Below w.heap.size w (w.alloc (.cells #[.string ⟨#[]⟩, .string ⟨#[]⟩, .string ⟨#[]⟩, .string ⟨#[]⟩, .bool false] 26)) := (Below.refl _ w).alloc (Nat.le_refl _) _
    have hz0 := zeroAt w
    obtain ⟨W1, hW1⟩ : ∃ W1, w.alloc (.cells #[.string ⟨#[]⟩, .string ⟨#[]⟩, .string ⟨#[]⟩, .string ⟨#[]⟩, .bool false] 26) = W1 := ⟨_, rfl⟩
    have hsz1 : w.heap.size < W1.heap.size := by rw [← hW1, World.size_alloc]; omega
    rw [hW1] at hb1 hz0
    obtain ⟨c0, c1, c2, c3, c4, f0, f1, f2, f3, f4⟩ := hz0
    clear h q91
    go_enter Tryz.func9, Tryz.ntmps9
    go_wp2_with fail
    refine bodyPost_ret (v := .tuple #[.agg #[.string ⟨#[]⟩, .string ⟨#[]⟩, .string ⟨#[]⟩, .string ⟨#[]⟩, .bool false], .bool false]) (by simp [results, Tryz.results9, go_sem, c0, c1, c2, c3, c4, f0, f1, f2, f3, f4]) rfl (line_end HQ.out rfl (below_def hb1))
  · have he := empty_yes (s := s) (by omega)
    have hb1 : Below w.heap.size w (w.alloc (.cells #[.string ⟨#[]⟩, .string ⟨#[]⟩, .string ⟨#[]⟩, .string ⟨#[]⟩, .bool false] 26)) := (Below.refl _ w).alloc (Nat.le_refl _) _
    have hz0 := zeroAt w
    obtain ⟨W1, hW1⟩ : ∃ W1, w.alloc (.cells #[.string ⟨#[]⟩, .string ⟨#[]⟩, .string ⟨#[]⟩, .string ⟨#[]⟩, .bool false] 26) = W1 := ⟨_, rfl⟩
    have hsz1 : w.heap.size < W1.heap.size := by rw [← hW1, World.size_alloc]; omega
    rw [hW1] at hb1 hz0
    obtain ⟨c0, c1, c2, c3, c4, f0, f1, f2, f3, f4⟩ := hz0
    clear h
    go_enter Tryz.func9, Tryz.ntmps9
    go_wp2_with fail
    refine bodyPost_ret (v := .tuple #[.agg #[.string ⟨#[]⟩, .string ⟨#[]⟩, .string ⟨#[]⟩, .string ⟨#[]⟩, .bool false], .bool false]) (by simp [results, Tryz.results9, go_sem, c0, c1, c2, c3, c4, f0, f1, f2, f3, f4]) rfl (line_end HQ.out rfl (below_def hb1))

theorem at_ne {s : ByteArray} {x : List UInt8} {y : List UInt8} (h : s.data.toList = 91 :: (x ++ y)) (hn : (93 : UInt8) ∉ x) (k : Nat) (h1 : 1 ≤ k) (h2 : k ≤ x.length) (hk : k < s.size) : s[k] ≠ 93 := by
  intro e
  have hg := Lib.data_getElem? s k hk
  rw [h, e] at hg
  obtain ⟨j, rfl⟩ : ∃ j, k = j + 1 := ⟨k - 1, by omega⟩
  rw [List.getElem?_cons_succ, List.getElem?_append_left (by omega)] at hg
  exact hn (List.mem_of_getElem? hg)

set_option maxHeartbeats 4000000 in
theorem rline_shut (s : ByteArray) (w : World) (hs : s.size ≤ 1000000) (x : List UInt8) (h : s.data.toList = 91 :: x) (hn : (93 : UInt8) ∉ x) : Calls Tryz.prog 9 #[.string s] w (LinePost s w) := by
  have HQ := Lib.hid (show lineL s.data.toList = (DefL.none, false) by rw [h]; exact line_shut x hn)
  have hsz0 : s.size = x.length + 1 := by rw [Lib.size_eq, h]; rfl
  have h0 : 0 < s.size := by omega
  have he := empty_no h0
  obtain ⟨q, hq⟩ : ∃ q, s[0] = q := ⟨_, rfl⟩
  have q91 : q = 91 := by
    have := drop_at s 0 h0
    rw [List.drop_zero, hq, h] at this
    exact (List.cons.inj this).1.symm
  have t0 : ((q.toNat : Int) != 91) = false := by rw [q91]; rfl
  have HX := Lib.hid (And.intro h (And.intro hn hsz0))
  have hb1 : Below w.heap.size w (w.alloc (.cells #[.string ⟨#[]⟩, .string ⟨#[]⟩, .string ⟨#[]⟩, .string ⟨#[]⟩, .bool false] 26)) := (Below.refl _ w).alloc (Nat.le_refl _) _
  have hz0 := zeroAt w
  obtain ⟨W1, hW1⟩ : ∃ W1, w.alloc (.cells #[.string ⟨#[]⟩, .string ⟨#[]⟩, .string ⟨#[]⟩, .string ⟨#[]⟩, .bool false] 26) = W1 := ⟨_, rfl⟩
  have hsz1 : w.heap.size < W1.heap.size := by rw [← hW1, World.size_alloc]; omega
  rw [hW1] at hb1 hz0
  obtain ⟨c0, c1, c2, c3, c4, f0, f1, f2, f3, f4⟩ := hz0
  clear h q91 hn hsz0
  go_enter Tryz.func9, Tryz.ntmps9
  go_wp2_with fail
  clear t0 he hq
  go_loop [4] (fun u4 => ∃ k : Nat, 1 ≤ k ∧ k ≤ s.size ∧ u4 = .int .i64 k) (fun u4 => s.size - (intOf u4).toNat)
  case atStart => exact ⟨1, by omega, by omega, rfl⟩
  case round =>
    obtain ⟨k, hk1, hk, rfl⟩ := hrel
    by_cases hlt : k < s.size
    · have hltI : (k : Int) < (s.size : Int) := by omega
      obtain ⟨c, hc⟩ : ∃ c, s[k] = c := ⟨_, rfl⟩
      have hne : c ≠ 93 := by rw [← hc]; exact at_ne (y := []) (by rw [List.append_nil]; exact HX.out.1) HX.out.2.1 k hk1 (by have := HX.out.2.2; omega) hlt
      have t1 : ((c.toNat : Int) != 93) = true := is_noB (d := 93) hne
      clear hne
      go_wp2_with fail
      go_round
      case rel => exact ⟨k + 1, by omega, by omega, by go_num⟩
      case measure => simp [intOf]; omega
    · obtain rfl : k = s.size := by omega
      go_wp2_with fail
      refine bodyPost_ret (v := .tuple #[.agg #[.string ⟨#[]⟩, .string ⟨#[]⟩, .string ⟨#[]⟩, .string ⟨#[]⟩, .bool false], .bool false]) (by simp [results, Tryz.results9, go_sem, c0, c1, c2, c3, c4, f0, f1, f2, f3, f4]) rfl (line_end HQ.out rfl (below_def hb1))

theorem plain_nil (x : List UInt8) : plainL x = [] ↔ blankL x = true := by
  unfold plainL blankL
  rw [decide_eq_true_eq]
  constructor
  · intro h
    cases hl : Lib.trimLeftS x blanks with
    | nil => rfl
    | cons c r =>
      exfalso
      have hc : blanks.contains c = false := by
        cases hb : blanks.contains c with
        | false => rfl
        | true =>
          have h2 : Lib.trimLeftS (Lib.trimLeftS x blanks) blanks = Lib.trimLeftS x blanks := by
            unfold Lib.trimLeftS
            induction x with
            | nil => rfl
            | cons a l ih =>
              by_cases ha : blanks.contains a = true
              · rw [List.dropWhile_cons_of_pos ha]; exact ih (by rw [plain_skip ha] at h; exact h) (by rw [plain_skip ha] at hl; exact hl)
              · rw [List.dropWhile_cons_of_neg ha, List.dropWhile_cons_of_neg ha]
          rw [hl, plain_skip hb] at h2
          have h3 := congrArg List.length h2
          have h4 : (Lib.trimLeftS r blanks).length ≤ r.length := (List.dropWhile_sublist _).length_le
          simp at h3
          omega
      rw [hl] at h
      unfold Lib.trimRightS at h
      rw [List.reverse_eq_nil_iff] at h
      have hall : ∀ y ∈ (c :: r).reverse, blanks.contains y = true := by
        intro y hy
        have := List.takeWhile_append_dropWhile (p := blanks.contains) (l := (c :: r).reverse)
        rw [h, List.append_nil] at this
        rw [← this] at hy
        exact (List.all_eq_true.1 (List.all_takeWhile (p := blanks.contains) (l := (c :: r).reverse))) y hy
      have := hall c (by simp)
      rw [hc] at this
      cases this
  · intro h; rw [h]; rfl

theorem link_no {l : List UInt8} {u : List UInt8} {m : Nat} (h : dest l = (u, m, false)) : linkL l = ([], [], false) := by unfold linkL; rw [h]; rfl
theorem link_bare2 {l u : List UInt8} {m : Nat} (h : dest l = (u, m, true)) (hb : blankL (l.drop m) = true) : linkL l = (u, [], true) := by
  unfold linkL behindL
  unfold blankL at hb
  rw [decide_eq_true_eq] at hb
  rw [h]
  simp only
  rw [if_neg (by simp), if_pos hb]
theorem link_full {l u x ti : List UInt8} {m m2 : Nat} {is2 : Bool} (h : dest l = (u, m, true)) (hb : blankL (l.drop m) = false) (hx : Lib.trimLeftS (l.drop m) blanks = x) (ht : title x = (ti, m2, is2)) :
    linkL l = if is2 = true ∧ (behindL (l.drop m)).2 = true ∧ blankL (x.drop m2) = true then (u, ti, true) else ([], [], false) := by
  unfold blankL at hb
  rw [decide_eq_false_iff_not] at hb
  unfold linkL
  rw [h]
  simp only
  rw [if_neg (by simp)]
  have e1 : (behindL (l.drop m)).1 = x := hx
  rw [e1, if_neg (by rw [← hx]; exact hb), ht]
  simp only [plain_nil]
theorem behind_gap {c : UInt8} {r : List UInt8} (h : blanks.contains c = true) : (behindL (c :: r)).2 = true := by
  unfold behindL
  rw [decide_eq_true_eq, plain_skip h]
  have : (Lib.trimLeftS r blanks).length ≤ r.length := (List.dropWhile_sublist _).length_le
  simp; omega
theorem behind_nogap {c : UInt8} {r : List UInt8} (h : blanks.contains c = false) : (behindL (c :: r)).2 = false := by
  unfold behindL
  rw [plain_stop h]
  simp


set_option maxHeartbeats 4000000 in
theorem rline_colon (s : ByteArray) (w : World) (hs : s.size ≤ 1000000) (name rest : List UInt8) (h : s.data.toList = 91 :: (name ++ 93 :: rest)) (hn : (93 : UInt8) ∉ name) (hr : rest.head? ≠ some 58) : Calls Tryz.prog 9 #[.string s] w (LinePost s w) := by
  have HQ := Lib.hid (show lineL s.data.toList = (DefL.none, false) by rw [h]; exact line_colon name rest hn hr)
  have HRR := Lib.hid hr
  clear hr
  have hsz0 : s.size = name.length + 2 + (rest).length := by rw [Lib.size_eq, h]; simp; omega
  have h0 : 0 < s.size := by omega
  have he := empty_no h0
  obtain ⟨q, hq⟩ : ∃ q, s[0] = q := ⟨_, rfl⟩
  have q91 : q = 91 := by
    have := drop_at s 0 h0
    rw [List.drop_zero, hq, h] at this
    exact (List.cons.inj this).1.symm
  have t0 : ((q.toNat : Int) != 91) = false := by rw [q91]; rfl
  obtain ⟨k0, hk0⟩ : ∃ k, name.length + 1 = k := ⟨_, rfl⟩
  have hk0s : k0 < s.size := by omega
  have e93 : ∀ hh, s[k0]'hh = 93 := by
    intro hh
    subst hk0
    have hg := Lib.data_getElem? s (name.length + 1) hh
    rw [h, List.getElem?_cons_succ, List.getElem?_append_right (Nat.le_refl _), Nat.sub_self] at hg
    exact (Option.some.inj hg).symm
  have hks : k0 + 1 + (rest).length = s.size := by omega
  have HX := Lib.hid (And.intro h (And.intro hn (And.intro hk0 e93)))
  have hb1 : Below w.heap.size w (w.alloc (.cells #[.string ⟨#[]⟩, .string ⟨#[]⟩, .string ⟨#[]⟩, .string ⟨#[]⟩, .bool false] 26)) := (Below.refl _ w).alloc (Nat.le_refl _) _
  have hz0 := zeroAt w
  obtain ⟨W1, hW1⟩ : ∃ W1, w.alloc (.cells #[.string ⟨#[]⟩, .string ⟨#[]⟩, .string ⟨#[]⟩, .string ⟨#[]⟩, .bool false] 26) = W1 := ⟨_, rfl⟩
  have hsz1 : w.heap.size < W1.heap.size := by rw [← hW1, World.size_alloc]; omega
  rw [hW1] at hb1 hz0
  obtain ⟨c0, c1, c2, c3, c4, f0, f1, f2, f3, f4⟩ := hz0
  clear h q91 hn hsz0 hk0 e93
  go_enter Tryz.func9, Tryz.ntmps9
  go_wp2_with fail
  clear t0 he hq
  go_loop [4] (fun u4 => ∃ k : Nat, 1 ≤ k ∧ k ≤ k0 ∧ u4 = .int .i64 k) (fun u4 => s.size - (intOf u4).toNat)
  case atStart => exact ⟨1, by omega, by have := HX.out.2.2.1; omega, rfl⟩
  case round =>
  obtain ⟨k, hk1, hk, rfl⟩ := hrel
  have hlt : k < s.size := by omega
  have hltI : (k : Int) < (s.size : Int) := by omega
  by_cases hkk : k < k0
  · obtain ⟨c, hc⟩ : ∃ c, s[k] = c := ⟨_, rfl⟩
    have hne : c ≠ 93 := by rw [← hc]; exact at_ne (x := name) (y := 93 :: rest) HX.out.1 HX.out.2.1 k hk1 (by have := HX.out.2.2.1; omega) hlt
    have t1 : ((c.toNat : Int) != 93) = true := is_noB (d := 93) hne
    clear hne
    go_wp2_with fail
    go_round
    case rel => exact ⟨k + 1, by omega, by omega, by go_num⟩
    case measure => simp [intOf]; omega
  obtain rfl : k = k0 := by omega
  obtain ⟨c, hc⟩ : ∃ c, s[k] = c := ⟨_, rfl⟩
  have t1 : ((c.toNat : Int) != 93) = false := by rw [← hc, HX.out.2.2.2 hlt]; rfl
  by_cases h2 : k + 1 < s.size
  · have h2I : ¬ (s.size : Int) ≤ (k : Int) + 1 := by omega
    obtain ⟨d, hd⟩ : ∃ d, s[k + 1] = d := ⟨_, rfl⟩
    have hd58 : d ≠ 58 := by
      intro e
      have hg := Lib.data_getElem? s (k + 1) h2
      have hk2 := HX.out.2.2.1
      rw [hd, e, HX.out.1, List.getElem?_cons_succ, List.getElem?_append_right (by omega), show k - name.length = 1 by omega, List.getElem?_cons_succ] at hg
      exact HRR.out (by rw [List.head?_eq_getElem?]; exact hg)
    have t2 : ((d.toNat : Int) != 58) = true := is_noB (d := 58) hd58
    clear hd58
    go_wp2_with fail
    refine bodyPost_ret (v := .tuple #[.agg #[.string ⟨#[]⟩, .string ⟨#[]⟩, .string ⟨#[]⟩, .string ⟨#[]⟩, .bool false], .bool false]) (by simp [results, Tryz.results9, go_sem, c0, c1, c2, c3, c4, f0, f1, f2, f3, f4]) rfl (line_end HQ.out rfl (below_def hb1))
  · have h2I : (s.size : Int) ≤ (k : Int) + 1 := by omega
    go_wp2_with fail
    refine bodyPost_ret (v := .tuple #[.agg #[.string ⟨#[]⟩, .string ⟨#[]⟩, .string ⟨#[]⟩, .string ⟨#[]⟩, .bool false], .bool false]) (by simp [results, Tryz.results9, go_sem, c0, c1, c2, c3, c4, f0, f1, f2, f3, f4]) rfl (line_end HQ.out rfl (below_def hb1))


set_option maxHeartbeats 8000000 in
theorem rline_note (s : ByteArray) (w : World) (hE : Env w) (hs : s.size ≤ 1000000) (nm t : List UInt8) (name : List UInt8) (hname : name = 94 :: nm) (h : s.data.toList = 91 :: (name ++ 93 :: 58 :: t)) (hn : (93 : UInt8) ∉ name) : Calls Tryz.prog 9 #[.string s] w (LinePost s w) := by
  have HE := Lib.hid hE
  have HNE := Lib.hid hname
  clear hE hname
  have hsz0 : s.size = name.length + 2 + ((58 :: t)).length := by rw [Lib.size_eq, h]; simp; omega
  have h0 : 0 < s.size := by omega
  have he := empty_no h0
  obtain ⟨q, hq⟩ : ∃ q, s[0] = q := ⟨_, rfl⟩
  have q91 : q = 91 := by
    have := drop_at s 0 h0
    rw [List.drop_zero, hq, h] at this
    exact (List.cons.inj this).1.symm
  have t0 : ((q.toNat : Int) != 91) = false := by rw [q91]; rfl
  obtain ⟨k0, hk0⟩ : ∃ k, name.length + 1 = k := ⟨_, rfl⟩
  have hk0s : k0 < s.size := by omega
  have e93 : ∀ hh, s[k0]'hh = 93 := by
    intro hh
    subst hk0
    have hg := Lib.data_getElem? s (name.length + 1) hh
    rw [h, List.getElem?_cons_succ, List.getElem?_append_right (Nat.le_refl _), Nat.sub_self] at hg
    exact (Option.some.inj hg).symm
  have hks : k0 + 1 + ((58 :: t)).length = s.size := by omega
  have HX := Lib.hid (And.intro h (And.intro hn (And.intro hk0 e93)))
  have hb1 : Below w.heap.size w (w.alloc (.cells #[.string ⟨#[]⟩, .string ⟨#[]⟩, .string ⟨#[]⟩, .string ⟨#[]⟩, .bool false] 26)) := (Below.refl _ w).alloc (Nat.le_refl _) _
  have hz0 := zeroAt w
  obtain ⟨W1, hW1⟩ : ∃ W1, w.alloc (.cells #[.string ⟨#[]⟩, .string ⟨#[]⟩, .string ⟨#[]⟩, .string ⟨#[]⟩, .bool false] 26) = W1 := ⟨_, rfl⟩
  have hsz1 : w.heap.size < W1.heap.size := by rw [← hW1, World.size_alloc]; omega
  rw [hW1] at hb1 hz0
  obtain ⟨c0, c1, c2, c3, c4, f0, f1, f2, f3, f4⟩ := hz0
  clear h q91 hn hsz0 hk0 e93
  go_enter Tryz.func9, Tryz.ntmps9
  go_wp2_with fail
  clear t0 he hq
  go_loop [4] (fun u4 => ∃ k : Nat, 1 ≤ k ∧ k ≤ k0 ∧ u4 = .int .i64 k) (fun u4 => s.size - (intOf u4).toNat)
  case atStart => exact ⟨1, by omega, by have := HX.out.2.2.1; omega, rfl⟩
  case round =>
  obtain ⟨k, hk1, hk, rfl⟩ := hrel
  have hlt : k < s.size := by omega
  have hltI : (k : Int) < (s.size : Int) := by omega
  by_cases hkk : k < k0
  · obtain ⟨c, hc⟩ : ∃ c, s[k] = c := ⟨_, rfl⟩
    have hne : c ≠ 93 := by rw [← hc]; exact at_ne (x := name) (y := 93 :: (58 :: t)) HX.out.1 HX.out.2.1 k hk1 (by have := HX.out.2.2.1; omega) hlt
    have t1 : ((c.toNat : Int) != 93) = true := is_noB (d := 93) hne
    clear hne
    go_wp2_with fail
    go_round
    case rel => exact ⟨k + 1, by omega, by omega, by go_num⟩
    case measure => simp [intOf]; omega
  obtain rfl : k = k0 := by omega
  obtain ⟨c, hc⟩ : ∃ c, s[k] = c := ⟨_, rfl⟩
  have t1 : ((c.toNat : Int) != 93) = false := by rw [← hc, HX.out.2.2.2 hlt]; rfl
  have h2 : k + 1 < s.size := by simp at hks; omega
  have h2I : ¬ (s.size : Int) ≤ (k : Int) + 1 := by omega
  obtain ⟨d, hd⟩ : ∃ d, s[k + 1] = d := ⟨_, rfl⟩
  have hd58 : d = 58 := by
    have hg := Lib.data_getElem? s (k + 1) h2
    have hk2 := HX.out.2.2.1
    rw [hd, HX.out.1, List.getElem?_cons_succ, List.getElem?_append_right (by omega), show k - name.length = 1 by omega] at hg
    simpa using hg.symm
  have t2 : ((d.toNat : Int) != 58) = false := by rw [hd58]; rfl
  obtain ⟨NM, hNM⟩ : ∃ N : ByteArray, s.extract 1 k = N := ⟨_, rfl⟩
  have hNMl : NM.data.toList = name := by
    rw [← hNM, ext_list, HX.out.1, ← HX.out.2.2.1, List.take_succ_cons, List.tail_cons, List.take_left' rfl]
  obtain ⟨T, hT⟩ : ∃ T : ByteArray, s.extract (k + 2) s.size = T := ⟨_, rfl⟩
  have hTl : T.data.toList = t := by
    rw [← hT, Lib.extract_to_end, HX.out.1, ← HX.out.2.2.1, show name.length + 1 + 2 = (name.length + 2) + 1 by omega, List.drop_succ_cons, show name ++ 93 :: 58 :: t = (name ++ [93, 58]) ++ t by simp, List.drop_left' (by simp)]
  have hTz : T.size ≤ s.size := by rw [← hT]; simp
  have hNMz : NM.size ≤ s.size := by rw [Lib.size_eq, hNMl]; have := HX.out.2.2.1; omega
  have HNT := Lib.hid (And.intro hNMl hTl)
  clear hd58 hNMl hTl
  go_upto_block 2 with (fail)
  have HTT := Lib.hid hT
  clear t1 t2 hd hc hT
  go_cut [6] (fun u6 wc => ∃ S : ByteArray, u6 = .string S ∧ S.data.toList = Lib.trimLeftS t blanks ∧ S.size ≤ s.size ∧ wc = W1)
  case first =>
    go_wp2_with fail
    go_loop [6] (fun u6 => ∃ S : ByteArray, u6 = .string S ∧ S.size ≤ s.size ∧ Lib.trimLeftS S.data.toList blanks = Lib.trimLeftS t blanks) (fun u6 => strSize u6)
    case atStart => exact ⟨s.extract (k + 2) s.size, rfl, by rw [HTT.out]; exact hTz, by rw [HTT.out, HNT.out.2]⟩
    case round =>
      obtain ⟨S, rfl, hle, htr⟩ := hrel
      have HTR := Lib.hid htr
      clear htr
      by_cases h0 : 0 < S.size
      · have he := empty_no h0
        have hda := drop_at S 0 h0
        obtain ⟨y, hy⟩ : ∃ y, S[0] = y := ⟨_, rfl⟩
        rw [hy, List.drop_zero, Nat.zero_add] at hda
        have HDA := Lib.hid hda
        clear hda
        obtain ⟨b, hb⟩ : ∃ b, blanks.contains y = b := ⟨_, rfl⟩
        have HG := Lib.hid (rgap_is hb)
        have HB := Lib.hid hb
        clear hb
        go_wp2_with fail
        refine (HG.out _).mono ?_
        rintro e w' ⟨rfl, rfl⟩
        cases b
        · have HST := Lib.hid (trimL_end HTR.out HDA.out HB.out)
          go_wp2_with fail
          go_meet
          case rel => exact ⟨S, rfl, HST.out, hle, rfl⟩
        · have HST := Lib.hid (trimL_step HTR.out HDA.out HB.out)
          go_wp2_with fail
          go_round
          case rel => exact ⟨_, rfl, by rw [Lib.size_eq, ext_drop1]; simp; omega, by rw [ext_drop1]; exact HST.out⟩
          case measure => simp only [strSize]; rw [Lib.size_eq, ext_drop1]; simp; omega
      · have he := empty_yes (s := S) (by omega)
        have hnil : S.data.toList = [] := List.eq_nil_of_length_eq_zero (by rw [← Lib.size_eq]; omega)
        have HST := Lib.hid (show S.data.toList = Lib.trimLeftS t blanks by rw [← HTR.out, hnil]; rfl)
        clear hnil
        go_wp2_with fail
        go_meet
        case rel => exact ⟨S, rfl, HST.out, hle, rfl⟩
  case rest =>
  obtain ⟨S, rfl, hSl, hSz, rfl⟩ := hcut
  have hLO : lineL s.data.toList = lineOf name S.data.toList := by rw [HX.out.1, line_open name t HX.out.2.1, hSl]; rfl
  have HLO := Lib.hid hLO
  clear hSl hLO
  have hN0 : 0 < NM.size := by rw [Lib.size_eq, HNT.out.1, HNE.out]; simp
  have heN := empty_no hN0
  obtain ⟨y, hy⟩ : ∃ y, NM[0] = y := ⟨_, rfl⟩
  have y94 : y = 94 := by
    have := drop_at NM 0 hN0
    rw [List.drop_zero, hy, HNT.out.1, HNE.out] at this
    exact (List.cons.inj this).1.symm
  have t4 : ((y.toNat : Int) == 94) = true := by rw [y94]; rfl
  obtain ⟨N2, hN2⟩ : ∃ N : ByteArray, NM.extract 1 NM.size = N := ⟨_, rfl⟩
  have hN2l : N2.data.toList = nm := by rw [← hN2, ext_drop1, HNT.out.1, HNE.out]; rfl
  have hN2z : N2.size ≤ 1000000 := by rw [← hN2]; simp; omega
  have hrn := rname_any N2 wc (HE.out.below hb1) hN2z
  rw [hN2l] at hrn
  obtain ⟨a, ok, hnl⟩ : ∃ a ok, nameL nm = (a, ok) := ⟨_, _, rfl⟩
  rw [hnl] at hrn
  simp only at hrn
  have HRN := Lib.hid hrn
  have hlo : lineL s.data.toList = if plainL S.data.toList ≠ [] ∧ ok = true then (⟨a, [], [], plainL S.data.toList, true⟩, true) else (DefL.none, false) := by
    rw [HLO.out, HNE.out, lineOf_note, hnl]
  have hz0 : DefAt wc w.heap.size (.string ⟨#[]⟩) (.string ⟨#[]⟩) (.string ⟨#[]⟩) (.string ⟨#[]⟩) (.bool false) := ⟨c0, c1, c2, c3, c4, f0, f1, f2, f3, f4⟩
  have HZ := Lib.hid hz0
  clear y94 hN2l hrn hnl hz0 c0 c1 c2 c3 c4 f0 f1 f2 f3 f4
  go_wp2_with fail
  refine HRN.out.mono ?_
  rintro e w2 ⟨rfl, b2⟩
  obtain ⟨c0, c1, c2, c3, c4, f0, f1, f2, f3, f4⟩ := HZ.out.below b2 hsz1
  have hb2 := below_step hb1 b2
  have hsz2 : w.heap.size < w2.heap.size := by have := b2.size; omega
  clear b2 hb1 HRN hy hN2 heN
  cases ok
  · have HQ := Lib.hid (hlo.trans (if_neg (by simp)))
    clear hlo
    go_wp2_with fail
    refine bodyPost_ret (v := .tuple #[.agg #[.string ⟨#[]⟩, .string ⟨#[]⟩, .string ⟨#[]⟩, .string ⟨#[]⟩, .bool false], .bool false]) (by simp [results, Tryz.results9, go_sem, c0, c1, c2, c3, c4, f0, f1, f2, f3, f4]) rfl (line_end HQ.out rfl (below_def hb2))
  · have htr := fun W => rtrim_any S W (by omega)
    obtain ⟨P, hP⟩ : ∃ P : ByteArray, ⟨(plainL S.data.toList).toArray⟩ = P := ⟨_, rfl⟩
    have hPl : plainL S.data.toList = P.data.toList := by rw [← hP]
    rw [hP] at htr
    have HTR := Lib.hid htr
    rw [hPl] at hlo
    clear htr hP hPl
    by_cases hp0 : 0 < P.size
    · have heP := empty_no hp0
      have HQ := Lib.hid (hlo.trans (if_pos ⟨by intro h0; rw [Lib.size_eq, h0] at hp0; exact absurd hp0 (by simp), rfl⟩))
      clear hlo
      go_wp2_with fail
      refine (HTR.out _).mono ?_
      rintro e w' ⟨rfl, rfl⟩
      go_wp2_with fail
      refine (HTR.out _).mono ?_
      rintro e w' ⟨rfl, rfl⟩
      go_wp2_with fail
      refine bodyPost_ret (v := .tuple #[.agg #[.string ⟨a.toArray⟩, .string ⟨#[]⟩, .string ⟨#[]⟩, .string P, .bool true], .bool true]) (by simp [results, Tryz.results9, go_sem, c0, c1, c2, c3, c4, f0, f1, f2, f3, f4]) rfl (line_end HQ.out rfl (below_def hb2))
    · have heP := empty_yes (s := P) (by omega)
      have HQ := Lib.hid (hlo.trans (if_neg (by
        rintro ⟨h0, _⟩
        exact h0 (List.eq_nil_of_length_eq_zero (by rw [← Lib.size_eq]; omega)))))
      clear hlo
      go_wp2_with fail
      refine (HTR.out _).mono ?_
      rintro e w' ⟨rfl, rfl⟩
      go_wp2_with fail
      refine bodyPost_ret (v := .tuple #[.agg #[.string ⟨#[]⟩, .string ⟨#[]⟩, .string ⟨#[]⟩, .string ⟨#[]⟩, .bool false], .bool false]) (by simp [results, Tryz.results9, go_sem, c0, c1, c2, c3, c4, f0, f1, f2, f3, f4]) rfl (line_end HQ.out rfl (below_def hb2))

theorem trim_ne {S T : List UInt8} (h : Lib.trimLeftS S blanks = T) (hT : T ≠ []) : S ≠ [] := by intro e; subst e; exact hT h.symm

set_option maxHeartbeats 16000000 in
theorem rline_link (s : ByteArray) (w : World) (hE : Env w) (hs : s.size ≤ 1000000) (t name : List UInt8) (hname : name.head? ≠ some 94) (h : s.data.toList = 91 :: (name ++ 93 :: 58 :: t)) (hn : (93 : UInt8) ∉ name) : Calls Tryz.prog 9 #[.string s] w (LinePost s w) := by
  have HE := Lib.hid hE
  have HNE := Lib.hid hname
  clear hE hname
  have hsz0 : s.size = name.length + 2 + ((58 :: t)).length := by rw [Lib.size_eq, h]; simp; omega
  have h0 : 0 < s.size := by omega
  have he := empty_no h0
  obtain ⟨q, hq⟩ : ∃ q, s[0] = q := ⟨_, rfl⟩
  have q91 : q = 91 := by
    have := drop_at s 0 h0
    rw [List.drop_zero, hq, h] at this
    exact (List.cons.inj this).1.symm
  have t0 : ((q.toNat : Int) != 91) = false := by rw [q91]; rfl
  obtain ⟨k0, hk0⟩ : ∃ k, name.length + 1 = k := ⟨_, rfl⟩
  have hk0s : k0 < s.size := by omega
  have e93 : ∀ hh, s[k0]'hh = 93 := by
    intro hh
    subst hk0
    have hg := Lib.data_getElem? s (name.length + 1) hh
    rw [h, List.getElem?_cons_succ, List.getElem?_append_right (Nat.le_refl _), Nat.sub_self] at hg
    exact (Option.some.inj hg).symm
  have hks : k0 + 1 + ((58 :: t)).length = s.size := by omega
  have HX := Lib.hid (And.intro h (And.intro hn (And.intro hk0 e93)))
  have hb1 : Below w.heap.size w (w.alloc (.cells #[.string ⟨#[]⟩, .string ⟨#[]⟩, .string ⟨#[]⟩, .string ⟨#[]⟩, .bool false] 26)) := (Below.refl _ w).alloc (Nat.le_refl _) _
  have hz0 := zeroAt w
  obtain ⟨W1, hW1⟩ : ∃ W1, w.alloc (.cells #[.string ⟨#[]⟩, .string ⟨#[]⟩, .string ⟨#[]⟩, .string ⟨#[]⟩, .bool false] 26) = W1 := ⟨_, rfl⟩
  have hsz1 : w.heap.size < W1.heap.size := by rw [← hW1, World.size_alloc]; omega
  rw [hW1] at hb1 hz0
  obtain ⟨c0, c1, c2, c3, c4, f0, f1, f2, f3, f4⟩ := hz0
  clear h q91 hn hsz0 hk0 e93
  go_enter Tryz.func9, Tryz.ntmps9
  go_wp2_with fail
  clear t0 he hq
  go_loop [4] (fun u4 => ∃ k : Nat, 1 ≤ k ∧ k ≤ k0 ∧ u4 = .int .i64 k) (fun u4 => s.size - (intOf u4).toNat)
  case atStart => exact ⟨1, by omega, by have := HX.out.2.2.1; omega, rfl⟩
  case round =>
  obtain ⟨k, hk1, hk, rfl⟩ := hrel
  have hlt : k < s.size := by omega
  have hltI : (k : Int) < (s.size : Int) := by omega
  by_cases hkk : k < k0
  · obtain ⟨c, hc⟩ : ∃ c, s[k] = c := ⟨_, rfl⟩
    have hne : c ≠ 93 := by rw [← hc]; exact at_ne (x := name) (y := 93 :: (58 :: t)) HX.out.1 HX.out.2.1 k hk1 (by have := HX.out.2.2.1; omega) hlt
    have t1 : ((c.toNat : Int) != 93) = true := is_noB (d := 93) hne
    clear hne
    go_wp2_with fail
    go_round
    case rel => exact ⟨k + 1, by omega, by omega, by go_num⟩
    case measure => simp [intOf]; omega
  obtain rfl : k = k0 := by omega
  obtain ⟨c, hc⟩ : ∃ c, s[k] = c := ⟨_, rfl⟩
  have t1 : ((c.toNat : Int) != 93) = false := by rw [← hc, HX.out.2.2.2 hlt]; rfl
  have h2 : k + 1 < s.size := by simp at hks; omega
  have h2I : ¬ (s.size : Int) ≤ (k : Int) + 1 := by omega
  obtain ⟨d, hd⟩ : ∃ d, s[k + 1] = d := ⟨_, rfl⟩
  have hd58 : d = 58 := by
    have hg := Lib.data_getElem? s (k + 1) h2
    have hk2 := HX.out.2.2.1
    rw [hd, HX.out.1, List.getElem?_cons_succ, List.getElem?_append_right (by omega), show k - name.length = 1 by omega] at hg
    simpa using hg.symm
  have t2 : ((d.toNat : Int) != 58) = false := by rw [hd58]; rfl
  obtain ⟨NM, hNM⟩ : ∃ N : ByteArray, s.extract 1 k = N := ⟨_, rfl⟩
  have hNMl : NM.data.toList = name := by
    rw [← hNM, ext_list, HX.out.1, ← HX.out.2.2.1, List.take_succ_cons, List.tail_cons, List.take_left' rfl]
  obtain ⟨T, hT⟩ : ∃ T : ByteArray, s.extract (k + 2) s.size = T := ⟨_, rfl⟩
  have hTl : T.data.toList = t := by
    rw [← hT, Lib.extract_to_end, HX.out.1, ← HX.out.2.2.1, show name.length + 1 + 2 = (name.length + 2) + 1 by omega, List.drop_succ_cons, show name ++ 93 :: 58 :: t = (name ++ [93, 58]) ++ t by simp, List.drop_left' (by simp)]
  have hTz : T.size ≤ s.size := by rw [← hT]; simp
  have hNMz : NM.size ≤ s.size := by rw [Lib.size_eq, hNMl]; have := HX.out.2.2.1; omega
  have HNT := Lib.hid (And.intro hNMl hTl)
  clear hd58 hNMl hTl
  go_upto_block 2 with (fail)
  have HTT := Lib.hid hT
  clear t1 t2 hd hc hT
  go_cut [6] (fun u6 wc => ∃ S : ByteArray, u6 = .string S ∧ S.data.toList = Lib.trimLeftS t blanks ∧ S.size ≤ s.size ∧ wc = W1)
  case first =>
    go_wp2_with fail
    go_loop [6] (fun u6 => ∃ S : ByteArray, u6 = .string S ∧ S.size ≤ s.size ∧ Lib.trimLeftS S.data.toList blanks = Lib.trimLeftS t blanks) (fun u6 => strSize u6)
    case atStart => exact ⟨s.extract (k + 2) s.size, rfl, by rw [HTT.out]; exact hTz, by rw [HTT.out, HNT.out.2]⟩
    case round =>
      obtain ⟨S, rfl, hle, htr⟩ := hrel
      have HTR := Lib.hid htr
      clear htr
      by_cases h0 : 0 < S.size
      · have he := empty_no h0
        have hda := drop_at S 0 h0
        obtain ⟨y, hy⟩ : ∃ y, S[0] = y := ⟨_, rfl⟩
        rw [hy, List.drop_zero, Nat.zero_add] at hda
        have HDA := Lib.hid hda
        clear hda
        obtain ⟨b, hb⟩ : ∃ b, blanks.contains y = b := ⟨_, rfl⟩
        have HG := Lib.hid (rgap_is hb)
        have HB := Lib.hid hb
        clear hb
        go_wp2_with fail
        refine (HG.out _).mono ?_
        rintro e w' ⟨rfl, rfl⟩
        cases b
        · have HST := Lib.hid (trimL_end HTR.out HDA.out HB.out)
          go_wp2_with fail
          go_meet
          case rel => exact ⟨S, rfl, HST.out, hle, rfl⟩
        · have HST := Lib.hid (trimL_step HTR.out HDA.out HB.out)
          go_wp2_with fail
          go_round
          case rel => exact ⟨_, rfl, by rw [Lib.size_eq, ext_drop1]; simp; omega, by rw [ext_drop1]; exact HST.out⟩
          case measure => simp only [strSize]; rw [Lib.size_eq, ext_drop1]; simp; omega
      · have he := empty_yes (s := S) (by omega)
        have hnil : S.data.toList = [] := List.eq_nil_of_length_eq_zero (by rw [← Lib.size_eq]; omega)
        have HST := Lib.hid (show S.data.toList = Lib.trimLeftS t blanks by rw [← HTR.out, hnil]; rfl)
        clear hnil
        go_wp2_with fail
        go_meet
        case rel => exact ⟨S, rfl, HST.out, hle, rfl⟩
  case rest =>
  obtain ⟨S, rfl, hSl, hSz, rfl⟩ := hcut
  have hLO : lineL s.data.toList = lineOf name S.data.toList := by rw [HX.out.1, line_open name t HX.out.2.1, hSl]; rfl
  have HLO := Lib.hid hLO
  clear hSl hLO
  have hA : NM.toList.isEmpty = true ∨ (NM.toList.isEmpty = false ∧ ∃ y : UInt8, (∀ hh, NM[0]'hh = y) ∧ ((y.toNat : Int) == 94) = false ∧ 0 < NM.size) := by
    by_cases hN0 : 0 < NM.size
    · refine .inr ⟨empty_no hN0, NM[0], fun _ => rfl, is_no (d := 94) (fun e => ?_), hN0⟩
      have := drop_at NM 0 hN0
      rw [List.drop_zero, e, HNT.out.1] at this
      exact HNE.out (by rw [this]; rfl)
    · exact .inl (empty_yes (by omega))
  have hrn := rname_any NM wc (HE.out.below hb1) (by omega)
  rw [HNT.out.1] at hrn
  obtain ⟨a, ok, hnl⟩ : ∃ a ok, nameL name = (a, ok) := ⟨_, _, rfl⟩
  rw [hnl] at hrn
  simp only at hrn
  have HRN := Lib.hid hrn
  have hrd := fun W => rdest_any S W (by omega)
  have hdl := dest_le S.data.toList
  obtain ⟨url, m, is, hds⟩ : ∃ url m is, dest S.data.toList = (url, m, is) := ⟨_, _, _, rfl⟩
  rw [hds] at hrd hdl
  simp only at hrd hdl
  rw [← Lib.size_eq] at hdl
  have HRD := Lib.hid hrd
  have HDS := Lib.hid hds
  have hlo : lineL s.data.toList = if (linkL S.data.toList).2.2 = true ∧ ok = true then (⟨a, (linkL S.data.toList).1, (linkL S.data.toList).2.1, [], false⟩, true) else (DefL.none, false) := by
    rw [HLO.out, lineOf_link _ _ HNE.out, hnl]
  have hz0 : DefAt wc w.heap.size (.string ⟨#[]⟩) (.string ⟨#[]⟩) (.string ⟨#[]⟩) (.string ⟨#[]⟩) (.bool false) := ⟨c0, c1, c2, c3, c4, f0, f1, f2, f3, f4⟩
  have HZ := Lib.hid hz0
  clear hrn hnl hz0 c0 c1 c2 c3 c4 f0 f1 f2 f3 f4 hrd hds
  rcases hA with heN | ⟨heN, y, hy, t4, hN0⟩
  all_goals
    go_wp2_with fail
    refine HRN.out.mono ?_
    rintro e w2 ⟨rfl, b2⟩
    have hz2 := HZ.out.below b2 hsz1
    have hb2 := below_step hb1 b2
    have hsz2 : w.heap.size < w2.heap.size := by have := b2.size; omega
    clear b2 HRN hNM
    go_wp2_with fail
    refine (HRD.out _).mono ?_
    rintro e w3 ⟨rfl, b3⟩
    have hz3 := hz2.below b3 hsz2
    have hb3 := below_step hb2 b3
    have hsz3 : w.heap.size < w3.heap.size := by have := b3.size; omega
    clear b3 hz2 hb2 hsz2 HRD
    cases ok
    · have HQ := Lib.hid (hlo.trans (if_neg (by simp)))
      obtain ⟨c0, c1, c2, c3, c4, f0, f1, f2, f3, f4⟩ := hz3
      clear hlo
      go_wp2_with fail
      refine bodyPost_ret (v := .tuple #[.agg #[.string ⟨#[]⟩, .string ⟨#[]⟩, .string ⟨#[]⟩, .string ⟨#[]⟩, .bool false], .bool false]) (by simp [results, Tryz.results9, go_sem, c0, c1, c2, c3, c4, f0, f1, f2, f3, f4]) rfl (line_end HQ.out rfl (below_def hb3))
    · cases is
      · have HQ := Lib.hid (hlo.trans (if_neg (by rw [link_no HDS.out]; simp)))
        obtain ⟨c0, c1, c2, c3, c4, f0, f1, f2, f3, f4⟩ := hz3
        clear hlo
        go_wp2_with fail
        refine bodyPost_ret (v := .tuple #[.agg #[.string ⟨#[]⟩, .string ⟨#[]⟩, .string ⟨#[]⟩, .string ⟨#[]⟩, .bool false], .bool false]) (by simp [results, Tryz.results9, go_sem, c0, c1, c2, c3, c4, f0, f1, f2, f3, f4]) rfl (line_end HQ.out rfl (below_def hb3))
      · obtain ⟨T2, hT2⟩ : ∃ X : ByteArray, S.extract m S.size = X := ⟨_, rfl⟩
        have hT2l : T2.data.toList = S.data.toList.drop m := by rw [← hT2, ext_drop]
        have hT2z : T2.size ≤ S.size := by rw [← hT2]; simp
        have HT2 := Lib.hid hT2l
        clear hT2l
        obtain ⟨bl, hbl⟩ : ∃ b, blankL T2.data.toList = b := ⟨_, rfl⟩
        have HBL := Lib.hid (fun W => rblank_is hbl W (by omega))
        have HBE := Lib.hid hbl
        clear hbl
        cases bl
        · -- something stands behind the target
          have hne : Lib.trimLeftS T2.data.toList blanks ≠ [] := by
            intro h0
            have := HBE.out
            unfold blankL at this
            rw [h0] at this
            simp at this
          have hT20 : 0 < T2.size := by
            have := trim_ne rfl hne
            rw [Lib.size_eq]; exact List.length_pos_iff.2 this
          have hda := drop_at T2 0 hT20
          obtain ⟨c, hc⟩ : ∃ c, T2[0] = c := ⟨_, rfl⟩
          rw [hc, List.drop_zero, Nat.zero_add] at hda
          obtain ⟨g, hg⟩ : ∃ g, blanks.contains c = g := ⟨_, rfl⟩
          have HG := Lib.hid (rgap_is hg)
          have HGE := Lib.hid (And.intro hg hda)
          have HNEX := Lib.hid hne
          clear hg hda hne
          cases g
          · have HQ := Lib.hid (hlo.trans (if_neg (by
              rintro ⟨h1, _⟩
              obtain ⟨ti, m2, is2, ht⟩ : ∃ ti m2 is2, title (Lib.trimLeftS (S.data.toList.drop m) blanks) = (ti, m2, is2) := ⟨_, _, _, rfl⟩
              rw [link_full HDS.out (by rw [← HT2.out]; exact HBE.out) rfl ht, if_neg (by
                rintro ⟨_, h2, _⟩
                rw [← HT2.out, HGE.out.2, behind_nogap HGE.out.1] at h2
                cases h2)] at h1
              cases h1)))
            obtain ⟨c0, c1, c2, c3, c4, f0, f1, f2, f3, f4⟩ := hz3
            clear hlo
            go_wp2_with fail
            refine (HBL.out _).mono ?_
            rintro e w' ⟨rfl, rfl⟩
            go_wp2_with fail
            refine (HG.out _).mono ?_
            rintro e w' ⟨rfl, rfl⟩
            go_wp2_with fail
            refine bodyPost_ret (v := .tuple #[.agg #[.string ⟨#[]⟩, .string ⟨#[]⟩, .string ⟨#[]⟩, .string ⟨#[]⟩, .bool false], .bool false]) (by simp [results, Tryz.results9, go_sem, c0, c1, c2, c3, c4, f0, f1, f2, f3, f4]) rfl (line_end HQ.out rfl (below_def hb3))
          · have HZ3 := Lib.hid hz3
            clear hz3
            go_wp2_with fail
            refine (HBL.out _).mono ?_
            rintro e w' ⟨rfl, rfl⟩
            go_wp2_with fail
            refine (HG.out _).mono ?_
            rintro e w' ⟨rfl, rfl⟩
            clear hc
            go_wp2_with fail
            go_loop [6] (fun u6 => ∃ X : ByteArray, u6 = .string X ∧ X.size ≤ T2.size ∧ Lib.trimLeftS X.data.toList blanks = Lib.trimLeftS T2.data.toList blanks) (fun u6 => strSize u6)
            case atStart => exact ⟨T2, rfl, Nat.le_refl _, rfl⟩
            case round =>
              obtain ⟨X, rfl, hXz, hXt⟩ := hrel
              have hX0 : 0 < X.size := by
                have := trim_ne hXt HNEX.out
                rw [Lib.size_eq]; exact List.length_pos_iff.2 this
              have hdx := drop_at X 0 hX0
              obtain ⟨cx, hcx⟩ : ∃ c, X[0] = c := ⟨_, rfl⟩
              rw [hcx, List.drop_zero, Nat.zero_add] at hdx
              have HDX := Lib.hid hdx
              have HXT := Lib.hid hXt
              obtain ⟨gx, hgx⟩ : ∃ g, blanks.contains cx = g := ⟨_, rfl⟩
              have HGX := Lib.hid (rgap_is hgx)
              have HGXE := Lib.hid hgx
              clear hdx hXt hgx
              cases gx
              · have hxl := trimL_end HXT.out HDX.out HGXE.out
                have hrt := fun W => rtitle_any X W (by omega)
                have htl := title_le X.data.toList
                obtain ⟨ti, m2, is2, hti⟩ : ∃ ti m2 is2, title X.data.toList = (ti, m2, is2) := ⟨_, _, _, rfl⟩
                rw [hti] at hrt htl
                simp only at hrt htl
                rw [← Lib.size_eq] at htl
                have HRT := Lib.hid hrt
                have hlf := link_full HDS.out (by rw [← HT2.out]; exact HBE.out) (x := X.data.toList) (by rw [← HT2.out]; exact hxl.symm) hti
                rw [← HT2.out, HGE.out.2, behind_gap HGE.out.1] at hlf
                have HLF := Lib.hid hlf
                clear hrt hti hlf hxl
                go_wp2_with fail
                refine (HGX.out _).mono ?_
                rintro e w' ⟨rfl, rfl⟩
                go_wp2_with fail
                refine (HRT.out _).mono ?_
                rintro e w4 ⟨rfl, b4⟩
                obtain ⟨c0, c1, c2, c3, c4, f0, f1, f2, f3, f4⟩ := HZ3.out.below b4 hsz3
                have hb4 := below_step hb3 b4
                clear b4 HRT hcx
                cases is2
                · have HQ := Lib.hid (hlo.trans (if_neg (by rw [HLF.out, if_neg (by simp)]; simp)))
                  clear hlo
                  go_wp2_with fail
                  refine bodyPost_ret (v := .tuple #[.agg #[.string ⟨#[]⟩, .string ⟨#[]⟩, .string ⟨#[]⟩, .string ⟨#[]⟩, .bool false], .bool false]) (by simp [results, Tryz.results9, go_sem, c0, c1, c2, c3, c4, f0, f1, f2, f3, f4]) rfl (line_end HQ.out rfl (below_def hb4))
                · obtain ⟨T3, hT3⟩ : ∃ Y : ByteArray, X.extract m2 X.size = Y := ⟨_, rfl⟩
                  have hT3l : T3.data.toList = X.data.toList.drop m2 := by rw [← hT3, ext_drop]
                  have hT3z : T3.size ≤ X.size := by rw [← hT3]; simp
                  obtain ⟨bl3, hbl3⟩ : ∃ b, blankL T3.data.toList = b := ⟨_, rfl⟩
                  have HBL3 := Lib.hid (fun W => rblank_is hbl3 W (by omega))
                  rw [hT3l] at hbl3
                  cases bl3
                  · have HQ := Lib.hid (hlo.trans (if_neg (by rw [HLF.out, if_neg (by rw [hbl3]; simp)]; simp)))
                    clear hlo hbl3 hT3l
                    go_wp2_with fail
                    refine (HBL3.out _).mono ?_
                    rintro e w' ⟨rfl, rfl⟩
                    go_wp2_with fail
                    refine bodyPost_ret (v := .tuple #[.agg #[.string ⟨#[]⟩, .string ⟨#[]⟩, .string ⟨#[]⟩, .string ⟨#[]⟩, .bool false], .bool false]) (by simp [results, Tryz.results9, go_sem, c0, c1, c2, c3, c4, f0, f1, f2, f3, f4]) rfl (line_end HQ.out rfl (below_def hb4))
                  · have HQ := Lib.hid (show lineL s.data.toList = (⟨a, url, ti, [], false⟩, true) by
                      rw [hlo, HLF.out]
                      simp [hbl3])
                    clear hlo hbl3 hT3l
                    go_wp2_with fail
                    refine (HBL3.out _).mono ?_
                    rintro e w' ⟨rfl, rfl⟩
                    go_wp2_with fail
                    refine bodyPost_ret (v := .tuple #[.agg #[.string ⟨a.toArray⟩, .string ⟨url.toArray⟩, .string ⟨ti.toArray⟩, .string ⟨#[]⟩, .bool false], .bool true]) (by simp [results, Tryz.results9, go_sem, c0, c1, c2, c3, c4, f0, f1, f2, f3, f4]) rfl (line_end HQ.out rfl (below_def hb4))
              · have HST := Lib.hid (trimL_step HXT.out HDX.out HGXE.out)
                go_wp2_with fail
                refine (HGX.out _).mono ?_
                rintro e w' ⟨rfl, rfl⟩
                go_wp2_with fail
                go_round
                case rel => exact ⟨_, rfl, by rw [Lib.size_eq, ext_drop1]; simp; omega, by rw [ext_drop1]; exact HST.out⟩
                case measure => simp only [strSize]; rw [Lib.size_eq, ext_drop1]; simp; omega
        · have HQ := Lib.hid (show lineL s.data.toList = (⟨a, url, [], [], false⟩, true) by
            rw [hlo, link_bare2 HDS.out (by rw [← HT2.out]; exact HBE.out)]
            simp)
          obtain ⟨c0, c1, c2, c3, c4, f0, f1, f2, f3, f4⟩ := hz3
          clear hlo
          go_wp2_with fail
          refine (HBL.out _).mono ?_
          rintro e w' ⟨rfl, rfl⟩
          go_wp2_with fail
          refine bodyPost_ret (v := .tuple #[.agg #[.string ⟨a.toArray⟩, .string ⟨url.toArray⟩, .string ⟨#[]⟩, .string ⟨#[]⟩, .bool false], .bool true]) (by simp [results, Tryz.results9, go_sem, c0, c1, c2, c3, c4, f0, f1, f2, f3, f4]) rfl (line_end HQ.out rfl (below_def hb3))

theorem rline_any (s : ByteArray) (w : World) (hE : Env w) (hs : s.size ≤ 1000000) : Calls Tryz.prog 9 #[.string s] w (LinePost s w) := by
  by_cases h91 : s.data.toList.head? = some 91
  · obtain ⟨x, hx⟩ : ∃ x, s.data.toList = 91 :: x := by
      cases hl : s.data.toList with
      | nil => rw [hl] at h91; cases h91
      | cons c x => rw [hl] at h91; simp at h91; exact ⟨x, by rw [h91]⟩
    by_cases h93 : (93 : UInt8) ∈ x
    · obtain ⟨name, rest, hxe, hn⟩ := split_first 93 x h93
      rw [hxe] at hx
      by_cases h58 : rest.head? = some 58
      · obtain ⟨t, ht⟩ : ∃ t, rest = 58 :: t := by
          cases rest with
          | nil => cases h58
          | cons c t => simp at h58; exact ⟨t, by rw [h58]⟩
        rw [ht] at hx
        by_cases h94 : name.head? = some 94
        · obtain ⟨nm, hnm⟩ : ∃ nm, name = 94 :: nm := by
            cases name with
            | nil => cases h94
            | cons c nm => simp at h94; exact ⟨nm, by rw [h94]⟩
          exact rline_note s w hE hs nm t name hnm hx hn
        · exact rline_link s w hE hs t name h94 hx hn
      · exact rline_colon s w hs name rest hx hn h58
    · exact rline_shut s w hs x hx h93
  · exact rline_head s w hs h91

end Go.Proofs.YtnlmfoccdmkncaaGreatDoor
