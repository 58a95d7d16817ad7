/-
  bowdlerref1.Order.least: the least one above both, or the greatest one below both.
-/
import Derived.Test.YtehfjlonpnanoaaLatEdge
namespace Go.Proofs.Ytehfjlonpnanoaa
open Go.RowKit
set_option maxRecDepth 100000
set_option linter.unusedVariables false
set_option linter.unusedSimpArgs false

def comTo (R : Nat → Nat → Bool) (a b : Nat) (up : Bool) (k : Nat) : List Nat := comL R k a b up
theorem comTo_succ (R : Nat → Nat → Bool) (a b : Nat) (up : Bool) (k : Nat) : comTo R a b up (k + 1) = comTo R a b up k ++ if (leqF R up a k && leqF R up b k) = true then [k] else [] := by
  unfold comTo comL
  rw [List.range_succ, List.filter_append]
  congr 1
  by_cases h : (leqF R up a k && leqF R up b k) = true
  · rw [if_pos h, List.filter_cons, if_pos h]; rfl
  · rw [if_neg h, List.filter_cons, if_neg h]; rfl
theorem comTo_lt (R : Nat → Nat → Bool) (a b : Nat) (up : Bool) (k : Nat) : ∀ x ∈ comTo R a b up k, x < k := fun x hx => List.mem_range.1 (List.mem_filter.1 hx).1
theorem comTo_len (R : Nat → Nat → Bool) (a b : Nat) (up : Bool) (k : Nat) : (comTo R a b up k).length ≤ k := by
  have := List.length_filter_le (fun x => leqF R up a x && leqF R up b x) (List.range k)
  rw [List.length_range] at this
  exact this
def intsOf (l : List Nat) : List Value := l.map fun (x : Nat) => Value.int .i64 (x : Int)
theorem own_val {w : World} {base : Nat} {e : TypeId} {v : Value} {n : Nat} {xs : List Value} (h : w.ownsRow base e 1 v n xs) : ∃ ao c, v = .slice ao n c ∧ (0 < n → ∃ g, ao = some ⟨g, 0, none⟩ ∧ ∀ j u, xs[j]? = some u → w.cell? ⟨g, j, none⟩ = some u) := by
  rcases h.2 with ⟨rfl, rfl⟩ | ⟨g, cap, cur, rfl, hb, hg, r⟩
  · exact ⟨none, 0, rfl, fun h => absurd h (by omega)⟩
  · refine ⟨_, cap, rfl, fun _ => ⟨g, rfl, fun j u hu => ?_⟩⟩
    have := World.ownsRow.cells h rfl j u hu
    have e : (⟨g, 0, none⟩ : Addr).add j = ⟨g, j, none⟩ := by unfold Addr.add; split <;> simp_all
    rw [e] at this
    exact this
theorem list_find (p : Nat → Bool) : ∀ (l : List Nat) (i x : Nat), l[i]? = some x → (∀ j y, j < i → l[j]? = some y → p y = false) → p x = true → l.find? p = some x
  | [], i, x, h, _, _ => by simp at h
  | y :: l, 0, x, h, _, hp => by simp at h; subst h; rw [List.find?_cons, hp]
  | y :: l, i + 1, x, h, hno, hp => by
    rw [List.find?_cons, hno 0 y (by omega) rfl]
    exact list_find p l i x (by simpa using h) (fun j z hj hz => hno (j + 1) z (by omega) (by simpa using hz)) hp
def allTo (R : Nat → Nat → Bool) (up : Bool) (l : List Nat) (x j : Nat) : Bool := (l.take j).all fun y => leqF R up x y
theorem allTo_succ (R : Nat → Nat → Bool) (up : Bool) (l : List Nat) (x j y : Nat) (h : l[j]? = some y) : allTo R up l x (j + 1) = (allTo R up l x j && leqF R up x y) := by
  obtain ⟨hlt, he⟩ := List.getElem?_eq_some_iff.1 h
  unfold allTo
  rw [List.take_succ_eq_append_getElem hlt, List.all_append, he]
  simp

theorem below_drewL {B : Nat} {a w : World} (h : Below B a w) (n : Nat) : Below B a (w.drewN n) := ⟨h.os, h.tape, h.output, h.size, h.block⟩


set_option maxHeartbeats 8000000 in
theorem least_any (p n a b : Nat) (R : Nat → Nat → Bool) (up : Bool) (w : World) (hn : n ≤ 64) (ha : a < n) (hb : b < n) (h : RefAt w p n R) :
    Calls Try.prog 15 #[.pointer (some ⟨p, 0, none⟩), .int .i64 a, .int .i64 b, .bool up] w fun e w' => e = .returned (.int .i64 (leastF R n a b up)) ∧ Below w.heap.size w w' := by
  have HH := Lib.hid h
  clear h
  go_enter Try.func15, Try.ntmps15
  go_wp2_with fail
  go_loopw [9, 10] (fun u9 u10 wr => ∃ x : Nat, x ≤ n ∧ u10 = .int .i64 x ∧ wr.ownsRow w.heap.size 3 1 u9 (comTo R a b up x).length (intsOf (comTo R a b up x)) ∧ Below w.heap.size w wr) (fun _ u10 _ => n - (intOf u10).toNat)
  case atStart => exact ⟨0, Nat.zero_le _, rfl, (show World.ownsRow w w.heap.size 3 1 (.slice none 0 0) 0 [] from World.ownsRow_nil _ _ _ _), Below.refl _ _⟩
  case round =>
    obtain ⟨x, hx, rfl, hown, hB⟩ := hrel
    have hr := HH.out.below hB
    have p0 := hr.num
    obtain ⟨bo, c, p1, hrows⟩ := hr.rows
    have HR := Lib.hid hrows
    have HO := Lib.hid hown
    clear hr hrows hown
    by_cases hxn : x < n
    · obtain ⟨bx, cx, x1, x2⟩ := HR.out x hxn
      obtain ⟨ba, ca, a1, a2⟩ := HR.out a ha
      obtain ⟨bb, cb, b1, b2⟩ := HR.out b hb
      have xa := x2 a ha
      have xb := x2 b hb
      have ax := a2 x hxn
      have bx' := b2 x hxn
      clear x2 a2 b2
      cases up
      · obtain ⟨q1, he1⟩ : ∃ q, R x a = q := ⟨_, rfl⟩
        obtain ⟨q2, he2⟩ : ∃ q, R x b = q := ⟨_, rfl⟩
        rw [he1] at xa
        rw [he2] at xb
        have hc0 := comTo_succ R a b false x
        rw [show leqF R false a x = R x a from rfl, show leqF R false b x = R x b from rfl, he1, he2] at hc0
        cases q1
        · have HC := Lib.hid (show comTo R a b false (x + 1) = comTo R a b false x by rw [hc0]; simp)
          clear hc0 he1 he2
          go_wp2_with fail
          go_roundw
          case rel => exact ⟨x + 1, by omega, by go_num, by rw [HC.out]; exact HO.out, hB⟩
          case measure => simp [intOf]; omega
        · cases q2
          · have HC := Lib.hid (show comTo R a b false (x + 1) = comTo R a b false x by rw [hc0]; simp)
            clear hc0 he1 he2
            go_wp2_with fail
            go_roundw
            case rel => exact ⟨x + 1, by omega, by go_num, by rw [HC.out]; exact HO.out, hB⟩
            case measure => simp [intOf]; omega
          · have HC := Lib.hid (show comTo R a b false (x + 1) = comTo R a b false x ++ [x] by rw [hc0]; simp)
            clear hc0 he1 he2
            have hown1 := HO.out.alloc (.cells #[.int .i64 (x : Int)] 3)
            have hcl := comTo_len R a b false x
            obtain ⟨j0, hj, hy0, hy1, hy2⟩ := info_parts Try.infoInt
            have HOW := Lib.hid hown1
            clear hown1
            go_wp2_with (first
              | (at_builtin; refine wpList_append_own _ rfl _ _ 39 rfl w.heap.size 3 j0 (.int .i64 0) 1 8 Try.underlying39 hj hy0 hy1 hy2 rfl (by decide) _ _ _ rfl HOW.out ⟨wr.heap.size, 0, none⟩ 1 1 [.int .i64 (x : Int)] rfl rfl (one_new wr _ _) (by intro u hu; simp at hu; subst hu; rfl) (by unfold maxLen; omega) (by omega) (by have := hB.size; simp; omega) ?_))
            intro v' w2 hown' hgrow _
            have hB2 := (hB.alloc hB.size (.cells #[.int .i64 (x : Int)] 3)).grown hgrow (by have := hB.size; simp; omega) (fun j hj => (HOW.out.lt j hj).1)
            have HN := Lib.hid (And.intro (show World.ownsRow w2 w.heap.size 3 1 v' (comTo R a b false (x + 1)).length (intsOf (comTo R a b false (x + 1))) by
              rw [HC.out, List.length_append]
              unfold intsOf at *
              rw [List.map_append]
              exact hown') hB2)
            clear hown' hgrow hB2
            go_wp2_with fail
            go_roundw
            case rel => exact ⟨x + 1, by omega, by go_num, HN.out.1, HN.out.2⟩
            case measure => simp [intOf]; omega
      · obtain ⟨q1, he1⟩ : ∃ q, R a x = q := ⟨_, rfl⟩
        obtain ⟨q2, he2⟩ : ∃ q, R b x = q := ⟨_, rfl⟩
        rw [he1] at ax
        rw [he2] at bx'
        have hc0 := comTo_succ R a b true x
        rw [show leqF R true a x = R a x from rfl, show leqF R true b x = R b x from rfl, he1, he2] at hc0
        cases q1
        · have HC := Lib.hid (show comTo R a b true (x + 1) = comTo R a b true x by rw [hc0]; simp)
          clear hc0 he1 he2
          go_wp2_with fail
          go_roundw
          case rel => exact ⟨x + 1, by omega, by go_num, by rw [HC.out]; exact HO.out, hB⟩
          case measure => simp [intOf]; omega
        · cases q2
          · have HC := Lib.hid (show comTo R a b true (x + 1) = comTo R a b true x by rw [hc0]; simp)
            clear hc0 he1 he2
            go_wp2_with fail
            go_roundw
            case rel => exact ⟨x + 1, by omega, by go_num, by rw [HC.out]; exact HO.out, hB⟩
            case measure => simp [intOf]; omega
          · have HC := Lib.hid (show comTo R a b true (x + 1) = comTo R a b true x ++ [x] by rw [hc0]; simp)
            clear hc0 he1 he2
            have hown1 := HO.out.alloc (.cells #[.int .i64 (x : Int)] 3)
            have hcl := comTo_len R a b true x
            obtain ⟨j0, hj, hy0, hy1, hy2⟩ := info_parts Try.infoInt
            have HOW := Lib.hid hown1
            clear hown1
            go_wp2_with (first
              | (at_builtin; refine wpList_append_own _ rfl _ _ 39 rfl w.heap.size 3 j0 (.int .i64 0) 1 8 Try.underlying39 hj hy0 hy1 hy2 rfl (by decide) _ _ _ rfl HOW.out ⟨wr.heap.size, 0, none⟩ 1 1 [.int .i64 (x : Int)] rfl rfl (one_new wr _ _) (by intro u hu; simp at hu; subst hu; rfl) (by unfold maxLen; omega) (by omega) (by have := hB.size; simp; omega) ?_))
            intro v' w2 hown' hgrow _
            have hB2 := (hB.alloc hB.size (.cells #[.int .i64 (x : Int)] 3)).grown hgrow (by have := hB.size; simp; omega) (fun j hj => (HOW.out.lt j hj).1)
            have HN := Lib.hid (And.intro (show World.ownsRow w2 w.heap.size 3 1 v' (comTo R a b true (x + 1)).length (intsOf (comTo R a b true (x + 1))) by
              rw [HC.out, List.length_append]
              unfold intsOf at *
              rw [List.map_append]
              exact hown') hB2)
            clear hown' hgrow hB2
            go_wp2_with fail
            go_roundw
            case rel => exact ⟨x + 1, by omega, by go_num, HN.out.1, HN.out.2⟩
            case measure => simp [intOf]; omega
    · obtain rfl : x = n := by omega
      obtain ⟨ao, cl, hv, hcells⟩ := own_val HO.out
      subst hv
      have hlt := comTo_lt R a b up x
      have hlen := comTo_len R a b up x
      obtain ⟨l, hl⟩ : ∃ l, comTo R a b up x = l := ⟨_, rfl⟩
      have HF := Lib.hid (show leastF R x a b up = optI (leastO l R up) by rw [← hl]; rfl)
      rw [hl] at hcells hlt hlen ⊢
      have HC := Lib.hid (fun (j y : Nat) (hy : l[j]? = some y) => by
        have hj : j < l.length := (List.getElem?_eq_some_iff.1 hy).1
        obtain ⟨g, hg, hc⟩ := hcells (by omega)
        exact (show ∃ g, ao = some ⟨g, 0, none⟩ ∧ wr.cell? ⟨g, j, none⟩ = some (.int .i64 (y : Int)) from ⟨g, hg, hc j _ (by unfold intsOf; rw [List.getElem?_map, hy]; rfl)⟩))
      have HLT := Lib.hid hlt
      clear hcells hlt HO hl
      go_wp2_with fail
      have HRW := Lib.hid (HH.out.below hB)
      clear p0 p1
      go_loopw [11] (fun u11 w2 => ∃ i : Nat, i ≤ l.length ∧ u11 = .int .i64 i ∧ (∀ j y, j < i → l[j]? = some y → allTo R up l y l.length = false) ∧ Below wr.heap.size wr w2) (fun u11 _ => l.length - (intOf u11).toNat)
      case atStart => exact ⟨0, Nat.zero_le _, rfl, (fun j y hj _ => absurd hj (by omega)), Below.refl _ _⟩
      case round =>
        rename World => W2
        obtain ⟨i, hi, rfl, hno, hb1⟩ := hrel
        have HNO := Lib.hid hno
        clear hno
        by_cases hil : i < l.length
        · obtain ⟨x1, hx1⟩ : ∃ y, l[i]? = some y := ⟨l[i], by simp [hil]⟩
          obtain ⟨g, hg, ci0⟩ := HC.out i x1 hx1
          subst hg
          have hx1n := HLT.out x1 (List.mem_of_getElem? hx1)
          have HX1 := Lib.hid hx1
          have hgl : g < wr.heap.size := World.block_lt_of_cell? _ _ ci0
          clear hx1
          go_wp2_with fail
          go_loopw [12, 13] (fun u12 u13 wq => ∃ j : Nat, j ≤ l.length ∧ u13 = .int .i64 j ∧ u12 = .bool (allTo R up l x1 j) ∧ Below wr.heap.size wr wq) (fun _ u13 _ => l.length - (intOf u13).toNat)
          case atStart => exact ⟨0, Nat.zero_le _, rfl, rfl, hb1⟩
          case round =>
            rename World => wq
            obtain ⟨j, hj, rfl, rfl, hb2⟩ := hrel
            have ci := (hb2.cell (p := ⟨g, i, none⟩) hgl).trans ci0
            by_cases hjl : j < l.length
            · obtain ⟨y, hy⟩ : ∃ y, l[j]? = some y := ⟨l[j], by simp [hjl]⟩
              obtain ⟨g2, hg2, cj0⟩ := HC.out j y hy
              injection hg2 with hg2
              injection hg2 with hg2
              subst hg2
              have hyn := HLT.out y (List.mem_of_getElem? hy)
              have cj := (hb2.cell (p := ⟨g, j, none⟩) hgl).trans cj0
              have hst := allTo_succ R up l x1 j y hy
              have hr2 := HRW.out.below hb2
              have p0 := hr2.num
              obtain ⟨bo2, c2, p1, hrows⟩ := hr2.rows
              obtain ⟨bx, cx, x1a, x1b⟩ := hrows x1 hx1n
              obtain ⟨by_, cy, y1a, y1b⟩ := hrows y hyn
              have xy := x1b y hyn
              have yx := y1b x1 hx1n
              clear hr2 hrows x1b y1b hy cj0
              obtain ⟨ok, hq⟩ : ∃ b, allTo R up l x1 j = b := ⟨_, rfl⟩
              rw [hq] at hst ⊢
              cases ok
              · rw [Bool.false_and] at hst
                have HS := Lib.hid hst
                clear hst hq
                go_wp2_with fail
                go_quiet (fail)
                go_wp2_with fail
                go_roundw
                case rel => exact ⟨j + 1, by omega, by go_num, by rw [HS.out], below_drewL hb2 nq⟩
                case measure => simp [intOf]; omega
              · rw [Bool.true_and] at hst
                cases up
                · obtain ⟨q, hr⟩ : ∃ b, R y x1 = b := ⟨_, rfl⟩
                  rw [show leqF R false x1 y = R y x1 from rfl, hr] at hst
                  rw [hr] at yx
                  clear hr
                  cases q
                  · have HS := Lib.hid hst
                    clear hst hq
                    go_wp2_with fail
                    go_quiet (fail)
                    go_wp2_with fail
                    go_roundw
                    case rel => exact ⟨j + 1, by omega, by go_num, by rw [HS.out], below_drewL hb2 nq⟩
                    case measure => simp [intOf]; omega
                  · have HS := Lib.hid hst
                    clear hst hq
                    go_wp2_with fail
                    go_quiet (fail)
                    go_wp2_with fail
                    go_roundw
                    case rel => exact ⟨j + 1, by omega, by go_num, by rw [HS.out], below_drewL hb2 nq⟩
                    case measure => simp [intOf]; omega
                · obtain ⟨q, hr⟩ : ∃ b, R x1 y = b := ⟨_, rfl⟩
                  rw [show leqF R true x1 y = R x1 y from rfl, hr] at hst
                  rw [hr] at xy
                  clear hr
                  cases q
                  · have HS := Lib.hid hst
                    clear hst hq
                    go_wp2_with fail
                    go_quiet (fail)
                    go_wp2_with fail
                    go_roundw
                    case rel => exact ⟨j + 1, by omega, by go_num, by rw [HS.out], below_drewL hb2 nq⟩
                    case measure => simp [intOf]; omega
                  · have HS := Lib.hid hst
                    clear hst hq
                    go_wp2_with fail
                    go_quiet (fail)
                    go_wp2_with fail
                    go_roundw
                    case rel => exact ⟨j + 1, by omega, by go_num, by rw [HS.out], below_drewL hb2 nq⟩
                    case measure => simp [intOf]; omega
            · obtain rfl : j = l.length := by omega
              obtain ⟨ok, hq⟩ : ∃ b, allTo R up l x1 l.length = b := ⟨_, rfl⟩
              rw [hq]
              cases ok
              · have HQ := Lib.hid (show ∀ j y, j < i + 1 → l[j]? = some y → allTo R up l y l.length = false from fun j y hj hy => by
                  by_cases e : j = i
                  · subst e
                    have := HX1.out
                    rw [hy] at this
                    obtain rfl := Option.some.inj this
                    exact hq
                  · exact HNO.out j y (by omega) hy)
                clear hq
                go_wp2_with fail
                go_roundw
                case rel => exact ⟨i + 1, by omega, by go_num, HQ.out, hb2⟩
                case measure => simp [intOf]; omega
              · have HQ := Lib.hid (show leastF R x a b up = x1 by
                  rw [HF.out]
                  unfold leastO
                  rw [list_find _ l i x1 HX1.out (fun j y hj hy => by
                    have := HNO.out j y hj hy
                    unfold allTo at this
                    rw [List.take_length] at this
                    exact this) (by
                    unfold allTo at hq
                    rw [List.take_length] at hq
                    exact hq)]
                  rfl)
                clear hq
                go_wp2_with fail
                go_ret
                exact ⟨by rw [HQ.out]; rfl, hB.trans (hb2.mono hB.size)⟩
        · obtain rfl : i = l.length := by omega
          have HQ := Lib.hid (show leastF R x a b up = -1 by
            rw [HF.out]
            unfold leastO
            rw [List.find?_eq_none.2 fun z hz => by
              obtain ⟨j, hj, rfl⟩ := List.mem_iff_getElem.1 hz
              have := HNO.out j l[j] hj (by simp [hj])
              unfold allTo at this
              rw [List.take_length] at this
              rw [this]; simp]
            rfl)
          go_wp2_with fail
          go_ret
          exact ⟨by rw [HQ.out]; rfl, hB.trans (hb1.mono hB.size)⟩

end Go.Proofs.Ytehfjlonpnanoaa
