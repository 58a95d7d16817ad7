/-
  append onto a slice that the call owns, from whatever slice, as one step of a region that draws its order.
-/
import Derived.Test.YtehfjlonpnanoaaLatOpen
import Derived.Deep.RegionLaw
import Derived.Laws.AppendOwnNone
namespace Go.Proofs.Ytehfjlonpnanoaa
open Go.RowKit

/-- What is appended: nothing of a nil slice, or the cells of a slice. -/
def SrcOk (w : World) (xv : Value) (m size : Nat) (news : List Value) : Prop :=
  (xv = .slice none 0 0 ∧ m = 0 ∧ news = []) ∨
  (∃ ad c, xv = .slice (some ad) m c ∧ news.length = m * size ∧ (∀ j u, news[j]? = some u → w.cell? (ad.add j) = some u) ∧ ∀ u ∈ news, u.oneCell' = true)

theorem step_append_own {P : Program} {ops : Array Oper} {o : Oper} {a : Act} {w : World} {K : Act → World → Prop} {Q : Exit → Act → World → Prop} {E : Prop}
    (hg : o.guard = none) (s x : Operand) (t : TypeId) (hop : o.op = Op.call { callee := Callee.builtin Builtin.append, args := #[s, x], argTypes := #[t, t] })
    (base : Nat) (e : TypeId) (i : TypeInfo) (z : Value) (size bytes : Nat) (ht : P.underlying t = some (.slice e)) (hi : P.info? e = some i) (hz : i.zero = some z)
    (hsize : i.size = size) (hby : i.bytes = bytes) (hzs : z.cells.size = size) (hsz : 0 < size)
    (v : Value) (n : Nat) (xs : List Value) (hs : a.eval s = v) (hown : w.ownsRow base e size v n xs)
    (xv : Value) (m : Nat) (news : List Value) (hx : a.eval x = xv) (hsrc : SrcOk w xv m size news)
    (h63 : n + m ≤ maxLen) (hbytes : (n + m) * bytes ≤ 140737488355328) (hbase : base ≤ w.heap.size)
    (hK : ∀ v' w', w'.ownsRow base e size v' (n + m) (xs ++ news) → w.grownBy w' v.ownBlock → K (a.put o.dst v') w') :
    if Region.wanted o (yielded ops a.tmps) = true then Oper.wp P o a w K Q else E := by
  have hw : Region.wanted o (yielded ops a.tmps) = true := by simp [Region.wanted, hg]
  rw [if_pos hw]
  rcases hsrc with ⟨rfl, rfl, rfl⟩ | ⟨ad, c, rfl, hl, hc, h1⟩
  · have hrun := run_append_owned_none (P := P) (w := w) base t o.type e i size ht hi v n xs hown
    unfold Oper.wp
    simp [execOp, hop, resolve, invoke, builtin, hs, hx, hrun, Result.andThen]
    have := hK v w (by simpa using hown) ⟨rfl, rfl, rfl, Nat.le_refl _, fun _ _ _ => rfl⟩
    exact this
  · exact wp_append_own w s x t hop base e i z size bytes ht hi hz hsize hby hzs hsz v n xs hs hown ad m c news hx hl hc h1 h63 hbytes hbase fun v' w' h2 h3 _ => hK v' w' h2 h3

theorem step_append_none {P : Program} {ops : Array Oper} {o : Oper} {a : Act} {w : World} {K : Act → World → Prop} {Q : Exit → Act → World → Prop} {E : Prop}
    (hg : o.guard = none) (s x : Operand) (t : TypeId) (hop : o.op = Op.call { callee := Callee.builtin Builtin.append, args := #[s, x], argTypes := #[t, t] })
    (base : Nat) (e : TypeId) (i : TypeInfo) (size : Nat) (ht : P.underlying t = some (.slice e)) (hi : P.info? e = some i)
    (v : Value) (n : Nat) (xs : List Value) (hs : a.eval s = v) (hown : w.ownsRow base e size v n xs) (hx : a.eval x = .slice none 0 0)
    (hK : K (a.put o.dst v) w) :
    if Region.wanted o (yielded ops a.tmps) = true then Oper.wp P o a w K Q else E := by
  have hw : Region.wanted o (yielded ops a.tmps) = true := by simp [Region.wanted, hg]
  rw [if_pos hw]
  have hrun := run_append_owned_none (P := P) (w := w) base t o.type e i size ht hi v n xs hown
  unfold Oper.wp
  simp [execOp, hop, resolve, invoke, builtin, hs, hx, hrun, Result.andThen]
  exact hK

def segOf (P : Nat → Int × Int) (lo m : Nat) : List Value := cellsOf (fun i => P (lo + i)) m

theorem segOf_one (P : Nat → Int × Int) (m : Nat) : ∀ u ∈ cellsOf P m, u.oneCell' = true := by
  induction m with
  | zero => intro u hu; cases hu
  | succ m ih =>
    intro u hu
    unfold cellsOf at hu
    rcases List.mem_append.1 hu with hu | hu
    · exact ih u hu
    · simp at hu
      rcases hu with rfl | rfl <;> rfl

theorem cellsOf_get (P : Nat → Int × Int) (m j : Nat) (u : Value) (h : (cellsOf P m)[j]? = some u) : j < m * 2 ∧ ((j % 2 = 0 ∧ u = .int .i64 (P (j / 2)).1) ∨ (j % 2 = 1 ∧ u = .int .i64 (P (j / 2)).2)) := by
  have hl := cellsOf_len P m
  have hj : j < m * 2 := by rw [← hl]; exact (List.getElem?_eq_some_iff.1 h).1
  refine ⟨hj, ?_⟩
  have c := cellsOf_at P m (j / 2) (by omega)
  rcases Nat.mod_two_eq_zero_or_one j with e | e
  · left
    have e2 : j / 2 * 2 = j := by omega
    rw [e2] at c
    have := c.1.symm.trans h
    simp only [Option.some.injEq] at this
    exact ⟨e, this.symm⟩
  · right
    have e2 : j / 2 * 2 + 1 = j := by omega
    rw [e2] at c
    have := c.2.symm.trans h
    simp only [Option.some.injEq] at this
    exact ⟨e, this.symm⟩

theorem add_add (x : Addr) (i j : Nat) : (x.add i).add j = x.add (i + j) := by
  obtain ⟨b, o, s⟩ := x
  unfold Addr.add
  by_cases hi : i = 0
  · subst hi; simp
  · by_cases hj : j = 0
    · subst hj; simp [hi]
    · simp [hi, hj]; omega

theorem cellsOf_succ (P : Nat → Int × Int) (k : Nat) : cellsOf P (k + 1) = cellsOf P k ++ [.int .i64 (P k).1, .int .i64 (P k).2] := rfl

theorem cellsOf_append (P Q : Nat → Int × Int) (k m : Nat) : cellsOf P k ++ cellsOf Q m = cellsOf (fun i => if i < k then P i else Q (i - k)) (k + m) := by
  induction m with
  | zero =>
    simp only [cellsOf, List.append_nil, Nat.add_zero]
    induction k with
    | zero => rfl
    | succ k ih =>
      unfold cellsOf
      simp only [Nat.lt_succ_self, if_true]
      rw [ih]
      congr 1
      have : ∀ j, j ≤ k → cellsOf (fun i => if i < k then P i else Q (i - k)) j = cellsOf (fun i => if i < k + 1 then P i else Q (i - (k + 1))) j := by
        intro j hj
        induction j with
        | zero => rfl
        | succ j ih2 =>
          unfold cellsOf
          rw [ih2 (by omega)]
          have h1 : j < k := by omega
          have h2 : j < k + 1 := by omega
          simp [h1, h2]
      exact this k (Nat.le_refl _)
  | succ m ih =>
    have : k + (m + 1) = (k + m) + 1 := by omega
    rw [this, cellsOf_succ, cellsOf_succ, ← List.append_assoc, ih]
    have h1 : ¬ (k + m < k) := by omega
    simp [h1]

theorem upOf_congr {n m m' : Nat} {P P' : Nat → Int × Int} (hn : n ≤ 64) (hin : InRange n m P) (hin' : InRange n m' P') (he : ∀ x y, Edge m P x y ↔ Edge m' P' x y) : upOf n m P = upOf n m' P' := by
  have hs := small_upOf hn hin
  have hs' := small_upOf hn hin'
  apply List.ext_getElem (by rw [hs.1, hs'.1])
  intro i h1 h2
  have hi : i < n := by rw [← hs.1]; exact h1
  have e1 : (upOf n m P)[i] = (upOf n m P).getD i 0 := by rw [List.getD_eq_getElem?_getD, List.getElem?_eq_getElem h1]; rfl
  have e2 : (upOf n m' P')[i] = (upOf n m' P').getD i 0 := by rw [List.getD_eq_getElem?_getD, List.getElem?_eq_getElem h2]; rfl
  rw [e1, e2]
  apply Nat.eq_of_testBit_eq
  intro y
  rw [Bool.eq_iff_iff]
  have b1 := B_upOf hn hin (y := y) hi
  have b2 := B_upOf hn hin' (y := y) hi
  unfold B at b1 b2
  rw [b1, b2]
  exact ⟨rch_mono fun x y h => .of ((he x y).1 h), rch_mono fun x y h => .of ((he x y).2 h)⟩

theorem downOf_congr {n m m' : Nat} {P P' : Nat → Int × Int} (h : upOf n m P = upOf n m' P') : downOf n m P = downOf n m' P' := by
  unfold downOf; rw [h]

/-- The pairs turned by k, and once more as they were. -/
def turnP (P : Nat → Int × Int) (k m : Nat) (i : Nat) : Int × Int := if i < m then (if i < m - k then P (k + i) else P (i - (m - k))) else P (i - m)

theorem turn_cells (P : Nat → Int × Int) (k m : Nat) (hk : k ≤ m) : (cellsOf (fun i => P (k + i)) (m - k) ++ cellsOf P k) ++ cellsOf P m = cellsOf (turnP P k m) (m + m) := by
  rw [cellsOf_append, show m - k + k = m by omega, cellsOf_append]
  congr 1

theorem turn_edge (P : Nat → Int × Int) (k m : Nat) (hk : k ≤ m) (x y : Nat) : Edge m P x y ↔ Edge (m + m) (turnP P k m) x y := by
  constructor
  · rintro ⟨i, hi, h⟩
    refine ⟨m + i, by omega, ?_⟩
    unfold turnP
    rw [if_neg (by omega), Nat.add_sub_cancel_left]
    exact h
  · rintro ⟨i, hi, h⟩
    unfold turnP at h
    split at h
    · split at h
      · exact ⟨_, by omega, h⟩
      · exact ⟨_, by omega, h⟩
    · exact ⟨_, by omega, h⟩

theorem turn_all (P : Nat → Int × Int) (k m : Nat) (hk : k ≤ m) (p : Int × Int → Prop) : (∀ i, i < m → p (P i)) ↔ (∀ i, i < m + m → p (turnP P k m i)) := by
  constructor
  · intro h i hi
    unfold turnP
    split
    · split
      · exact h _ (by omega)
      · exact h _ (by omega)
    · exact h _ (by omega)
  · intro h i hi
    have := h (m + i) (by omega)
    unfold turnP at this
    rw [if_neg (by omega), Nat.add_sub_cancel_left] at this
    exact this

end Go.Proofs.Ytehfjlonpnanoaa
