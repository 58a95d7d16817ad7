/-
  LatticeLaws: joins and meets are the bounds of the order: the call answers true for every input.
-/
import Derived.Test.YtehfjlonpnanoaaLatOpen
import Derived.Deep.DeepCutAuto
namespace Go.Proofs.Ytehfjlonpnanoaa
open Go.RowKit

/-- A contract of a reader: a number, a Bool. -/
def CI (w : World) (f : Nat) (args : Array Value) (r : Int) : Prop := Calls Try.prog f args w fun e w' => e = .returned (.int .i64 r) ∧ w = w'
def CB (w : World) (f : Nat) (args : Array Value) (r : Bool) : Prop := Calls Try.prog f args w fun e w' => e = .returned (.bool r) ∧ w = w'

structure LFacts (w : World) (q : Nat) (n a b c j m bc x t bt : Nat) (p1 p2 p3 p4 p5 : Bool) : Prop where
  jab : CI w 9 #[.pointer (some ⟨q, 0, none⟩), .int .i64 a, .int .i64 b] j
  mab : CI w 10 #[.pointer (some ⟨q, 0, none⟩), .int .i64 a, .int .i64 b] m
  jba : CI w 9 #[.pointer (some ⟨q, 0, none⟩), .int .i64 b, .int .i64 a] j
  mba : CI w 10 #[.pointer (some ⟨q, 0, none⟩), .int .i64 b, .int .i64 a] m
  laj : CB w 8 #[.pointer (some ⟨q, 0, none⟩), .int .i64 a, .int .i64 j] true
  lbj : CB w 8 #[.pointer (some ⟨q, 0, none⟩), .int .i64 b, .int .i64 j] true
  lma : CB w 8 #[.pointer (some ⟨q, 0, none⟩), .int .i64 m, .int .i64 a] true
  lmb : CB w 8 #[.pointer (some ⟨q, 0, none⟩), .int .i64 m, .int .i64 b] true
  lac : CB w 8 #[.pointer (some ⟨q, 0, none⟩), .int .i64 a, .int .i64 c] p1
  lbc : CB w 8 #[.pointer (some ⟨q, 0, none⟩), .int .i64 b, .int .i64 c] p2
  ljc : CB w 8 #[.pointer (some ⟨q, 0, none⟩), .int .i64 j, .int .i64 c] (p1 && p2)
  lca : CB w 8 #[.pointer (some ⟨q, 0, none⟩), .int .i64 c, .int .i64 a] p3
  lcb : CB w 8 #[.pointer (some ⟨q, 0, none⟩), .int .i64 c, .int .i64 b] p4
  lcm : CB w 8 #[.pointer (some ⟨q, 0, none⟩), .int .i64 c, .int .i64 m] (p3 && p4)
  lab : CB w 8 #[.pointer (some ⟨q, 0, none⟩), .int .i64 a, .int .i64 b] p5
  ejb : ((j : Int) == (b : Int)) = p5
  ema : ((m : Int) == (a : Int)) = p5
  jjc : CI w 9 #[.pointer (some ⟨q, 0, none⟩), .int .i64 j, .int .i64 c] x
  jbc : CI w 9 #[.pointer (some ⟨q, 0, none⟩), .int .i64 b, .int .i64 c] bc
  jabc : CI w 9 #[.pointer (some ⟨q, 0, none⟩), .int .i64 a, .int .i64 bc] x
  jam : CI w 9 #[.pointer (some ⟨q, 0, none⟩), .int .i64 a, .int .i64 m] a
  maj : CI w 10 #[.pointer (some ⟨q, 0, none⟩), .int .i64 a, .int .i64 j] a
  top : CI w 11 #[.pointer (some ⟨q, 0, none⟩)] t
  lat : CB w 8 #[.pointer (some ⟨q, 0, none⟩), .int .i64 a, .int .i64 t] true
  bot : CI w 12 #[.pointer (some ⟨q, 0, none⟩)] bt
  lba : CB w 8 #[.pointer (some ⟨q, 0, none⟩), .int .i64 bt, .int .i64 a] true

/-- The least upper bound of all, by folding. -/
theorem fold_above {n : Nat} {U : List Nat} {R : Nat → Nat → Prop} (s : Says n U R) (hf : ∀ x y, x < n → y < n → 0 ≤ joinF n U x y) (h0 : 0 < n) (k : Nat) (hk : k ≤ n) :
    (foldF (joinF n U) k).toNat < n ∧ ∀ i, i < k → R i (foldF (joinF n U) k).toNat := by
  induction k with
  | zero => exact ⟨by simpa [foldF] using h0, fun i hi => by omega⟩
  | succ k ih =>
    obtain ⟨h1, h2⟩ := ih (by omega)
    have hp := hf _ k h1 (by omega)
    obtain ⟨j0, j1, j2, _⟩ := joinF_spec hp
    refine ⟨j0, fun i hi => ?_⟩
    show R i (joinF n U (foldF (joinF n U) k).toNat k).toNat
    by_cases e : i = k
    · subst e; exact ((s.bit _ _ (by omega)).1 j2).2
    · exact s.trans _ _ _ (by omega) h1 j0 (h2 i (by omega)) ((s.bit _ _ h1).1 j1).2

theorem fine_anti {n m : Nat} {P : Nat → Int × Int} (hn : n ≤ 64) (hin : InRange n m P) (hf : Fine n (upOf n m P) (downOf n m P)) : ∀ x y, x < n → y < n → Le m P x y → Le m P y x → x = y := fun x y hx hy h k => by
  apply Classical.byContradiction
  intro hne
  exact (hf x y hx hy).1 ⟨(B_upOf hn hin hx).2 h, hne, (B_upOf hn hin hy).2 k⟩

theorem CI.of {w : World} {f : Nat} {args : Array Value} {r r' : Int} (h : Calls Try.prog f args w fun e w' => e = .returned (.int .i64 r) ∧ w = w') (e : r = r') : CI w f args r' := by subst e; exact h
theorem CB.of {w : World} {f : Nat} {args : Array Value} {r r' : Bool} (h : Calls Try.prog f args w fun e w' => e = .returned (.bool r) ∧ w = w') (e : r = r') : CB w f args r' := by subst e; exact h

open Classical in
theorem lfacts {B : Nat} {w : World} {q n m : Nat} {P : Nat → Int × Int} (hl : LatAt B w q n (upOf n m P) (downOf n m P)) (h0 : 0 < n) (hn : n ≤ 64) (hin : InRange n m P) (hf : Fine n (upOf n m P) (downOf n m P))
    (a b c : Nat) (ha : a < n) (hb : b < n) (hc : c < n) : ∃ j mm bc x t bt p1 p2 p3 p4 p5, LFacts w q n a b c j mm bc x t bt p1 p2 p3 p4 p5 ∧ j < n ∧ mm < n := by
  have hanti := fine_anti hn hin hf
  have su := Says.up hn hin hanti
  have sd := Says.down hn hin hanti
  have JN : ∀ x y, x < n → y < n → 0 ≤ joinF n (upOf n m P) x y := fun x y hx hy => (hf x y hx hy).2.1
  have MN : ∀ x y, x < n → y < n → 0 ≤ joinF n (downOf n m P) x y := fun x y hx hy => (hf x y hx hy).2.2
  have LQ : ∀ x y, x < n → y < n → CB w 8 #[.pointer (some ⟨q, 0, none⟩), .int .i64 (x : Nat), .int .i64 (y : Nat)] (decide (Le m P x y)) := fun x y hx hy =>
    CB.of (at_leq hl hn x y (by omega) (by omega) (by omega) (by omega)) (by
      rw [Bool.eq_iff_iff, decide_eq_true_iff]
      exact B_upOf hn hin hx)
  have JQ : ∀ x y z : Nat, x < n → y < n → z < n → Le m P x z → Le m P y z → (∀ v, v < n → Le m P x v → Le m P y v → Le m P z v) → CI w 9 #[.pointer (some ⟨q, 0, none⟩), .int .i64 (x : Nat), .int .i64 (y : Nat)] (z : Nat) := fun x y z hx hy hz h1 h2 h3 =>
    CI.of (at_join hl hn x y (by omega) (by omega) (by omega) (by omega)) (su.join hx hy hz h1 h2 h3)
  have MQ : ∀ x y z : Nat, x < n → y < n → z < n → Le m P z x → Le m P z y → (∀ v, v < n → Le m P v x → Le m P v y → Le m P v z) → CI w 10 #[.pointer (some ⟨q, 0, none⟩), .int .i64 (x : Nat), .int .i64 (y : Nat)] (z : Nat) := fun x y z hx hy hz h1 h2 h3 =>
    CI.of (at_meet hl hn x y (by omega) (by omega) (by omega) (by omega)) (sd.join hx hy hz h1 h2 h3)
  have JX : ∀ x y, x < n → y < n → ∃ z, z < n ∧ Le m P x z ∧ Le m P y z ∧ ∀ v, v < n → Le m P x v → Le m P y v → Le m P z v := fun x y hx hy => by
    obtain ⟨j0, j1, j2, j3⟩ := joinF_spec (JN x y hx hy)
    exact ⟨_, j0, ((su.bit _ _ hx).1 j1).2, ((su.bit _ _ hy).1 j2).2, fun v hv h1 h2 => ((su.bit _ _ j0).1 ((j3 v).2 ⟨(su.bit _ _ hx).2 ⟨hv, h1⟩, (su.bit _ _ hy).2 ⟨hv, h2⟩⟩)).2⟩
  have MX : ∀ x y, x < n → y < n → ∃ z, z < n ∧ Le m P z x ∧ Le m P z y ∧ ∀ v, v < n → Le m P v x → Le m P v y → Le m P v z := fun x y hx hy => by
    obtain ⟨j0, j1, j2, j3⟩ := joinF_spec (MN x y hx hy)
    exact ⟨_, j0, ((sd.bit _ _ hx).1 j1).2, ((sd.bit _ _ hy).1 j2).2, fun v hv h1 h2 => ((sd.bit _ _ j0).1 ((j3 v).2 ⟨(sd.bit _ _ hx).2 ⟨hv, h1⟩, (sd.bit _ _ hy).2 ⟨hv, h2⟩⟩)).2⟩
  obtain ⟨j, hj, j1, j2, j3⟩ := JX a b ha hb
  obtain ⟨mm, hm, m1, m2, m3⟩ := MX a b ha hb
  obtain ⟨bc, hbc, b1, b2, b3⟩ := JX b c hb hc
  obtain ⟨x, hx, x1, x2, x3⟩ := JX j c hj hc
  obtain ⟨ht, t1⟩ := fold_above su JN h0 n (Nat.le_refl _)
  obtain ⟨hbt, t2⟩ := fold_above sd MN h0 n (Nat.le_refl _)
  have tb := foldF_bd (F := joinF n (upOf n m P)) (fun x y hx hy => ⟨JN x y hx hy, joinF_bd n _ x y⟩) h0 n (Nat.le_refl _)
  have bb := foldF_bd (F := joinF n (downOf n m P)) (fun x y hx hy => ⟨MN x y hx hy, joinF_bd n _ x y⟩) h0 n (Nat.le_refl _)
  refine ⟨j, mm, bc, x, (foldF (joinF n (upOf n m P)) n).toNat, (foldF (joinF n (downOf n m P)) n).toNat, decide (Le m P a c), decide (Le m P b c), decide (Le m P c a), decide (Le m P c b), decide (Le m P a b), ?_, hj, hm⟩
  have LT : ∀ x y, x < n → y < n → Le m P x y → CB w 8 #[.pointer (some ⟨q, 0, none⟩), .int .i64 (x : Nat), .int .i64 (y : Nat)] true := fun x y hx hy h => CB.of (LQ x y hx hy) (decide_eq_true h)
  exact {
    jab := JQ a b j ha hb hj j1 j2 j3
    mab := MQ a b mm ha hb hm m1 m2 m3
    jba := JQ b a j hb ha hj j2 j1 (fun v hv h k => j3 v hv k h)
    mba := MQ b a mm hb ha hm m2 m1 (fun v hv h k => m3 v hv k h)
    laj := LT a j ha hj j1
    lbj := LT b j hb hj j2
    lma := LT mm a hm ha m1
    lmb := LT mm b hm hb m2
    lac := LQ a c ha hc
    lbc := LQ b c hb hc
    ljc := CB.of (LQ j c hj hc) (by
      rw [Bool.eq_iff_iff, Bool.and_eq_true, decide_eq_true_iff, decide_eq_true_iff, decide_eq_true_iff]
      exact ⟨fun h => ⟨j1.trans h, j2.trans h⟩, fun h => j3 c hc h.1 h.2⟩)
    lca := LQ c a hc ha
    lcb := LQ c b hc hb
    lcm := CB.of (LQ c mm hc hm) (by
      rw [Bool.eq_iff_iff, Bool.and_eq_true, decide_eq_true_iff, decide_eq_true_iff, decide_eq_true_iff]
      exact ⟨fun h => ⟨Rch.trans h m1, Rch.trans h m2⟩, fun h => m3 c hc h.1 h.2⟩)
    lab := LQ a b ha hb
    ejb := by
      rw [Bool.eq_iff_iff, beq_iff_eq, decide_eq_true_iff]
      constructor
      · intro h
        have : j = b := by omega
        rw [← this]; exact j1
      · intro h
        have := hanti j b hj hb (j3 b hb h (.refl _)) j2
        omega
    ema := by
      rw [Bool.eq_iff_iff, beq_iff_eq, decide_eq_true_iff]
      constructor
      · intro h
        have : mm = a := by omega
        rw [← this]; exact m2
      · intro h
        have := hanti mm a hm ha m1 (m3 a ha (.refl _) h)
        omega
    jjc := JQ j c x hj hc hx x1 x2 x3
    jbc := JQ b c bc hb hc hbc b1 b2 b3
    jabc := JQ a bc x ha hbc hx (Rch.trans j1 x1) (b3 x hx (Rch.trans j2 x1) x2) (fun v hv h k => x3 v hv (j3 v hv h (Rch.trans b1 k)) (Rch.trans b2 k))
    jam := JQ a mm a ha hm ha (.refl _) m1 (fun v hv h _ => h)
    maj := MQ a j a ha hj ha (.refl _) j1 (fun v hv h _ => h)
    top := CI.of (at_top hl h0 hn JN) (by omega)
    lat := LT a _ ha ht (t1 a ha)
    bot := CI.of (at_bottom hl h0 hn MN) (by omega)
    lba := LT _ a hbt ha (t2 a ha) }

end Go.Proofs.Ytehfjlonpnanoaa
