/-
  InlineSpans: what stands in a span stays together, behind its node and one deeper, in whatever rows and merges. Plain facts.
-/
import Derived.Test.YtahljcbmckldhaaGreatDoorSpanTok
namespace Go.Proofs.YtahljcbmckldhaaGreatDoor
open Go.RowKit
set_option linter.unusedVariables false
set_option linter.unusedSimpArgs false

def NoSpan (l : List Inl) : Prop := ∀ x ∈ l, x.kind ≠ 12
theorem NoSpan.nil : NoSpan [] := fun x h => by cases h
theorem NoSpan.append {a b : List Inl} (ha : NoSpan a) (hb : NoSpan b) : NoSpan (a ++ b) := fun x h => by
  rcases List.mem_append.1 h with h | h
  · exact ha x h
  · exact hb x h
theorem NoSpan.cons {x : Inl} {l : List Inl} (hx : x.kind ≠ 12) (hl : NoSpan l) : NoSpan (x :: l) := fun y h => by
  rcases List.mem_cons.1 h with rfl | h
  · exact hx
  · exact hl y h
theorem NoSpan.deeper {l : List Inl} (h : NoSpan l) : NoSpan (deeperL l) := fun x hx => by
  obtain ⟨y, hy, rfl⟩ := List.mem_map.1 hx
  exact h y hy
theorem NoSpan.flat {α : Type} (f : α → List Inl) : ∀ (l : List α), (∀ x ∈ l, NoSpan (f x)) → NoSpan (l.flatMap f)
  | [], _ => NoSpan.nil
  | x :: l, h => by
    rw [List.flatMap_cons]
    exact (h x (List.mem_cons_self ..)).append (NoSpan.flat f l fun y hy => h y (List.mem_cons_of_mem _ hy))
theorem NoSpan.words (l : List UInt8) : NoSpan [wordsI l] := fun x h => by rw [List.mem_singleton.1 h]; simp [wordsI]

def shiftL (d : Nat) (l : List Inl) : List Inl := l.map fun x => { x with depth := x.depth + d }
theorem shift_zero (l : List Inl) : shiftL 0 l = l := by unfold shiftL; simp
theorem shift_deeper (d : Nat) (l : List Inl) : deeperL (shiftL d l) = shiftL (d + 1) l := by
  unfold deeperL shiftL
  rw [List.map_map]
  rfl
theorem deeper_append (a b : List Inl) : deeperL (a ++ b) = deeperL a ++ deeperL b := List.map_append ..

/-- A block that lies in a list of nodes as a whole, d deeper. -/
def InAt (blk : List Inl) (d : Nat) (L : List Inl) : Prop := ∃ A B, L = A ++ (shiftL d blk ++ B) ∧ NoSpan A ∧ NoSpan B ∧ ∀ x, B.head? = some x → x.depth ≤ d
def Lies (blk : List Inl) (L : List Inl) : Prop := ∃ d, InAt blk d L
theorem Lies.self (blk : List Inl) : Lies blk blk := ⟨0, [], [], by rw [shift_zero]; simp, NoSpan.nil, NoSpan.nil, fun x h => by cases h⟩
theorem Lies.deeper {blk L : List Inl} (h : Lies blk L) {x : Inl} (hx : x.kind ≠ 12) : Lies blk (x :: deeperL L) := by
  obtain ⟨d, A, B, rfl, hA, hB, hh⟩ := h
  refine ⟨d + 1, x :: deeperL A, deeperL B, ?_, NoSpan.cons hx hA.deeper, hB.deeper, fun y hy => ?_⟩
  · rw [deeper_append, deeper_append, shift_deeper]; rfl
  · cases B with
    | nil => cases hy
    | cons z B =>
      have := hh z rfl
      simp [deeperL] at hy
      rw [← hy]
      exact Nat.succ_le_succ this
theorem Lies.behind {blk L M : List Inl} (h : Lies blk L) (hM : NoSpan M) (hN : Nest M) : Lies blk (L ++ M) := by
  obtain ⟨d, A, B, rfl, hA, hB, hh⟩ := h
  refine ⟨d, A, B ++ M, by simp, hA, hB.append hM, fun y hy => ?_⟩
  cases B with
  | nil => have := hN.head y hy; omega
  | cons z B => exact hh y hy
theorem Lies.ahead {blk L M : List Inl} (h : Lies blk L) (hM : NoSpan M) : Lies blk (M ++ L) := by
  obtain ⟨d, A, B, rfl, hA, hB, hh⟩ := h
  exact ⟨d, M ++ A, B, by simp, hM.append hA, hB, hh⟩

/-! ### Group -/
/-- One piece alone holds the block. -/
def NS (l : List Piece) : Prop := ∀ y ∈ l, NoSpan y.it.l
def One (blk : List Inl) : List Piece → Prop
  | [] => False
  | x :: l => (x.it.sign = 0 ∧ Lies blk x.it.l ∧ NS l) ∨ (NoSpan x.it.l ∧ One blk l)
theorem NS.append {a b : List Piece} : NS (a ++ b) ↔ NS a ∧ NS b := by
  constructor
  · intro h
    exact ⟨fun y hy => h y (List.mem_append_left _ hy), fun y hy => h y (List.mem_append_right _ hy)⟩
  · rintro ⟨h1, h2⟩ y hy
    rcases List.mem_append.1 hy with hy | hy
    · exact h1 y hy
    · exact h2 y hy
theorem NS.cons {x : Piece} {l : List Piece} : NS (x :: l) ↔ NoSpan x.it.l ∧ NS l := by
  constructor
  · intro h
    exact ⟨h x (List.mem_cons_self ..), fun y hy => h y (List.mem_cons_of_mem _ hy)⟩
  · rintro ⟨h1, h2⟩ y hy
    rcases List.mem_cons.1 hy with rfl | hy
    · exact h1
    · exact h2 y hy
theorem One.append {blk : List Inl} : ∀ {a b : List Piece}, One blk (a ++ b) ↔ (One blk a ∧ NS b) ∨ (NS a ∧ One blk b)
  | [], b => by simp [One, NS]
  | x :: a, b => by
    rw [List.cons_append, One, One, One.append (a := a) (b := b), NS.append, NS.cons]
    constructor
    · rintro (⟨h1, h2, h3, h4⟩ | ⟨h1, ⟨h2, h3⟩ | ⟨h2, h3⟩⟩)
      · exact Or.inl ⟨Or.inl ⟨h1, h2, h3⟩, h4⟩
      · exact Or.inl ⟨Or.inr ⟨h1, h2⟩, h3⟩
      · exact Or.inr ⟨⟨h1, h2⟩, h3⟩
    · rintro (⟨⟨h1, h2, h3⟩ | ⟨h1, h2⟩, h4⟩ | ⟨⟨h1, h2⟩, h3⟩)
      · exact Or.inl ⟨h1, h2, h3, h4⟩
      · exact Or.inr ⟨h1, Or.inl ⟨h2, h4⟩⟩
      · exact Or.inr ⟨h1, Or.inr ⟨h2, h3⟩⟩
/-- A piece of signs is not the one. -/
theorem One.sign {blk : List Inl} {x : Piece} {l : List Piece} (h : x.it.sign ≠ 0) : One blk (x :: l) ↔ NoSpan x.it.l ∧ One blk l := by
  rw [One]
  constructor
  · rintro (⟨h1, _⟩ | h1)
    · exact absurd h1 h
    · exact h1
  · exact Or.inr
theorem nodes_ns {p : Piece} (h : NoSpan p.it.l) : NoSpan p.nodes := by
  unfold Piece.nodes
  split
  · exact h
  · split
    · exact NoSpan.words _
    · exact NoSpan.nil
theorem flat_ns {l : List Piece} (h : NS l) : NoSpan (l.flatMap Piece.nodes) := NoSpan.flat _ _ fun x hx => nodes_ns (h x hx)
theorem flat_nest {l : List Piece} (h : AllNest l) : Nest (l.flatMap Piece.nodes) := Nest.flat _ _ fun x hx => nodes_nest (h x hx)
theorem flat_lies {blk : List Inl} : ∀ {l : List Piece}, One blk l → AllNest l → Lies blk (l.flatMap Piece.nodes)
  | [], h, _ => absurd h (by simp [One])
  | x :: l, h, hn => by
    rw [List.flatMap_cons]
    have hl : AllNest l := hn.sub fun y hy => List.mem_cons_of_mem _ hy
    rcases h with ⟨h1, h2, h3⟩ | ⟨h1, h2⟩
    · have : x.nodes = x.it.l := by unfold Piece.nodes; rw [if_pos h1]
      rw [this]
      exact h2.behind (flat_ns h3) (flat_nest hl)
    · exact (flat_lies h2 hl).ahead (nodes_ns h1)
theorem opener_some {l : List Piece} {c : Piece} : ∀ {k f : Nat}, openerL l c k = some f → f < k ∧ pairs (l.getD f noPiece) c = true
  | 0, f, h => by cases h
  | k + 1, f, h => by
    unfold openerL at h
    split at h
    · rename_i hp
      obtain rfl := Option.some.inj h
      exact ⟨Nat.lt_succ_self _, hp⟩
    · obtain ⟨h1, h2⟩ := opener_some h
      exact ⟨by omega, h2⟩
theorem pairs_sign {a b : Piece} (h : pairs a b = true) : a.it.sign = b.it.sign := by
  unfold pairs at h
  split at h
  · cases h
  · rename_i hh
    simp only [not_or, Decidable.not_not] at hh
    exact hh.1
theorem split_two (p : List Piece) (f i : Nat) (hf : f < i) (hi : i < p.length) : p = p.take f ++ p.getD f noPiece :: ((p.take i).drop (f + 1) ++ p.getD i noPiece :: p.drop (i + 1)) := by
  rw [getD_in _ _ _ hi, getD_in _ _ _ (by omega : f < p.length)]
  have h1 : p = p.take i ++ p[i] :: p.drop (i + 1) := by rw [← List.drop_eq_getElem_cons hi, List.take_append_drop]
  have hfl : f < (p.take i).length := by rw [List.length_take]; omega
  have h2 : p.take i = (p.take i).take f ++ (p.take i)[f] :: (p.take i).drop (f + 1) := by rw [← List.drop_eq_getElem_cons hfl, List.take_append_drop]
  rw [List.take_take, Nat.min_eq_left (by omega), List.getElem_take] at h2
  calc p = p.take i ++ p[i] :: p.drop (i + 1) := h1
    _ = (p.take f ++ p[f] :: (p.take i).drop (f + 1)) ++ p[i] :: p.drop (i + 1) := by rw [← h2]
    _ = _ := by simp
theorem one_set {blk : List Inl} : ∀ (p : List Piece) (i : Nat) (q : Piece), One blk p → (∀ x, p[i]? = some x → q.it = x.it) → One blk (p.set i q)
  | [], i, q, h, _ => by simpa using h
  | x :: p, 0, q, h, hq => by
    have := hq x rfl
    rw [List.set_cons_zero]
    rw [One] at h ⊢
    rw [this]; exact h
  | x :: p, i + 1, q, h, hq => by
    rw [List.set_cons_succ]
    rw [One] at h ⊢
    rcases h with ⟨h1, h2, h3⟩ | ⟨h1, h2⟩
    · refine Or.inl ⟨h1, h2, fun y hy => ?_⟩
      rcases List.mem_or_eq_of_mem_set hy with hy | rfl
      · exact h3 y hy
      · by_cases hi : i < p.length
        · have h4 := hq p[i] (by simp [hi])
          rw [h4]
          exact h3 _ (List.getElem_mem hi)
        · rw [List.set_eq_of_length_le (by omega)] at hy
          exact h3 _ hy
    · exact Or.inr ⟨h1, one_set p i q h2 fun y hy => hq y (by simpa using hy)⟩
theorem step_one {blk : List Inl} {p : List Piece} {i : Nat} (hi : i < p.length) (h : One blk p) (hn : AllNest p) : One blk (groupStep p i).1 := by
  unfold groupStep
  by_cases hidl : idle (p.getD i noPiece) = true
  · rw [if_pos hidl]; exact h
  · rw [if_neg hidl]
    have hs : (p.getD i noPiece).it.sign ≠ 0 := fun e => hidl (idle_zero e)
    cases ho : openerL p (p.getD i noPiece) i with
    | none =>
      simp only
      refine one_set p i _ h fun x hx => ?_
      obtain ⟨hlt, he⟩ := List.getElem?_eq_some_iff.1 hx
      rw [getD_in _ _ _ hi, he]
    | some f =>
      simp only
      obtain ⟨hf, hp⟩ := opener_some ho
      have hsf : (p.getD f noPiece).it.sign ≠ 0 := by rw [pairs_sign hp]; exact hs
      have hsp := split_two p f i hf hi
      rw [hsp, One.append, One.sign hsf, One.append, One.sign hs] at h
      have hk := pairK_cont (p.getD f noPiece) (p.getD i noPiece)
      have hk12 : pairK (p.getD f noPiece) (p.getD i noPiece) ≠ 12 := by unfold pairK; split <;> decide
      have hMn : AllNest ((p.take i).drop (f + 1)) := hn.sub fun y hy => List.mem_of_mem_take (List.mem_of_mem_drop hy)
      generalize hM : (p.take i).drop (f + 1) = M at *
      generalize hA : p.take f = A at *
      generalize hB : p.drop (i + 1) = B at *
      generalize hO : p.getD f noPiece = o at *
      generalize hC : p.getD i noPiece = c at *
      have hol : ∀ n, (lessL o n).it = o.it := fun n => rfl
      have hcl : ∀ n, (lessL c n).it = c.it := fun n => rfl
      have hmade : madeL (pairK o c) M = ⟨pairK o c, 0, [], [], []⟩ :: deeperL (M.flatMap Piece.nodes) := made_deeper _ _
      have hmns : NS M → NoSpan (madeL (pairK o c) M) := fun hm => by rw [hmade]; exact NoSpan.cons hk12 (flat_ns hm).deeper
      rw [List.append_assoc, One.append]
      rcases h with ⟨h1, h2⟩ | ⟨h1, h2, h3⟩
      · left
        rw [NS.cons, NS.append, NS.cons] at h2
        refine ⟨h1, ?_⟩
        show NS (_ :: _ :: _ :: B)
        rw [NS.cons, NS.cons, NS.cons]
        exact ⟨h2.1, hmns h2.2.1, h2.2.2.1, h2.2.2.2⟩
      · right
        refine ⟨h1, ?_⟩
        show One blk (lessL o _ :: _ :: lessL c _ :: B)
        rw [One.sign (x := lessL o _) hsf]
        refine ⟨h2, ?_⟩
        rcases h3 with ⟨h4, h5⟩ | ⟨h4, h5, h6⟩
        · rw [NS.cons] at h5
          refine Or.inl ⟨rfl, ?_, ?_⟩
          · show Lies blk (madeL _ M)
            rw [hmade]
            exact (flat_lies h4 hMn).deeper hk12
          · rw [NS.cons]; exact h5
        · refine Or.inr ⟨hmns h4, ?_⟩
          rw [One.sign (x := lessL c _) hs]
          exact ⟨h5, h6⟩
theorem go_one {blk : List Inl} : ∀ (f : Nat) (p : List Piece) (i : Nat), One blk p → AllNest p → One blk (groupGo f p i)
  | 0, p, i, h, _ => h
  | f + 1, p, i, h, hn => by
    rw [groupGo]
    by_cases hi : p.length ≤ i
    · rw [if_pos hi]; exact h
    · rw [if_neg hi]
      exact go_one f _ _ (step_one (by omega) h hn) (step_nest hn i)

/-! ### Merge -/
theorem merge_from : ∀ (l o : List Inl) (t : Inl), Apart (t :: l) → (∀ x ∈ l, Clean x) → l.foldl mergeStep (o ++ [t]) = o ++ (t :: l)
  | [], o, t, _, _ => rfl
  | x :: l, o, t, h, hc => by
    have h1 := apart_first h.2.2
    have hs : mergeStep (o ++ [t]) x = (o ++ [t]) ++ [x] := by
      unfold mergeStep
      rw [if_neg (fun hh => h1 hh.1 hh.2), wordsOnly_clean (hc x (List.mem_cons_self ..)), List.getLast?_concat]
      simp only
      rw [if_neg]
      rintro ⟨k1, k2, k3⟩
      exact h.2.1 ⟨k2, k1, k3⟩
    rw [List.foldl_cons, hs, merge_from l (o ++ [t]) x h.2.2 fun y hy => hc y (List.mem_cons_of_mem _ hy)]
    simp
theorem words_kind (x : Inl) : (wordsOnly x).kind = x.kind ∧ (wordsOnly x).depth = x.depth ∧ Clean (wordsOnly x) := by
  unfold wordsOnly
  split
  · exact ⟨rfl, rfl, fun _ => ⟨rfl, rfl⟩⟩
  · rename_i h; exact ⟨rfl, rfl, fun hh => absurd hh h⟩
theorem step_ns {out : List Inl} {x : Inl} (ho : NoSpan out) (hx : x.kind ≠ 12) : NoSpan (mergeStep out x) := by
  unfold mergeStep
  split
  · exact ho
  · split
    · rename_i t ht
      split
      · refine NoSpan.append (fun y hy => ho y ((List.dropLast_sublist _).subset hy)) fun y hy => ?_
        rw [List.mem_singleton.1 hy]
        exact ho t (List.mem_of_getLast? ht)
      · exact ho.append fun y hy => by rw [List.mem_singleton.1 hy, (words_kind x).1]; exact hx
    · exact ho.append fun y hy => by rw [List.mem_singleton.1 hy, (words_kind x).1]; exact hx
theorem fold_ns : ∀ (l : List Inl) {out : List Inl}, NoSpan out → NoSpan l → NoSpan (l.foldl mergeStep out)
  | [], out, ho, _ => ho
  | x :: l, out, ho, hl => fold_ns l (step_ns ho (hl x (List.mem_cons_self ..))) fun y hy => hl y (List.mem_cons_of_mem _ hy)
theorem step_clean {out : List Inl} {x : Inl} (ho : ∀ y ∈ out, Clean y) : ∀ y ∈ mergeStep out x, Clean y := by
  unfold mergeStep
  split
  · exact ho
  · split
    · rename_i t ht
      split
      · intro y hy
        rcases List.mem_append.1 hy with hy | hy
        · exact ho y ((List.dropLast_sublist _).subset hy)
        · rw [List.mem_singleton.1 hy]
          exact ho t (List.mem_of_getLast? ht)
      · intro y hy
        rcases List.mem_append.1 hy with hy | hy
        · exact ho y hy
        · rw [List.mem_singleton.1 hy]; exact (words_kind x).2.2
    · intro y hy
      rcases List.mem_append.1 hy with hy | hy
      · exact ho y hy
      · rw [List.mem_singleton.1 hy]; exact (words_kind x).2.2
theorem fold_clean : ∀ (l : List Inl) {out : List Inl}, (∀ y ∈ out, Clean y) → ∀ y ∈ l.foldl mergeStep out, Clean y
  | [], out, ho => ho
  | x :: l, out, ho => fold_clean l (step_clean ho)
theorem merge_clean (l : List Inl) : ∀ y ∈ mergeL l, Clean y := fold_clean l fun y hy => by cases hy
theorem group_clean (l : List IItem) : ∀ y ∈ groupL l, Clean y := merge_clean _
theorem last_app {α : Type} (q o : List α) (ho : o ≠ []) : (q ++ o).getLast? = o.getLast? := by
  rw [List.getLast?_append, List.getLast?_eq_some_getLast ho]; rfl
theorem step_behind (q o : List Inl) (x : Inl) (ho : o ≠ []) : mergeStep (q ++ o) x = q ++ mergeStep o x := by
  unfold mergeStep
  split
  · rfl
  · rw [last_app _ _ ho]
    split
    · split
      · rw [List.dropLast_append_of_ne_nil ho]; simp
      · simp
    · simp
theorem step_ne (o : List Inl) (x : Inl) (ho : o ≠ []) : mergeStep o x ≠ [] := by
  unfold mergeStep
  split
  · exact ho
  · split
    · split <;> simp
    · simp
theorem fold_behind : ∀ (l q o : List Inl), o ≠ [] → l.foldl mergeStep (q ++ o) = q ++ l.foldl mergeStep o
  | [], q, o, _ => rfl
  | x :: l, q, o, ho => by rw [List.foldl_cons, step_behind q o x ho, fold_behind l q _ (step_ne o x ho)]; rfl
theorem step_head (o : List Inl) (x : Inl) (d : Nat) (ho : o ≠ []) (h : ∀ y, o.head? = some y → y.depth ≤ d) : ∀ y, (mergeStep o x).head? = some y → y.depth ≤ d := by
  cases o with
  | nil => exact absurd rfl ho
  | cons z o =>
    have hz := h z rfl
    intro y hy
    unfold mergeStep at hy
    split at hy
    · exact h y hy
    · split at hy
      · rename_i t ht
        split at hy
        · cases o with
          | nil =>
            simp at hy ht
            rw [← hy, ← ht]; exact hz
          | cons w o =>
            simp at hy
            rw [← hy]; exact hz
        · simp at hy
          rw [← hy]; exact hz
      · simp at hy
        rw [← hy]; exact hz
theorem fold_head : ∀ (l o : List Inl) (d : Nat), o ≠ [] → (∀ y, o.head? = some y → y.depth ≤ d) → ∀ y, (l.foldl mergeStep o).head? = some y → y.depth ≤ d
  | [], o, d, _, h => h
  | x :: l, o, d, ho, h => fold_head l _ d (step_ne o x ho) (step_head o x d ho h)
/-- What comes behind a block: nothing of it is joined to the block's last node. -/
theorem fold_after (d : Nat) (Q : List Inl) (hQ : ∀ t, Q.getLast? = some t → ¬ (t.kind = 1 ∧ t.depth ≤ d)) : ∀ (B : List Inl), Chained B → NoSpan B → (∀ x, B.head? = some x → x.depth ≤ d) →
    ∃ B', B.foldl mergeStep Q = Q ++ B' ∧ NoSpan B' ∧ ∀ x, B'.head? = some x → x.depth ≤ d
  | [], _, _, _ => ⟨[], by simp, NoSpan.nil, fun x h => by cases h⟩
  | x :: B, hc, hs, hd => by
    have hxd := hd x rfl
    rw [chained_cons] at hc
    by_cases he : x.kind = 1 ∧ x.text = []
    · have : mergeStep Q x = Q := by unfold mergeStep; rw [if_pos he]
      rw [List.foldl_cons, this]
      refine fold_after d Q hQ B hc.2 (fun y hy => hs y (List.mem_cons_of_mem _ hy)) fun y hy => ?_
      have := hc.1 y hy
      have h2 : ¬ x.depth < y.depth := fun hh => by have := this.2 hh; rw [he.1] at this; cases this
      omega
    · have hst : mergeStep Q x = Q ++ [wordsOnly x] := by
        unfold mergeStep
        rw [if_neg he]
        split
        · rename_i t ht
          rw [if_neg]
          rintro ⟨_, k2, k3⟩
          exact hQ t ht ⟨k2, by omega⟩
        · rfl
      rw [List.foldl_cons, hst, fold_behind B Q [wordsOnly x] (by simp)]
      refine ⟨_, rfl, fold_ns B (fun y hy => ?_) (fun y hy => hs y (List.mem_cons_of_mem _ hy)), fold_head B [wordsOnly x] d (by simp) fun y hy => ?_⟩
      · rw [List.mem_singleton.1 hy, (words_kind x).1]; exact hs x (List.mem_cons_self ..)
      · simp at hy
        rw [← hy, (words_kind x).2.1]; exact hxd
theorem apart_shift (d : Nat) : ∀ (l : List Inl), Apart l → Apart (shiftL d l)
  | [], _ => trivial
  | [x], h => h
  | w :: x :: l, h => ⟨h.1, fun hh => h.2.1 ⟨hh.1, hh.2.1, by have := hh.2.2; simp at this; exact this⟩, apart_shift d (x :: l) h.2.2⟩
theorem clean_shift {d : Nat} {l : List Inl} (h : ∀ x ∈ l, Clean x) : ∀ x ∈ shiftL d l, Clean x := fun x hx => by
  obtain ⟨y, hy, rfl⟩ := List.mem_map.1 hx
  exact h y hy
theorem deeper_shift (l : List Inl) : deeperL l = shiftL 1 l := rfl
/-- The block of a span. -/
theorem merge_lies {span : Inl} {alone L : List Inl} (hs : span.kind = 12) (hs0 : span.depth = 0) (ha : Apart alone) (hcl : ∀ x ∈ alone, Clean x) (hn : Nest L) (h : Lies (span :: deeperL alone) L) : Lies (span :: deeperL alone) (mergeL L) := by
  obtain ⟨d, A, B, rfl, hA, hB, hh⟩ := h
  have hsh : shiftL d (span :: deeperL alone) = { span with depth := span.depth + d } :: shiftL (1 + d) alone := by
    show _ :: shiftL d (deeperL alone) = _
    rw [deeper_shift]
    unfold shiftL
    rw [List.map_map]
    congr 1
    apply List.map_congr_left
    intro x _
    simp [Nat.add_assoc]
  generalize hsp : ({ span with depth := span.depth + d } : Inl) = s0 at hsh
  have hk0 : s0.kind = 12 := by rw [← hsp]; exact hs
  have hd0 : s0.depth = d := by rw [← hsp]; show span.depth + d = d; omega
  generalize hR : shiftL (1 + d) alone = R at hsh
  have hRa : Apart R := by rw [← hR]; exact apart_shift _ _ ha
  have hRc : ∀ x ∈ R, Clean x := by rw [← hR]; exact clean_shift hcl
  have hRd : ∀ x ∈ R, d < x.depth := by
    rw [← hR]
    intro x hx
    obtain ⟨y, _, rfl⟩ := List.mem_map.1 hx
    show d < y.depth + (1 + d)
    omega
  have hc := hn.chain
  rw [chained_append, chained_append] at hc
  obtain ⟨B', h1, h2, h3⟩ := fold_after d (mergeL A ++ (s0 :: R)) (by
    intro t ht
    rw [last_app _ _ (by simp)] at ht
    have hm : t ∈ s0 :: R := List.mem_of_getLast? ht
    rcases List.mem_cons.1 hm with rfl | hm
    · rw [hk0]; rintro ⟨h, _⟩; cases h
    · have := hRd t hm
      omega) B hc.2.1.2.1 hB hh
  refine ⟨d, mergeL A, B', ?_, fold_ns A NoSpan.nil hA, h2, h3⟩
  rw [hsh]
  show mergeL (A ++ ((s0 :: R) ++ B)) = mergeL A ++ ((s0 :: R) ++ B')
  rw [← List.append_assoc, ← List.append_assoc, ← h1]
  unfold mergeL
  rw [List.foldl_append, List.foldl_append]
  congr 1
  rw [List.foldl_cons]
  have hst : mergeStep (A.foldl mergeStep []) s0 = A.foldl mergeStep [] ++ [s0] := by
    have hw : wordsOnly s0 = s0 := by unfold wordsOnly; rw [if_neg (by rw [hk0]; decide)]
    unfold mergeStep
    rw [if_neg (by rw [hk0]; rintro ⟨h, _⟩; cases h), hw]
    split
    · rw [if_neg (by rw [hk0]; rintro ⟨h, _⟩; cases h)]
    · rfl
  rw [hst]
  exact merge_from R _ s0 (apart_other (by rw [hk0]; decide) hRa) hRc

/-- Items, of which one alone holds the block. -/
def NSI (l : List IItem) : Prop := ∀ y ∈ l, NoSpan y.l
theorem group_lies {span : Inl} {alone : List Inl} (hs : span.kind = 12) (hs0 : span.depth = 0) (ha : Apart alone) (hcl : ∀ x ∈ alone, Clean x) (X Y : List IItem) (hX : NSI X) (hY : NSI Y)
    (hn : ItemsNest (X ++ ⟨0, 0, false, false, span :: deeperL alone⟩ :: Y)) : Lies (span :: deeperL alone) (groupL (X ++ ⟨0, 0, false, false, span :: deeperL alone⟩ :: Y)) := by
  have hpn : AllNest (piecesOf (X ++ ⟨0, 0, false, false, span :: deeperL alone⟩ :: Y)) := fun y hy => by
    obtain ⟨z, hz, rfl⟩ := List.mem_map.1 hy
    exact hn z hz
  have hone : One (span :: deeperL alone) (piecesOf (X ++ ⟨0, 0, false, false, span :: deeperL alone⟩ :: Y)) := by
    unfold piecesOf
    rw [List.map_append, One.append]
    right
    refine ⟨fun y hy => ?_, Or.inl ⟨rfl, Lies.self _, fun y hy => ?_⟩⟩
    · obtain ⟨z, hz, rfl⟩ := List.mem_map.1 hy
      exact hX z hz
    · obtain ⟨z, hz, rfl⟩ := List.mem_map.1 hy
      exact hY z hz
  unfold groupL groupP
  have h1 := go_one (signsOf (piecesOf (X ++ ⟨0, 0, false, false, span :: deeperL alone⟩ :: Y)) + (piecesOf (X ++ ⟨0, 0, false, false, span :: deeperL alone⟩ :: Y)).length + 1) _ 0 hone hpn
  have h2 := go_nest (signsOf (piecesOf (X ++ ⟨0, 0, false, false, span :: deeperL alone⟩ :: Y)) + (piecesOf (X ++ ⟨0, 0, false, false, span :: deeperL alone⟩ :: Y)).length + 1) _ 0 hpn
  exact merge_lies hs hs0 ha hcl (flat_nest h2) (flat_lies h1 h2)

/-! ### Parse -/
theorem run_mild (t : Option (List DefL)) (ts : List AtomT) (P : List UInt8 → List Inl) (c : List UInt8) (hc : NulOr c) : ∀ (k : Nat) (b a : List UInt8) (st : PSt), b.length ≤ k → (∀ x ∈ b, noSign x = true) →
    ∃ X, parseFrom t (a ++ (b ++ c)) ts P st a.length = parseFrom t (a ++ (b ++ c)) ts P ⟨st.items ++ X, st.opens⟩ (a ++ b).length ∧ NSI X
  | _, [], a, st, _, _ => ⟨[], by simp, fun y hy => by cases hy⟩
  | 0, x :: b, a, st, h, _ => by simp at h
  | k + 1, x :: b, a, st, h, hb => by
    obtain ⟨tk, n, hn, h1, h2, hm⟩ := next_mild (x :: b) c (by simp) hb hc
    have key : ∃ y, tokenL t (a ++ ((x :: b) ++ c)) ts P st tk a.length (a.length + n) = (⟨st.items ++ [y], st.opens⟩, a.length + n) ∧ NoSpan y.l := by
      rcases hm with ⟨l, rfl⟩ | ⟨hh, rfl⟩ | ⟨u, m, rfl⟩
      · exact ⟨⟨0, 0, false, false, [wordsI l]⟩, rfl, NoSpan.words l⟩
      · exact ⟨⟨0, 0, false, false, [⟨if hh then 8 else 7, 0, [], [], []⟩]⟩, rfl, fun y hy => by rw [List.mem_singleton.1 hy]; cases hh <;> decide⟩
      · exact ⟨_, rfl, NoSpan.nil⟩
    obtain ⟨y, hy, hyn⟩ := key
    have hlen : a.length < (a ++ ((x :: b) ++ c)).length := by simp
    have e1 := from_step t (a ++ ((x :: b) ++ c)) ts P st _ a.length _ n tk hlen (by rw [List.drop_left]; exact hn) hy
    have hsp : a ++ ((x :: b) ++ c) = (a ++ (x :: b).take n) ++ ((x :: b).drop n ++ c) := by
      rw [List.append_assoc, ← List.append_assoc ((x :: b).take n), List.take_append_drop]
    have hl : (a ++ (x :: b).take n).length = a.length + n := by rw [List.length_append, List.length_take, Nat.min_eq_left h2]
    obtain ⟨X, e2, hX⟩ := run_mild t ts P c hc k ((x :: b).drop n) (a ++ (x :: b).take n) ⟨st.items ++ [y], st.opens⟩ (by rw [List.length_drop]; omega) fun z hz => hb z (List.mem_of_mem_drop hz)
    refine ⟨y :: X, ?_, fun z hz => ?_⟩
    · rw [e1]
      rw [hl] at e2
      rw [← hsp] at e2
      rw [e2]
      have hl2 : (a ++ (x :: b).take n ++ (x :: b).drop n).length = (a ++ (x :: b)).length := by rw [List.append_assoc, List.take_append_drop]
      rw [hl2]
      simp
    · rcases List.mem_cons.1 hz with rfl | hz
      · exact hyn
      · exact hX z hz
theorem next_atomZ (c : List UInt8) : nextL (0 :: 48 :: 0 :: c) = (.atom 0, 3) := by
  have ha : amongL (48 :: 0 :: c) digitsL = 1 := among_to digitsL [48] 0 c (by decide) (by decide)
  have hb : beginsL (0 :: 48 :: 0 :: c) = some (.atom 0, 3) := by
    show atomL (0 :: 48 :: 0 :: c) = _
    unfold atomL
    rw [List.drop_succ_cons, List.drop_zero, ha, if_neg (by decide)]
    rfl
  unfold nextL
  rw [hb]
def spanText (ahead behind : List UInt8) : List UInt8 := ahead ++ ([0, 48, 0] ++ behind)
theorem spans_plain (ahead behind label inn : List UInt8) (h1 : ∀ x ∈ ahead, noSign x = true) (h2 : ∀ x ∈ behind, noSign x = true) :
    Lies (⟨12, 0, label, [], []⟩ :: deeperL (parse0 none inn)) (parseL none (spanText ahead behind) [⟨label, inn⟩]) ∧ Nest (parseL none (spanText ahead behind) [⟨label, inn⟩]) := by
  refine ⟨?_, (parseL_nest none _ _).2⟩
  have hnest := parseGo_nest none (spanText ahead behind) [⟨label, inn⟩] (parse0 none) (fun x => (parse0_nest none x).2) ((spanText ahead behind).length + 1) ⟨[], []⟩ 0 (fun x hx => by cases hx)
  unfold parseL
  rw [parse_from]
  change ItemsNest (parseFrom none (spanText ahead behind) [⟨label, inn⟩] (parse0 none) ⟨[], []⟩ 0).items at hnest
  obtain ⟨X, e1, hX⟩ := run_mild none [⟨label, inn⟩] (parse0 none) ([0, 48, 0] ++ behind) (Or.inr ⟨_, rfl⟩) ahead.length ahead [] ⟨[], []⟩ (Nat.le_refl _) h1
  simp only [List.nil_append] at e1
  have e1' : parseFrom none (spanText ahead behind) [⟨label, inn⟩] (parse0 none) ⟨[], []⟩ 0 = parseFrom none (spanText ahead behind) [⟨label, inn⟩] (parse0 none) ⟨X, []⟩ ahead.length := e1
  have e2 := from_app none [⟨label, inn⟩] (parse0 none) ⟨X, []⟩ (PSt.put ⟨X, []⟩ (⟨12, 0, label, [], []⟩ :: deeperL (parse0 none inn))) ahead [0, 48, 0] behind (.atom 0) (by simp) (next_atomZ behind) (by
    show (_, _) = _
    rw [List.length_append]
    rfl)
  change parseFrom none (spanText ahead behind) [⟨label, inn⟩] (parse0 none) ⟨X, []⟩ ahead.length = _ at e2
  obtain ⟨Y, e3, hY⟩ := run_mild none [⟨label, inn⟩] (parse0 none) [] (Or.inl rfl) behind.length behind (ahead ++ [0, 48, 0]) (PSt.put ⟨X, []⟩ (⟨12, 0, label, [], []⟩ :: deeperL (parse0 none inn))) (Nat.le_refl _) h2
  rw [List.append_nil, List.append_assoc] at e3
  rw [e1', e2] at hnest ⊢
  have e4 : parseFrom none (ahead ++ ([0, 48, 0] ++ behind)) [⟨label, inn⟩] (parse0 none) (PSt.put ⟨X, []⟩ (⟨12, 0, label, [], []⟩ :: deeperL (parse0 none inn))) (ahead ++ [0, 48, 0]).length = ⟨X ++ ⟨0, 0, false, false, ⟨12, 0, label, [], []⟩ :: deeperL (parse0 none inn)⟩ :: Y, []⟩ := by
    rw [e3, from_end _ _ _ _ _ _ (by simp)]
    simp [PSt.put]
  rw [e4] at hnest ⊢
  exact group_lies rfl rfl (parse0_nest none inn).1 (group_clean _) X Y hX hY hnest

end Go.Proofs.YtahljcbmckldhaaGreatDoor
