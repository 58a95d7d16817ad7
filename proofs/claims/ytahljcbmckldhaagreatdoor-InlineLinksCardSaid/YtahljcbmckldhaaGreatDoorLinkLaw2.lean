/-
  InlineLinks: what Parse makes of a text between brackets with a target behind. Plain facts.
-/
import Derived.Test.YtahljcbmckldhaaGreatDoorLinkLaw
namespace Go.Proofs.YtahljcbmckldhaaGreatDoor
open Go.RowKit
set_option linter.unusedVariables false
set_option linter.unusedSimpArgs false

def pieceK : Nat → List UInt8
  | 0 => [97]
  | 1 => [42, 98, 42]
  | 2 => [32]
  | 3 => [42, 42, 99, 42, 42]
  | 4 => [96, 100, 96]
  | _ => [101]
def piecesL (ks : List Nat) : List UInt8 := ks.flatMap pieceK
theorem piece_facts : ∀ k : Nat, AllA (pieceK k) ∧ (pieceK k).reverse = pieceK k ∧ (pieceK k).length ≤ 5
  | 0 => ⟨fun c hc => (by rw [List.mem_singleton.1 hc]; decide), rfl, by decide⟩
  | 1 => ⟨(show ∀ c ∈ ([42, 98, 42] : List UInt8), inA c = true by decide), rfl, by decide⟩
  | 2 => ⟨(show ∀ c ∈ ([32] : List UInt8), inA c = true by decide), rfl, by decide⟩
  | 3 => ⟨(show ∀ c ∈ ([42, 42, 99, 42, 42] : List UInt8), inA c = true by decide), rfl, by decide⟩
  | 4 => ⟨(show ∀ c ∈ ([96, 100, 96] : List UInt8), inA c = true by decide), rfl, by decide⟩
  | _ + 5 => ⟨(show ∀ c ∈ ([101] : List UInt8), inA c = true by decide), rfl, (show ([101] : List UInt8).length ≤ 5 by decide)⟩
theorem pieces_all : ∀ ks : List Nat, AllA (piecesL ks)
  | [], c, h => by cases h
  | k :: ks, c, h => by
    unfold piecesL at h
    rw [List.flatMap_cons] at h
    rcases List.mem_append.1 h with h | h
    · exact (piece_facts k).1 c h
    · exact pieces_all ks c h
theorem pieces_reverse (ks : List Nat) : (piecesL ks).reverse = piecesL ks.reverse := by
  unfold piecesL
  rw [List.reverse_flatMap]
  congr 1
  funext k
  exact (piece_facts k).2.1
theorem pieces_start (ks : List Nat) (n : Nat) (r : List UInt8) (hn : 1 ≤ n) (h : piecesL ks = List.replicate n 42 ++ r) (hr : r.head? ≠ some 42) : ∃ L q, r = L :: q ∧ 97 ≤ L ∧ L ≤ 101 := by
  obtain ⟨m, rfl⟩ : ∃ m, n = m + 1 := ⟨n - 1, by omega⟩
  rw [List.replicate_succ, List.cons_append] at h
  cases ks with
  | nil => cases h
  | cons k ks =>
    unfold piecesL at h
    rw [List.flatMap_cons] at h
    generalize ks.flatMap pieceK = q at h
    match k with
    | 0 => injection h with h1 _; exact absurd h1 (by decide)
    | 1 =>
      injection h with _ h
      cases m with
      | zero => exact ⟨98, _, h.symm, by decide, by decide⟩
      | succ m => rw [List.replicate_succ, List.cons_append] at h; injection h with h1 _; exact absurd h1 (by decide)
    | 2 => injection h with h1 _; exact absurd h1 (by decide)
    | 3 =>
      injection h with _ h
      cases m with
      | zero => exfalso; apply hr; rw [show r = List.replicate 0 42 ++ r from rfl, ← h]; rfl
      | succ m =>
        rw [List.replicate_succ, List.cons_append] at h
        injection h with _ h
        cases m with
        | zero => exact ⟨99, _, h.symm, by decide, by decide⟩
        | succ m => rw [List.replicate_succ, List.cons_append] at h; injection h with h1 _; exact absurd h1 (by decide)
    | 4 => injection h with h1 _; exact absurd h1 (by decide)
    | _ + 5 => injection h with h1 _; exact absurd h1 (by decide)
theorem pieces_sided (ks : List Nat) : Sided (piecesL ks) := by
  refine ⟨pieces_all ks, pieces_start ks, ?_⟩
  intro n a hn h ha
  have h2 := congrArg List.reverse h
  rw [pieces_reverse, List.reverse_append, List.reverse_replicate] at h2
  obtain ⟨L, q, h3, h4⟩ := pieces_start ks.reverse n a.reverse hn h2 (by rw [List.head?_reverse]; exact ha)
  refine ⟨L, q.reverse, ?_, h4⟩
  have := congrArg List.reverse h3
  rw [List.reverse_reverse] at this
  rw [this, List.reverse_cons]

/-! ### the items of a text, between brackets and alone -/
theorem run_in (pre s c : List UInt8) (hs : Sided s) (hc : Tail c) (hcp : Plain128 c) (hpp : Plain128 pre) (hpl : pre.getLast? = some 91) (P : List UInt8 → List Inl) : ∀ (k i : Nat), s.length - i ≤ k → i ≤ s.length → Seam s i →
    ∃ X, (∀ its, parseFrom none s [] P ⟨its, []⟩ i = ⟨its ++ X, []⟩) ∧ ∀ its ops, parseFrom none (pre ++ (s ++ c)) [] P ⟨its, ops⟩ (pre.length + i) = parseFrom none (pre ++ (s ++ c)) [] P ⟨its ++ X, ops⟩ (pre.length + s.length) := by
  have fin : ∃ X, (∀ its, parseFrom none s [] P ⟨its, []⟩ s.length = ⟨its ++ X, []⟩) ∧ ∀ its ops, parseFrom none (pre ++ (s ++ c)) [] P ⟨its, ops⟩ (pre.length + s.length) = parseFrom none (pre ++ (s ++ c)) [] P ⟨its ++ X, ops⟩ (pre.length + s.length) :=
    ⟨[], fun its => by rw [from_end _ _ _ _ _ _ (Nat.le_refl _)]; simp, fun its ops => by simp⟩
  intro k
  induction k with
  | zero => intro i h1 h2 _; rw [show i = s.length by omega]; exact fin
  | succ k ih =>
    intro i h1 h2 hseam
    by_cases hi : i = s.length
    · rw [hi]; exact fin
    · have hilt : i < s.length := by omega
      have hbne : s.drop i ≠ [] := by intro e; have := congrArg List.length e; simp at this; omega
      have hba : AllA (s.drop i) := fun d hd => hs.all d (List.mem_of_mem_drop hd)
      obtain ⟨tk, n, n1, n2, hn1, hnl, hsm, hk⟩ := next_in (s.drop i) c hbne hba hc
      rw [List.length_drop] at hnl
      have hdT : (pre ++ (s ++ c)).drop (pre.length + i) = s.drop i ++ c := by
        rw [← List.drop_drop, List.drop_left, List.drop_append_of_le_length h2]
      have key : ∃ y, (∀ its, tokenL none s [] P ⟨its, []⟩ tk i (i + n) = (⟨its ++ [y], []⟩, i + n)) ∧ ∀ its ops, tokenL none (pre ++ (s ++ c)) [] P ⟨its, ops⟩ tk (pre.length + i) (pre.length + i + n) = (⟨its ++ [y], ops⟩, pre.length + i + n) := by
        rcases hk with (⟨l, rfl⟩ | ⟨l, rfl⟩) | ⟨rfl, r, hr, hr0⟩
        · exact ⟨⟨0, 0, false, false, [wordsI l]⟩, fun _ => rfl, fun _ _ => rfl⟩
        · exact ⟨⟨0, 0, false, false, [⟨2, 0, restoreL l [], [], []⟩]⟩, fun _ => rfl, fun _ _ => rfl⟩
        · obtain ⟨f1, f2⟩ := flags_same pre s c hs hc hcp hpp hpl i n hn1 (by omega) r hr hr0 hseam
          refine ⟨⟨42, n, opensL 42 (aroundL s i (i + n)).1 (aroundL s i (i + n)).2, closesL 42 (aroundL s i (i + n)).1 (aroundL s i (i + n)).2, []⟩, fun _ => rfl, fun its ops => ?_⟩
          unfold tokenL
          simp only
          rw [f1, f2]
      obtain ⟨y, y1, y2⟩ := key
      have hseam2 : Seam s (i + n) := by
        intro h
        rw [← List.drop_drop] at h
        have h3 := hsm h
        rw [List.take_add, last_app _ _ (by
          intro e
          have := congrArg List.length e
          rw [List.length_take, List.length_drop, List.length_nil] at this
          omega)]
        exact h3
      obtain ⟨X, x1, x2⟩ := ih (i + n) (by omega) (by omega) hseam2
      refine ⟨y :: X, fun its => ?_, fun its ops => ?_⟩
      · rw [from_step none s [] P ⟨its, []⟩ _ i _ n tk hilt n2 (y1 its), x1]
        simp
      · rw [from_step none (pre ++ (s ++ c)) [] P ⟨its, ops⟩ _ (pre.length + i) _ n tk (by simp; omega) (by rw [hdT]; exact n1) (y2 its ops), Nat.add_assoc, x2]
        simp

/-! ### targets -/
theorem inside_quoted (url title_ : List UInt8) (hu : Letters url) (hne : url ≠ []) (ht : Letters title_) :
    inside (40 :: (url ++ (32 :: 39 :: (title_ ++ [39, 41])))) = (url, title_, url.length + title_.length + 5, true) := by
  obtain ⟨u, us, rfl⟩ : ∃ u us, url = u :: us := by cases url with | nil => exact absurd rfl hne | cons u us => exact ⟨u, us, rfl⟩
  have hub := letter_black hu.head.1
  have hw : White [32] := fun b hb => by rw [List.mem_singleton.1 hb]; decide
  have hw0 : White [] := fun b hb => by cases hb
  have hd : dest ((u :: us) ++ (32 :: 39 :: (title_ ++ [39, 41]))) = (u :: us, (u :: us).length, true) :=
    dest_letters _ _ 32 hu (by simp) (Or.inl (White.isW (by decide)))
  have ht2 : title (39 :: (title_ ++ [39, 41])) = (title_, title_.length + 2, true) := title_quote 39 title_ [41] (Or.inr (Or.inl rfl)) ht
  have key := inside_eq (40 :: ((u :: us) ++ (32 :: 39 :: (title_ ++ [39, 41])))) 1 (1 + (u :: us).length + 1) (1 + (u :: us).length + 1 + (title_.length + 2)) (u :: us, (u :: us).length, true) (title_, title_.length + 2, true) rfl
    (by have := skip_white [40] [] (us ++ (32 :: 39 :: (title_ ++ [39, 41]))) u 1 rfl hw0 hub; rw [List.length_nil, Nat.add_zero] at this; exact this)
    (by rw [List.drop_succ_cons, List.drop_zero, hd]) rfl
    (by
      rw [show 40 :: ((u :: us) ++ (32 :: 39 :: (title_ ++ [39, 41]))) = (40 :: (u :: us)) ++ ([32] ++ 39 :: (title_ ++ [39, 41])) by simp]
      exact skip_white _ [32] _ 39 _ (by simp; omega) hw (by decide))
    (by
      rw [if_pos (by simp)]
      rw [show 40 :: ((u :: us) ++ (32 :: 39 :: (title_ ++ [39, 41]))) = (40 :: ((u :: us) ++ [32])) ++ (39 :: (title_ ++ [39, 41])) by simp, List.drop_left' (by simp; omega), ht2])
    (by
      simp only [if_true]
      rw [show 40 :: ((u :: us) ++ (32 :: 39 :: (title_ ++ [39, 41]))) = (40 :: ((u :: us) ++ (32 :: 39 :: (title_ ++ [39])))) ++ ([] ++ 41 :: []) by simp]
      exact skip_white _ [] [] 41 _ (by simp; omega) hw0 (by decide))
    (by rw [show 40 :: ((u :: us) ++ (32 :: 39 :: (title_ ++ [39, 41]))) = (40 :: ((u :: us) ++ (32 :: 39 :: (title_ ++ [39])))) ++ (41 :: []) by simp]
        rw [List.getElem?_append_right (by simp; omega)]
        rw [show 1 + (u :: us).length + 1 + (title_.length + 2) - (40 :: ((u :: us) ++ (32 :: 39 :: (title_ ++ [39])))).length = 0 by simp; omega]
        rfl)
  rw [key]
  simp only [Prod.mk.injEq, true_and, and_true]
  omega
/-- What stands between the target's brackets. -/
def targetT (url title_ : List UInt8) : List UInt8 := if title_ = [] then url else url ++ (32 :: 39 :: (title_ ++ [39]))
def behindB (url title_ : List UInt8) : List UInt8 := 40 :: (targetT url title_ ++ [41])
theorem target_inside (url title_ : List UInt8) (hu : Letters url) (hne : url ≠ []) (ht : Letters title_) : inside (behindB url title_) = (url, title_, (behindB url title_).length, true) := by
  unfold behindB targetT
  by_cases h : title_ = []
  · rw [if_pos h, h]
    have := inside_bare [] url [] [] (fun b hb => by cases hb) hu hne (fun b hb => by cases hb)
    simp only [List.nil_append, List.length_nil, Nat.zero_add, Nat.add_zero] at this
    rw [this]
    simp
  · rw [if_neg h]
    have := inside_quoted url title_ hu hne ht
    rw [show 40 :: (url ++ (32 :: 39 :: (title_ ++ [39])) ++ [41]) = 40 :: (url ++ (32 :: 39 :: (title_ ++ [39, 41]))) by simp, this]
    simp only [Prod.mk.injEq, true_and, and_true]
    simp; omega
theorem behindB_bytes (url title_ : List UInt8) (hu : Letters url) (ht : Letters title_) : ∀ c ∈ behindB url title_, c.toNat < 128 ∧ c ≠ 0 ∧ c ≠ 96 := by
  have hl : ∀ c : UInt8, 97 ≤ c.toNat ∧ c.toNat ≤ 122 → c.toNat < 128 ∧ c ≠ 0 ∧ c ≠ 96 := fun c => allB (p := fun c => 97 ≤ c.toNat ∧ c.toNat ≤ 122 → c.toNat < 128 ∧ c ≠ 0 ∧ c ≠ 96) (by unfold AllB; decide +kernel) c
  intro c hc
  unfold behindB targetT at hc
  split at hc
  · simp only [List.mem_cons, List.mem_append, List.not_mem_nil, or_false] at hc
    rcases hc with rfl | hc | rfl
    · decide
    · exact hl c (hu c hc)
    · decide
  · simp only [List.mem_cons, List.mem_append, List.not_mem_nil, or_false] at hc
    rcases hc with rfl | (hc | rfl | rfl | hc | rfl) | rfl
    · decide
    · exact hl c (hu c hc)
    · decide
    · decide
    · exact hl c (ht c hc)
    · decide
    · decide
theorem tail_of (url title_ : List UInt8) (hu : Letters url) (ht : Letters title_) : Tail ([93] ++ (behindB url title_ ++ [])) ∧ Plain128 ([93] ++ (behindB url title_ ++ [])) := by
  have hb := behindB_bytes url title_ hu ht
  rw [List.append_nil]
  refine ⟨⟨⟨_, rfl⟩, fun h => ?_⟩, fun c hc => ?_⟩
  · rcases List.mem_append.1 h with h | h
    · simp at h
    · exact (hb _ h).2.2 rfl
  · rcases List.mem_append.1 hc with hc | hc
    · rw [List.mem_singleton.1 hc]; decide
    · exact ⟨(hb c hc).1, (hb c hc).2.1⟩
theorem link_inside (url title_ x : List UInt8) (hu : Letters url) (hne : url ≠ []) (ht : Letters title_) : inlLinkL none x (behindB url title_ ++ []) = (⟨5, 0, [], url, title_⟩, (behindB url title_).length, true) := by
  unfold inlLinkL
  rw [List.append_nil, target_inside url title_ hu hne ht, if_pos rfl]

/-! ### InlineLinks -/
def linkText (s url title_ : List UInt8) : List UInt8 := [91] ++ (s ++ ([93] ++ (behindB url title_ ++ [])))
def imageText (s url title_ : List UInt8) : List UInt8 := [33, 91] ++ (s ++ ([93] ++ (behindB url title_ ++ [])))
theorem sided_head {s : List UInt8} (hs : Sided s) (k : UInt8) (hk : inA k = false) : s.head? ≠ some k := by
  intro e
  have := hs.all k (List.mem_of_mem_head? e)
  rw [hk] at this; cases this
theorem link_plain (s url title_ : List UInt8) (hs : Sided s) (hu : Letters url) (hne : url ≠ []) (ht : Letters title_) : parse0 none (linkText s url title_) = ⟨5, 0, [], url, title_⟩ :: deeperL (parse0 none s) := by
  obtain ⟨hT, hTp⟩ := tail_of url title_ hu ht
  obtain ⟨X, x1, x2⟩ := run_in [91] s _ hs hT hTp (fun c hc => by rw [List.mem_singleton.1 hc]; decide) rfl (fun _ => []) s.length 0 (by omega) (Nat.zero_le _) (fun _ => by simp)
  have hp : parse0 none s = groupL X := by
    unfold parse0
    rw [parse_from, x1]
    rfl
  have hap := parse0_nest none s
  have hcl : ∀ y ∈ parse0 none s, Clean y := by rw [hp]; exact group_clean X
  have e1 := run_open none [] (fun _ => []) ⟨[], []⟩ (linkText s url title_) [] (s ++ ([93] ++ (behindB url title_ ++ []))) rfl
  have e2 := x2 [W [91]] [⟨0, 1, false, false⟩]
  have hclose := run_close none [] (fun _ => []) [91] s (behindB url title_) [] ([W [91]] ++ X) [] 0 _ (close_link (mid_eq [91] s _) (drop_behind [91] s _) rfl rfl (by rw [asked_no none s (sided_head hs 94 (by decide)) (sided_head hs 35 (by decide))]) (link_inside url title_ s hu hne ht))
  have hfin : parseFrom none (linkText s url title_) [] (fun _ => []) ⟨[], []⟩ 0 = ⟨[⟨0, 0, false, false, withinL ⟨5, 0, [], url, title_⟩ (groupL X)⟩], []⟩ := by
    rw [show parseFrom none (linkText s url title_) [] (fun _ => []) ⟨[], []⟩ 0 = parseFrom none (linkText s url title_) [] (fun _ => []) ⟨[W [91]], [⟨0, 1, false, false⟩]⟩ 1 from e1]
    rw [show parseFrom none (linkText s url title_) [] (fun _ => []) ⟨[W [91]], [⟨0, 1, false, false⟩]⟩ 1 = parseFrom none (linkText s url title_) [] (fun _ => []) ⟨[W [91]] ++ X, [⟨0, 1, false, false⟩]⟩ (([91] : List UInt8).length + s.length) from e2]
    rw [← List.length_append]
    have h3 : parseFrom none (linkText s url title_) [] (fun _ => []) ⟨[W [91]] ++ X, [⟨0, 1, false, false⟩]⟩ ([91] ++ s).length = parseFrom none (linkText s url title_) [] (fun _ => []) ⟨[⟨0, 0, false, false, withinL ⟨5, 0, [], url, title_⟩ (groupL X)⟩], []⟩ ([91] ++ s ++ ([93] ++ behindB url title_)).length := hclose
    rw [h3]
    rw [from_end _ _ _ _ _ _ (by simp [linkText])]
  conv => lhs; unfold parse0
  rw [parse_from, hfin, ← hp]
  show groupL [⟨0, 0, false, false, withinL ⟨5, 0, [], url, title_⟩ (parse0 none s)⟩] = _
  rw [group_plain _ (fun x hx => by rw [List.mem_singleton.1 hx])]
  show mergeL ((⟨5, 0, [], url, title_⟩ :: deeperL (parse0 none s)) ++ []) = _
  rw [List.append_nil]
  refine merge_apart (apart_other (by show (5 : Nat) ≠ 1; decide) (by rw [deeper_shift]; exact apart_shift 1 _ hap.1)) ?_
  intro y hy
  rcases List.mem_cons.1 hy with rfl | hy
  · intro h; cases h
  · rw [deeper_shift] at hy; exact clean_shift hcl y hy
theorem image_plain (s url title_ : List UInt8) (hs : Sided s) (hu : Letters url) (hne : url ≠ []) (ht : Letters title_) : parse0 none (imageText s url title_) = [⟨6, 0, textL (parse0 none s), url, title_⟩] := by
  obtain ⟨hT, hTp⟩ := tail_of url title_ hu ht
  obtain ⟨X, x1, x2⟩ := run_in [33, 91] s _ hs hT hTp (show Plain128 [33, 91] from fun c hc => by simp at hc; rcases hc with rfl | rfl <;> decide) rfl (fun _ => []) s.length 0 (by omega) (Nat.zero_le _) (fun _ => by simp)
  have hp : parse0 none s = groupL X := by
    unfold parse0
    rw [parse_from, x1]
    rfl
  have e1 := run_image none [] (fun _ => []) ⟨[], []⟩ (imageText s url title_) [] (s ++ ([93] ++ (behindB url title_ ++ []))) rfl
  have e2 := x2 [W [33, 91]] [⟨0, 2, true, false⟩]
  have hclose := run_shut none [] (fun _ => []) ⟨[W [33, 91]] ++ X, [] ++ [⟨0, 2, true, false⟩]⟩ (imageText s url title_) ([33, 91] ++ s) (behindB url title_) [] _ (by simp [imageText]) (by
    rw [close_some]
    exact close_image (o := ⟨0, 2, true, false⟩) (mid_eq [33, 91] s _) (drop_behind [33, 91] s _) rfl rfl (link_inside url title_ s hu hne ht))
  have hfin : parseFrom none (imageText s url title_) [] (fun _ => []) ⟨[], []⟩ 0 = ⟨[⟨0, 0, false, false, [⟨6, 0, textL (groupL X), url, title_⟩]⟩], []⟩ := by
    rw [show parseFrom none (imageText s url title_) [] (fun _ => []) ⟨[], []⟩ 0 = parseFrom none (imageText s url title_) [] (fun _ => []) ⟨[W [33, 91]], [⟨0, 2, true, false⟩]⟩ 2 from e1]
    rw [show parseFrom none (imageText s url title_) [] (fun _ => []) ⟨[W [33, 91]], [⟨0, 2, true, false⟩]⟩ 2 = parseFrom none (imageText s url title_) [] (fun _ => []) ⟨[W [33, 91]] ++ X, [⟨0, 2, true, false⟩]⟩ (([33, 91] : List UInt8).length + s.length) from e2]
    rw [← List.length_append]
    have h3 : parseFrom none (imageText s url title_) [] (fun _ => []) ⟨[W [33, 91]] ++ X, [⟨0, 2, true, false⟩]⟩ ([33, 91] ++ s).length = parseFrom none (imageText s url title_) [] (fun _ => []) ⟨[⟨0, 0, false, false, [⟨6, 0, textL (groupL X), url, title_⟩]⟩], []⟩ ([33, 91] ++ s ++ ([93] ++ behindB url title_)).length := hclose
    rw [h3]
    rw [from_end _ _ _ _ _ _ (by simp [imageText])]
  conv => lhs; unfold parse0
  rw [parse_from, hfin, ← hp]
  rfl
theorem text_deeper : ∀ (l : List Inl), textL (deeperL l) = textL l
  | [] => rfl
  | x :: l => by
    have := text_deeper l
    unfold textL deeperL at this ⊢
    rw [List.map_cons, List.flatMap_cons, List.flatMap_cons, this]
    rfl

end Go.Proofs.YtahljcbmckldhaaGreatDoor
