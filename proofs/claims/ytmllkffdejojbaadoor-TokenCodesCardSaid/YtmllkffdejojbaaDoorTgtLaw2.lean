/-
  What target's readers make of plain text, second part: titles, brackets, schemes.
-/
import Derived.Test.YtmllkffdejojbaaDoorTgtLaw
import Derived.Lib.TrimAscii
import Derived.Lib.TrimUEq
namespace Go.Proofs.YtmllkffdejojbaaDoor
open Go.RowKit

theorem letters_scan {l : List UInt8} (h : Letters l) (e : UInt8) (bad : UInt8 → Bool) (he : e.toNat < 97) (hb : ∀ b, 97 ≤ b.toNat → bad b = false) : ∀ b ∈ l, b ≠ 92 ∧ b ≠ e ∧ bad b = false ∧ b ≠ 0 := fun b hb' => by
  have := h b hb'
  exact ⟨ne_of_toNat (by simp; omega), ne_of_toNat (by omega), hb b this.1, ne_of_toNat (by simp; omega)⟩

theorem not_bad (e : UInt8) : ∀ b : UInt8, 97 ≤ b.toNat → (b == 40 && e == 41) = false := fun b h => by
  have : (b == 40) = false := by rw [beq_eq_false_iff_ne]; exact ne_of_toNat (by simp; omega)
  rw [this]; rfl

/-- What a title's first sign ends with. -/
def endOf (q : UInt8) : UInt8 := if q = 40 then 41 else q
def IsQuote (q : UInt8) : Prop := q = 34 ∨ q = 39 ∨ q = 40
theorem IsQuote.facts {q : UInt8} (h : IsQuote q) : (endOf q).toNat < 97 ∧ endOf q ≠ 92 ∧ endOf q ≠ 0 ∧ asciiP (endOf q) = true := by
  rcases h with rfl | rfl | rfl <;> decide

theorem title_eq (q : UInt8) (r : List UInt8) (h : IsQuote q) : title (q :: r) = (match scanTo (endOf q) (fun d => d == 40 && endOf q == 41) r.length r 1 with
    | some i => (unesc (((q :: r).take i).drop 1), i + 1, true)
    | none => ([], 0, false)) := by
  unfold title
  simp only
  rw [if_pos (show q = 34 ∨ q = 39 ∨ q = 40 from h)]
  rfl

theorem title_sign (q : UInt8) (a b r : List UInt8) (hq : IsQuote q) (ha : Letters a) (hb : Letters b) :
    title (q :: (a ++ 92 :: endOf q :: (b ++ endOf q :: r))) = (a ++ endOf q :: b, a.length + b.length + 4, true) := by
  obtain ⟨f1, f2, f3, f4⟩ := hq.facts
  rw [title_eq q _ hq]
  have hs : scanTo (endOf q) (fun d => d == 40 && endOf q == 41) (a ++ 92 :: endOf q :: (b ++ endOf q :: r)).length (a ++ 92 :: endOf q :: (b ++ endOf q :: r)) 1 = some (a.length + b.length + 3) := by
    rw [show (a ++ 92 :: endOf q :: (b ++ endOf q :: r)).length = a.length + ((b.length + ((r.length + 1) + 1)) + 1) by simp; omega]
    rw [scan_plain _ _ a _ _ _ (letters_scan ha _ _ f1 (not_bad _)), scan_slash _ _ _ _ _ _ f3, scan_plain _ _ b _ _ _ (letters_scan hb _ _ f1 (not_bad _)), scan_hit _ _ _ _ _ f2]
    congr 1; omega
  rw [hs]
  simp only
  have ht : ((q :: (a ++ 92 :: endOf q :: (b ++ endOf q :: r))).take (a.length + b.length + 3)).drop 1 = a ++ 92 :: endOf q :: b := by
    rw [List.take_cons (by omega)]
    simp only [List.drop_succ_cons, List.drop_zero]
    rw [show a ++ 92 :: endOf q :: (b ++ endOf q :: r) = (a ++ 92 :: endOf q :: b) ++ (endOf q :: r) by simp]
    exact List.take_left' (by simp; omega)
  rw [ht]
  have hu : unesc (a ++ 92 :: endOf q :: b) = a ++ endOf q :: b := by
    unfold unesc
    rw [show (a ++ 92 :: endOf q :: b).length = a.length + ((b.length + 1) + 1) by simp, unescF_plain a _ _ ha.plain, unescF_sign _ _ _ f4]
    have := unescF_plain b 1 [] hb.plain
    simp [unescF_nil] at this
    rw [this]
  rw [hu]

theorem title_open (q : UInt8) (a b : List UInt8) (hq : IsQuote q) (ha : Letters a) (hb : Letters b) :
    title (q :: (a ++ 92 :: endOf q :: b)) = ([], 0, false) := by
  obtain ⟨f1, f2, f3, f4⟩ := hq.facts
  rw [title_eq q _ hq]
  have hs : scanTo (endOf q) (fun d => d == 40 && endOf q == 41) (a ++ 92 :: endOf q :: b).length (a ++ 92 :: endOf q :: b) 1 = none := by
    rw [show (a ++ 92 :: endOf q :: b).length = a.length + ((b.length + 1) + 1) by simp]
    rw [scan_plain _ _ a _ _ _ (letters_scan ha _ _ f1 (not_bad _)), scan_slash _ _ _ _ _ _ f3]
    have := scan_plain (endOf q) (fun d => d == 40 && endOf q == 41) b 1 (1 + a.length + 2) [] (letters_scan hb _ _ f1 (not_bad _))
    rw [List.append_nil] at this
    rw [this, scan_nil]
  rw [hs]

theorem title_letters (t r : List UInt8) (ht : Letters t) : title (34 :: (t ++ 34 :: r)) = (t, t.length + 2, true) := by
  rw [title_eq 34 _ (Or.inl rfl)]
  have hs : scanTo (endOf 34) (fun d => d == 40 && endOf 34 == 41) (t ++ 34 :: r).length (t ++ 34 :: r) 1 = some (t.length + 1) := by
    rw [show (t ++ 34 :: r).length = t.length + (r.length + 1) by simp]
    rw [scan_plain _ _ t _ _ _ (letters_scan ht _ _ (by decide) (not_bad _))]
    rw [show endOf 34 = 34 from rfl, scan_hit _ _ _ _ _ (by decide)]
    congr 1; omega
  rw [hs]
  simp only
  have e : ((34 :: (t ++ 34 :: r)).take (t.length + 1)).drop 1 = t := by
    rw [List.take_cons (by omega)]
    simp only [List.drop_succ_cons, List.drop_zero]
    exact List.take_left' (by simp)
  rw [e, unesc_plain _ ht.plain]

/-! ### between brackets -/
def White (l : List UInt8) : Prop := ∀ b ∈ l, whites.contains b = true
theorem White.isW {b : UInt8} (h : whites.contains b = true) : isWhite b = true := by
  simp [whites] at h
  rcases h with rfl | rfl | rfl <;> decide

theorem dropWhile_white : ∀ (w : List UInt8) (c : UInt8) (r : List UInt8), White w → whites.contains c = false → Lib.trimLeftS (w ++ c :: r) whites = c :: r := by
  intro w
  induction w with
  | nil => intro c r _ hc; unfold Lib.trimLeftS; rw [List.nil_append, List.dropWhile_cons_of_neg (by rw [hc]; simp)]
  | cons b w ih =>
    intro c r hw hc
    have := ih c r (fun x hx => hw x (List.mem_cons_of_mem _ hx)) hc
    unfold Lib.trimLeftS at *
    rw [List.cons_append, List.dropWhile_cons_of_pos (hw b (List.mem_cons_self ..)), this]

theorem skip_white (p w r : List UInt8) (c : UInt8) (n : Nat) (hn : n = p.length) (hw : White w) (hc : whites.contains c = false) : skipW (p ++ (w ++ c :: r)) n = n + w.length := by
  subst hn
  unfold skipW
  rw [List.drop_left' rfl, dropWhile_white w c r hw hc]
  simp; omega

theorem letter_black {c : UInt8} (h : 97 ≤ c.toNat) : whites.contains c = false := by
  have h1 : c ≠ 32 := ne_of_toNat (by simp; omega)
  have h2 : c ≠ 9 := ne_of_toNat (by simp; omega)
  have h3 : c ≠ 10 := ne_of_toNat (by simp; omega)
  simp [whites, h1, h2, h3]

theorem title_none (r : List UInt8) : title (41 :: r) = ([], 0, false) := by
  unfold title
  simp only
  rw [if_neg (by rintro (h | h | h) <;> exact absurd h (by decide))]

theorem inside_eq (l : List UInt8) (a b z : Nat) (d : List UInt8 × Nat × Bool) (t : List UInt8 × Nat × Bool) (h0 : l.head? = some 40) (ha : skipW l 1 = a) (hd : dest (l.drop a) = d) (hd2 : d.2.2 = true) (hb : skipW l (a + d.2.1) = b)
    (ht : (if a + d.2.1 < b then title (l.drop b) else ([], 0, false)) = t) (hz : (if t.2.2 then skipW l (b + t.2.1) else b) = z) (hl : l[z]? = some 41) : inside l = (d.1, t.1, z + 1, true) := by
  unfold inside
  rw [if_pos h0]
  simp only [ha, hd, hd2, if_true, hb, decide_eq_true_eq, ht, hz, hl]

theorem inside_bare (ga url gc more : List UInt8) (hga : White ga) (hu : Letters url) (hne : url ≠ []) (hgc : White gc) :
    inside (40 :: (ga ++ (url ++ (gc ++ 41 :: more)))) = (url, [], ga.length + url.length + gc.length + 2, true) := by
  obtain ⟨u, us, rfl⟩ : ∃ u us, url = u :: us := by cases url with | nil => exact absurd rfl hne | cons u us => exact ⟨u, us, rfl⟩
  have hub := letter_black hu.head.1
  have hd : dest ((u :: us) ++ (gc ++ 41 :: more)) = (u :: us, (u :: us).length, true) := by
    cases gc with
    | nil => exact dest_letters _ _ _ hu (by simp) (Or.inr rfl)
    | cons g gs => exact dest_letters _ _ g hu (by simp) (Or.inl (White.isW (hgc g (List.mem_cons_self ..))))
  have key := inside_eq (40 :: (ga ++ ((u :: us) ++ (gc ++ 41 :: more)))) (1 + ga.length) (1 + ga.length + (u :: us).length + gc.length) (1 + ga.length + (u :: us).length + gc.length) (u :: us, (u :: us).length, true) ([], 0, false) rfl
    (skip_white [40] ga _ u 1 rfl hga hub)
    (by rw [show 40 :: (ga ++ ((u :: us) ++ (gc ++ 41 :: more))) = (40 :: ga) ++ ((u :: us) ++ (gc ++ 41 :: more)) by simp, List.drop_left' (by simp; omega), hd]) rfl
    (by
      rw [show 40 :: (ga ++ ((u :: us) ++ (gc ++ 41 :: more))) = (40 :: (ga ++ (u :: us))) ++ (gc ++ 41 :: more) by simp]
      exact skip_white _ gc more 41 _ (by simp; omega) hgc (by decide))
    (by
      split
      · rw [show 40 :: (ga ++ ((u :: us) ++ (gc ++ 41 :: more))) = (40 :: (ga ++ (u :: us) ++ gc)) ++ (41 :: more) by simp, List.drop_left' (by simp; omega), title_none]
      · rfl)
    rfl
    (by rw [show 40 :: (ga ++ ((u :: us) ++ (gc ++ 41 :: more))) = (40 :: (ga ++ (u :: us) ++ gc)) ++ (41 :: more) by simp]
        rw [List.getElem?_append_right (by simp; omega)]
        rw [show 1 + ga.length + (u :: us).length + gc.length - (40 :: (ga ++ (u :: us) ++ gc)).length = 0 by simp; omega]
        rfl)
  rw [key]
  simp only [Prod.mk.injEq, true_and, and_true]
  omega

theorem inside_titled (ga url gb title_ gc more : List UInt8) (hga : White ga) (hu : Letters url) (hne : url ≠ []) (hgb : White gb) (hgb0 : gb ≠ []) (ht : Letters title_) (hgc : White gc) :
    inside (40 :: (ga ++ (url ++ (gb ++ 34 :: (title_ ++ 34 :: (gc ++ 41 :: more)))))) = (url, title_, ga.length + url.length + gb.length + title_.length + gc.length + 4, true) := by
  obtain ⟨u, us, rfl⟩ : ∃ u us, url = u :: us := by cases url with | nil => exact absurd rfl hne | cons u us => exact ⟨u, us, rfl⟩
  have hub := letter_black hu.head.1
  obtain ⟨g, gs, rfl⟩ : ∃ g gs, gb = g :: gs := by cases gb with | nil => exact absurd rfl hgb0 | cons u us => exact ⟨u, us, rfl⟩
  have hd : dest ((u :: us) ++ ((g :: gs) ++ 34 :: (title_ ++ 34 :: (gc ++ 41 :: more)))) = (u :: us, (u :: us).length, true) :=
    dest_letters _ _ g hu (by simp) (Or.inl (White.isW (hgb g (List.mem_cons_self ..))))
  have key := inside_eq (40 :: (ga ++ ((u :: us) ++ ((g :: gs) ++ 34 :: (title_ ++ 34 :: (gc ++ 41 :: more)))))) (1 + ga.length) (1 + ga.length + (u :: us).length + (g :: gs).length) (1 + ga.length + (u :: us).length + (g :: gs).length + (title_.length + 2) + gc.length) (u :: us, (u :: us).length, true) (title_, title_.length + 2, true) rfl
    (skip_white [40] ga _ u 1 rfl hga hub)
    (by rw [show 40 :: (ga ++ ((u :: us) ++ ((g :: gs) ++ 34 :: (title_ ++ 34 :: (gc ++ 41 :: more))))) = (40 :: ga) ++ ((u :: us) ++ ((g :: gs) ++ 34 :: (title_ ++ 34 :: (gc ++ 41 :: more)))) by simp, List.drop_left' (by simp; omega), hd]) rfl
    (by
      rw [show 40 :: (ga ++ ((u :: us) ++ ((g :: gs) ++ 34 :: (title_ ++ 34 :: (gc ++ 41 :: more))))) = (40 :: (ga ++ (u :: us))) ++ ((g :: gs) ++ 34 :: (title_ ++ 34 :: (gc ++ 41 :: more))) by simp]
      exact skip_white _ (g :: gs) _ 34 _ (by simp; omega) hgb (by decide))
    (by
      rw [if_pos (by simp)]
      rw [show 40 :: (ga ++ ((u :: us) ++ ((g :: gs) ++ 34 :: (title_ ++ 34 :: (gc ++ 41 :: more))))) = (40 :: (ga ++ (u :: us) ++ (g :: gs))) ++ (34 :: (title_ ++ 34 :: (gc ++ 41 :: more))) by simp, List.drop_left' (by simp; omega), title_letters _ _ ht])
    (by
      simp only [if_true]
      rw [show 40 :: (ga ++ ((u :: us) ++ ((g :: gs) ++ 34 :: (title_ ++ 34 :: (gc ++ 41 :: more))))) = (40 :: (ga ++ (u :: us) ++ (g :: gs) ++ 34 :: (title_ ++ [34]))) ++ (gc ++ 41 :: more) by simp]
      exact skip_white _ gc more 41 _ (by simp; omega) hgc (by decide))
    (by rw [show 40 :: (ga ++ ((u :: us) ++ ((g :: gs) ++ 34 :: (title_ ++ 34 :: (gc ++ 41 :: more))))) = (40 :: (ga ++ (u :: us) ++ (g :: gs) ++ 34 :: (title_ ++ 34 :: gc))) ++ (41 :: more) by simp]
        rw [List.getElem?_append_right (by simp; omega)]
        rw [show 1 + ga.length + (u :: us).length + (g :: gs).length + (title_.length + 2) + gc.length - (40 :: (ga ++ (u :: us) ++ (g :: gs) ++ 34 :: (title_ ++ 34 :: gc))).length = 0 by simp; omega]
        rfl)
  rw [key]
  simp only [Prod.mk.injEq, true_and, and_true]
  omega

theorem getD_lt (l : List UInt8) (j : Nat) (h : j < l.length) : l.getD j 0 = l[j] := by simp [List.getD_eq_getElem?_getD, h]

/-! ### schemes -/
def stripL : Nat → List UInt8 → List UInt8
  | 0, _ => []
  | n + 1, l => if l = [] then [] else keepR (lowR (Lib.decodeL l).1) ++ stripL n (l.drop (Lib.decodeL l).2)

theorem strip_list (s : ByteArray) : ∀ (f pos : Nat), stripFrom s f pos = stripL f (s.data.toList.drop pos) := by
  intro f
  induction f with
  | zero => intro pos; rfl
  | succ f ih =>
    intro pos
    by_cases hp : pos < s.size
    · have hne : s.data.toList.drop pos ≠ [] := by
        intro h0
        have := congrArg List.length h0
        simp at this; omega
      rw [stripFrom_succ s f pos hp]
      unfold stripL
      rw [if_neg hne, Lib.decodeL_drop, ih, List.drop_drop]
    · rw [stripFrom_end s _ pos hp]
      have : s.data.toList.drop pos = [] := List.drop_eq_nil_of_le (by simp; omega)
      unfold stripL
      rw [if_pos this]

theorem strip_eq (s : ByteArray) : strip s = stripL s.data.toList.length s.data.toList := by
  unfold strip
  rw [strip_list]
  simp

theorem strip_ascii (c : UInt8) (l : List UInt8) (n : Nat) (h : c.toNat < 128) : stripL (n + 1) (c :: l) = keepR (lowR c.toNat) ++ stripL n l := by
  rw [stripL, if_neg (by simp), Lib.decodeL_ascii c l h]
  rfl

theorem strip_asciis : ∀ (a l : List UInt8) (n : Nat), (∀ b ∈ a, b.toNat < 128) → stripL (a.length + n) (a ++ l) = a.flatMap (fun c => keepR (lowR c.toNat)) ++ stripL n l := by
  intro a
  induction a with
  | nil => intro l n _; simp
  | cons c a ih =>
    intro l n h
    rw [show (c :: a).length + n = (a.length + n) + 1 by simp; omega, List.cons_append, strip_ascii _ _ _ (h c (List.mem_cons_self ..)), ih l n (fun b hb => h b (List.mem_cons_of_mem _ hb))]
    simp

/-- A letter that is written great, as the law does it. -/
def greatB (u : Bool) (c : UInt8) : UInt8 := if u && (97 ≤ c && c ≤ 122) then c - 32 else c
theorem great_strip (u : Bool) : ∀ c : UInt8, (32 < c.toNat ∧ c.toNat < 127 ∧ ¬ (65 ≤ c.toNat ∧ c.toNat ≤ 90)) → (greatB u c).toNat < 128 ∧ keepR (lowR (greatB u c).toNat) = [c] := by
  intro c
  cases u
  · exact allB (p := fun c => (32 < c.toNat ∧ c.toNat < 127 ∧ ¬ (65 ≤ c.toNat ∧ c.toNat ≤ 90)) → (greatB false c).toNat < 128 ∧ keepR (lowR (greatB false c).toNat) = [c]) (by unfold AllB; decide +kernel) c
  · exact allB (p := fun c => (32 < c.toNat ∧ c.toNat < 127 ∧ ¬ (65 ≤ c.toNat ∧ c.toNat ≤ 90)) → (greatB true c).toNat < 128 ∧ keepR (lowR (greatB true c).toNat) = [c]) (by unfold AllB; decide +kernel) c
theorem gap_strip : ∀ c : UInt8, (c.toNat ≤ 32 ∨ c.toNat = 127) → c.toNat < 128 ∧ keepR (lowR c.toNat) = [] :=
  fun c => allB (p := fun c => (c.toNat ≤ 32 ∨ c.toNat = 127) → c.toNat < 128 ∧ keepR (lowR c.toNat) = []) (by unfold AllB; decide +kernel) c

/-- The eight beginnings of the law. -/
def heads8 : List (List UInt8) := [[106, 97, 118, 97, 115, 99, 114, 105, 112, 116, 58], [118, 98, 115, 99, 114, 105, 112, 116, 58], [102, 105, 108, 101, 58], [100, 97, 116, 97, 58], [104, 116, 116, 112, 115, 58], [109, 97, 105, 108, 116, 111, 58], [47, 102, 105, 108, 101, 58], [100, 97, 116, 117, 109, 58]]

theorem heads_plain : ∀ k : Fin 8, ∀ c ∈ heads8.getD k.val [], 32 < c.toNat ∧ c.toNat < 127 ∧ ¬ (65 ≤ c.toNat ∧ c.toNat ≤ 90) := by decide

theorem safe_head : ∀ (k : Fin 8) (x : List UInt8), safeL (heads8.getD k.val [] ++ x) = decide (4 ≤ k.val) := by
  intro k x
  match k with
  | 0 => rfl
  | 1 => rfl
  | 2 => rfl
  | 3 => rfl
  | 4 => rfl
  | 5 => rfl
  | 6 => rfl
  | 7 => rfl

/-- What the law builds of a beginning: some letters great, one blank byte between them. -/
theorem schemes_safe (k : Fin 8) (g : List UInt8) (gap : UInt8) (i : Nat) (rest : List UInt8) (hgap : gap.toNat ≤ 32 ∨ gap.toNat = 127)
    (hg : g.length = (heads8.getD k.val []).length) (hgb : ∀ j, j < g.length → ∃ u, g.getD j 0 = greatB u ((heads8.getD k.val []).getD j 0)) :
    safeL (stripL (g.take i ++ gap :: (g.drop i ++ rest)).length (g.take i ++ gap :: (g.drop i ++ rest))) = decide (4 ≤ k.val) := by
  have hall : ∀ j, j < g.length → (g.getD j 0).toNat < 128 ∧ keepR (lowR (g.getD j 0).toNat) = [(heads8.getD k.val []).getD j 0] := by
    intro j hj
    obtain ⟨u, hu⟩ := hgb j hj
    rw [hu]
    refine great_strip u _ (heads_plain k _ ?_)
    rw [getD_lt _ _ (by omega)]
    exact List.getElem_mem ..
  have hmem : ∀ b ∈ g, b.toNat < 128 := by
    intro b hb
    obtain ⟨j, hj, rfl⟩ := List.mem_iff_getElem.1 hb
    have := (hall j hj).1
    rwa [getD_lt _ _ hj] at this
  have hflat : g.flatMap (fun c => keepR (lowR c.toNat)) = heads8.getD k.val [] := by
    have e : ∀ (a b : List UInt8), a.length = b.length → (∀ j, j < a.length → keepR (lowR (a.getD j 0).toNat) = [b.getD j 0]) → a.flatMap (fun c => keepR (lowR c.toNat)) = b := by
      intro a
      induction a with
      | nil => intro b hb _; cases b with | nil => rfl | cons _ _ => simp at hb
      | cons c a ih =>
        intro b hb h
        cases b with
        | nil => simp at hb
        | cons d b =>
          rw [List.flatMap_cons]
          have h0 := h 0 (by simp)
          simp only [List.getD_cons_zero] at h0
          rw [h0, ih b (by simpa using hb) (fun j hj => by
            have := h (j + 1) (by simpa using hj)
            simpa using this)]
          rfl
    exact e g _ hg (fun j hj => (hall j hj).2)
  obtain ⟨g1, g2⟩ := gap_strip gap hgap
  have h1 : ∀ b ∈ g.take i, b.toNat < 128 := fun b hb => hmem b (List.mem_of_mem_take hb)
  have h2 : ∀ b ∈ g.drop i, b.toNat < 128 := fun b hb => hmem b (List.mem_of_mem_drop hb)
  rw [show (g.take i ++ gap :: (g.drop i ++ rest)).length = (g.take i).length + (((g.drop i).length + rest.length) + 1) by simp]
  rw [strip_asciis _ _ _ h1, strip_ascii _ _ _ g1, g2, List.nil_append, strip_asciis _ _ _ h2, ← List.append_assoc, ← List.flatMap_append, List.take_append_drop, hflat]
  exact safe_head k _

/-! ### brackets: each of the law's inputs, by the kernel -/
def brackets (n m : Nat) : List UInt8 := 97 :: (List.replicate n 40 ++ List.replicate m 41)
theorem brackets_dest : ∀ n m : Fin 11, (let d := dest (brackets n.val m.val)
    if m.val < n.val then d.2.2 = false ∧ d.2.1 = 0 else d.2.2 = true ∧ d.2.1 = 1 + 2 * n.val) := by decide +kernel

end Go.Proofs.YtmllkffdejojbaaDoor
