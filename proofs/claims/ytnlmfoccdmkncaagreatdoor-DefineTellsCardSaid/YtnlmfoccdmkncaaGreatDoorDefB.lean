/-
  The texts TgtLaw2, Title, Name, Inside, Link, LineSpec, TabSpec, Own, InlMem, Line, SetDef, Line2, DefLaw, Take, Table, Table2, Add, one behind the other.
-/
import Derived.Test.YtnlmfoccdmkncaaGreatDoorDefA
import Derived.Lib.TrimAscii
import Derived.Lib.TrimUEq
import Derived.Shelf.Strings.SlTrimAscii
import Derived.Test.YtnlmfoccdmkncaaGreatDoorRows
import Derived.Deep.Grids
import Derived.Laws.IdiomStrings
import Derived.OpenShut
import Derived.Below
import Derived.Laws.OwnMore
import Derived.OwnWalk
import Derived.Laws.AppendOwnNone
import Derived.Deep.RegionLaw
import Derived.Deep.AppendLies

/-
  What target's readers make of plain text, second part: titles, brackets, schemes.
-/
namespace Go.Proofs.YtnlmfoccdmkncaaGreatDoor
open Go.RowKit

theorem letters_scan {l : List UInt8} (h : Letters l) (e : UInt8) (bad : UInt8 → Bool) (he : e.toNat < 97) (hb : ∀ b, 97 ≤ b.toNat → bad b = false) : ∀ b ∈ l, b ≠ 92 ∧ b ≠ e ∧ bad b = false ∧ b ≠ 0 := fun b hb' => by
  have := h b hb'
  exact ⟨ne_of_toNat (by simp; omega), ne_of_toNat (by omega), hb b this.1, ne_of_toNat (by simp; omega)⟩

theorem not_bad (e : UInt8) : ∀ b : UInt8, 97 ≤ b.toNat → (b == 40 && e == 41) = false := fun b h => by
  have : (b == 40) = false := by rw [beq_eq_false_iff_ne]; exact ne_of_toNat (by simp; omega)
  rw [this]; rfl

/-- What a title's first sign ends with. -/
def endOf (q : UInt8) : UInt8 := if q = 40 then 41 else q
def IsQuote (q : UInt8) : Prop := q = 34 ∨ q = 39 ∨ q = 40
theorem IsQuote.facts {q : UInt8} (h : IsQuote q) : (endOf q).toNat < 97 ∧ endOf q ≠ 92 ∧ endOf q ≠ 0 ∧ asciiP (endOf q) = true := by
  rcases h with rfl | rfl | rfl <;> decide

theorem title_eq (q : UInt8) (r : List UInt8) (h : IsQuote q) : title (q :: r) = (match scanTo (endOf q) (fun d => d == 40 && endOf q == 41) r.length r 1 with
    | some i => (unesc (((q :: r).take i).drop 1), i + 1, true)
    | none => ([], 0, false)) := by
  unfold title
  simp only
  rw [if_pos (show q = 34 ∨ q = 39 ∨ q = 40 from h)]
  rfl

theorem title_sign (q : UInt8) (a b r : List UInt8) (hq : IsQuote q) (ha : Letters a) (hb : Letters b) :
    title (q :: (a ++ 92 :: endOf q :: (b ++ endOf q :: r))) = (a ++ endOf q :: b, a.length + b.length + 4, true) := by
  obtain ⟨f1, f2, f3, f4⟩ := hq.facts
  rw [title_eq q _ hq]
  have hs : scanTo (endOf q) (fun d => d == 40 && endOf q == 41) (a ++ 92 :: endOf q :: (b ++ endOf q :: r)).length (a ++ 92 :: endOf q :: (b ++ endOf q :: r)) 1 = some (a.length + b.length + 3) := by
    rw [show (a ++ 92 :: endOf q :: (b ++ endOf q :: r)).length = a.length + ((b.length + ((r.length + 1) + 1)) + 1) by simp; omega]
    rw [scan_plain _ _ a _ _ _ (letters_scan ha _ _ f1 (not_bad _)), scan_slash _ _ _ _ _ _ f3, scan_plain _ _ b _ _ _ (letters_scan hb _ _ f1 (not_bad _)), scan_hit _ _ _ _ _ f2]
    congr 1; omega
  rw [hs]
  simp only
  have ht : ((q :: (a ++ 92 :: endOf q :: (b ++ endOf q :: r))).take (a.length + b.length + 3)).drop 1 = a ++ 92 :: endOf q :: b := by
    rw [List.take_cons (by omega)]
    simp only [List.drop_succ_cons, List.drop_zero]
    rw [show a ++ 92 :: endOf q :: (b ++ endOf q :: r) = (a ++ 92 :: endOf q :: b) ++ (endOf q :: r) by simp]
    exact List.take_left' (by simp; omega)
  rw [ht]
  have hu : unesc (a ++ 92 :: endOf q :: b) = a ++ endOf q :: b := by
    unfold unesc
    rw [show (a ++ 92 :: endOf q :: b).length = a.length + ((b.length + 1) + 1) by simp, unescF_plain a _ _ ha.plain, unescF_sign _ _ _ f4]
    have := unescF_plain b 1 [] hb.plain
    simp [unescF_nil] at this
    rw [this]
  rw [hu]

theorem title_open (q : UInt8) (a b : List UInt8) (hq : IsQuote q) (ha : Letters a) (hb : Letters b) :
    title (q :: (a ++ 92 :: endOf q :: b)) = ([], 0, false) := by
  obtain ⟨f1, f2, f3, f4⟩ := hq.facts
  rw [title_eq q _ hq]
  have hs : scanTo (endOf q) (fun d => d == 40 && endOf q == 41) (a ++ 92 :: endOf q :: b).length (a ++ 92 :: endOf q :: b) 1 = none := by
    rw [show (a ++ 92 :: endOf q :: b).length = a.length + ((b.length + 1) + 1) by simp]
    rw [scan_plain _ _ a _ _ _ (letters_scan ha _ _ f1 (not_bad _)), scan_slash _ _ _ _ _ _ f3]
    have := scan_plain (endOf q) (fun d => d == 40 && endOf q == 41) b 1 (1 + a.length + 2) [] (letters_scan hb _ _ f1 (not_bad _))
    rw [List.append_nil] at this
    rw [this, scan_nil]
  rw [hs]

theorem title_letters (t r : List UInt8) (ht : Letters t) : title (34 :: (t ++ 34 :: r)) = (t, t.length + 2, true) := by
  rw [title_eq 34 _ (Or.inl rfl)]
  have hs : scanTo (endOf 34) (fun d => d == 40 && endOf 34 == 41) (t ++ 34 :: r).length (t ++ 34 :: r) 1 = some (t.length + 1) := by
    rw [show (t ++ 34 :: r).length = t.length + (r.length + 1) by simp]
    rw [scan_plain _ _ t _ _ _ (letters_scan ht _ _ (by decide) (not_bad _))]
    rw [show endOf 34 = 34 from rfl, scan_hit _ _ _ _ _ (by decide)]
    congr 1; omega
  rw [hs]
  simp only
  have e : ((34 :: (t ++ 34 :: r)).take (t.length + 1)).drop 1 = t := by
    rw [List.take_cons (by omega)]
    simp only [List.drop_succ_cons, List.drop_zero]
    exact List.take_left' (by simp)
  rw [e, unesc_plain _ ht.plain]

/-! ### between brackets -/
def White (l : List UInt8) : Prop := ∀ b ∈ l, whites.contains b = true
theorem White.isW {b : UInt8} (h : whites.contains b = true) : isWhite b = true := by
  simp [whites] at h
  rcases h with rfl | rfl | rfl <;> decide

theorem dropWhile_white : ∀ (w : List UInt8) (c : UInt8) (r : List UInt8), White w → whites.contains c = false → Lib.trimLeftS (w ++ c :: r) whites = c :: r := by
  intro w
  induction w with
  | nil => intro c r _ hc; unfold Lib.trimLeftS; rw [List.nil_append, List.dropWhile_cons_of_neg (by rw [hc]; simp)]
  | cons b w ih =>
    intro c r hw hc
    have := ih c r (fun x hx => hw x (List.mem_cons_of_mem _ hx)) hc
    unfold Lib.trimLeftS at *
    rw [List.cons_append, List.dropWhile_cons_of_pos (hw b (List.mem_cons_self ..)), this]

theorem skip_white (p w r : List UInt8) (c : UInt8) (n : Nat) (hn : n = p.length) (hw : White w) (hc : whites.contains c = false) : skipW (p ++ (w ++ c :: r)) n = n + w.length := by
  subst hn
  unfold skipW
  rw [List.drop_left' rfl, dropWhile_white w c r hw hc]
  simp; omega

theorem letter_black {c : UInt8} (h : 97 ≤ c.toNat) : whites.contains c = false := by
  have h1 : c ≠ 32 := ne_of_toNat (by simp; omega)
  have h2 : c ≠ 9 := ne_of_toNat (by simp; omega)
  have h3 : c ≠ 10 := ne_of_toNat (by simp; omega)
  simp [whites, h1, h2, h3]

theorem title_none (r : List UInt8) : title (41 :: r) = ([], 0, false) := by
  unfold title
  simp only
  rw [if_neg (by rintro (h | h | h) <;> exact absurd h (by decide))]

theorem inside_eq (l : List UInt8) (a b z : Nat) (d : List UInt8 × Nat × Bool) (t : List UInt8 × Nat × Bool) (h0 : l.head? = some 40) (ha : skipW l 1 = a) (hd : dest (l.drop a) = d) (hd2 : d.2.2 = true) (hb : skipW l (a + d.2.1) = b)
    (ht : (if a + d.2.1 < b then title (l.drop b) else ([], 0, false)) = t) (hz : (if t.2.2 then skipW l (b + t.2.1) else b) = z) (hl : l[z]? = some 41) : inside l = (d.1, t.1, z + 1, true) := by
  unfold inside
  rw [if_pos h0]
  simp only [ha, hd, hd2, if_true, hb, decide_eq_true_eq, ht, hz, hl]

theorem inside_bare (ga url gc more : List UInt8) (hga : White ga) (hu : Letters url) (hne : url ≠ []) (hgc : White gc) :
    inside (40 :: (ga ++ (url ++ (gc ++ 41 :: more)))) = (url, [], ga.length + url.length + gc.length + 2, true) := by
  obtain ⟨u, us, rfl⟩ : ∃ u us, url = u :: us := by cases url with | nil => exact absurd rfl hne | cons u us => exact ⟨u, us, rfl⟩
  have hub := letter_black hu.head.1
  have hd : dest ((u :: us) ++ (gc ++ 41 :: more)) = (u :: us, (u :: us).length, true) := by
    cases gc with
    | nil => exact dest_letters _ _ _ hu (by simp) (Or.inr rfl)
    | cons g gs => exact dest_letters _ _ g hu (by simp) (Or.inl (White.isW (hgc g (List.mem_cons_self ..))))
  have key := inside_eq (40 :: (ga ++ ((u :: us) ++ (gc ++ 41 :: more)))) (1 + ga.length) (1 + ga.length + (u :: us).length + gc.length) (1 + ga.length + (u :: us).length + gc.length) (u :: us, (u :: us).length, true) ([], 0, false) rfl
    (skip_white [40] ga _ u 1 rfl hga hub)
    (by rw [show 40 :: (ga ++ ((u :: us) ++ (gc ++ 41 :: more))) = (40 :: ga) ++ ((u :: us) ++ (gc ++ 41 :: more)) by simp, List.drop_left' (by simp; omega), hd]) rfl
    (by
      rw [show 40 :: (ga ++ ((u :: us) ++ (gc ++ 41 :: more))) = (40 :: (ga ++ (u :: us))) ++ (gc ++ 41 :: more) by simp]
      exact skip_white _ gc more 41 _ (by simp; omega) hgc (by decide))
    (by
      split
      · rw [show 40 :: (ga ++ ((u :: us) ++ (gc ++ 41 :: more))) = (40 :: (ga ++ (u :: us) ++ gc)) ++ (41 :: more) by simp, List.drop_left' (by simp; omega), title_none]
      · rfl)
    rfl
    (by rw [show 40 :: (ga ++ ((u :: us) ++ (gc ++ 41 :: more))) = (40 :: (ga ++ (u :: us) ++ gc)) ++ (41 :: more) by simp]
        rw [List.getElem?_append_right (by simp; omega)]
        rw [show 1 + ga.length + (u :: us).length + gc.length - (40 :: (ga ++ (u :: us) ++ gc)).length = 0 by simp; omega]
        rfl)
  rw [key]
  simp only [Prod.mk.injEq, true_and, and_true]
  omega

theorem inside_titled (ga url gb title_ gc more : List UInt8) (hga : White ga) (hu : Letters url) (hne : url ≠ []) (hgb : White gb) (hgb0 : gb ≠ []) (ht : Letters title_) (hgc : White gc) :
    inside (40 :: (ga ++ (url ++ (gb ++ 34 :: (title_ ++ 34 :: (gc ++ 41 :: more)))))) = (url, title_, ga.length + url.length + gb.length + title_.length + gc.length + 4, true) := by
  obtain ⟨u, us, rfl⟩ : ∃ u us, url = u :: us := by cases url with | nil => exact absurd rfl hne | cons u us => exact ⟨u, us, rfl⟩
  have hub := letter_black hu.head.1
  obtain ⟨g, gs, rfl⟩ : ∃ g gs, gb = g :: gs := by cases gb with | nil => exact absurd rfl hgb0 | cons u us => exact ⟨u, us, rfl⟩
  have hd : dest ((u :: us) ++ ((g :: gs) ++ 34 :: (title_ ++ 34 :: (gc ++ 41 :: more)))) = (u :: us, (u :: us).length, true) :=
    dest_letters _ _ g hu (by simp) (Or.inl (White.isW (hgb g (List.mem_cons_self ..))))
  have key := inside_eq (40 :: (ga ++ ((u :: us) ++ ((g :: gs) ++ 34 :: (title_ ++ 34 :: (gc ++ 41 :: more)))))) (1 + ga.length) (1 + ga.length + (u :: us).length + (g :: gs).length) (1 + ga.length + (u :: us).length + (g :: gs).length + (title_.length + 2) + gc.length) (u :: us, (u :: us).length, true) (title_, title_.length + 2, true) rfl
    (skip_white [40] ga _ u 1 rfl hga hub)
    (by rw [show 40 :: (ga ++ ((u :: us) ++ ((g :: gs) ++ 34 :: (title_ ++ 34 :: (gc ++ 41 :: more))))) = (40 :: ga) ++ ((u :: us) ++ ((g :: gs) ++ 34 :: (title_ ++ 34 :: (gc ++ 41 :: more)))) by simp, List.drop_left' (by simp; omega), hd]) rfl
    (by
      rw [show 40 :: (ga ++ ((u :: us) ++ ((g :: gs) ++ 34 :: (title_ ++ 34 :: (gc ++ 41 :: more))))) = (40 :: (ga ++ (u :: us))) ++ ((g :: gs) ++ 34 :: (title_ ++ 34 :: (gc ++ 41 :: more))) by simp]
      exact skip_white _ (g :: gs) _ 34 _ (by simp; omega) hgb (by decide))
    (by
      rw [if_pos (by simp)]
      rw [show 40 :: (ga ++ ((u :: us) ++ ((g :: gs) ++ 34 :: (title_ ++ 34 :: (gc ++ 41 :: more))))) = (40 :: (ga ++ (u :: us) ++ (g :: gs))) ++ (34 :: (title_ ++ 34 :: (gc ++ 41 :: more))) by simp, List.drop_left' (by simp; omega), title_letters _ _ ht])
    (by
      simp only [if_true]
      rw [show 40 :: (ga ++ ((u :: us) ++ ((g :: gs) ++ 34 :: (title_ ++ 34 :: (gc ++ 41 :: more))))) = (40 :: (ga ++ (u :: us) ++ (g :: gs) ++ 34 :: (title_ ++ [34]))) ++ (gc ++ 41 :: more) by simp]
      exact skip_white _ gc more 41 _ (by simp; omega) hgc (by decide))
    (by rw [show 40 :: (ga ++ ((u :: us) ++ ((g :: gs) ++ 34 :: (title_ ++ 34 :: (gc ++ 41 :: more))))) = (40 :: (ga ++ (u :: us) ++ (g :: gs) ++ 34 :: (title_ ++ 34 :: gc))) ++ (41 :: more) by simp]
        rw [List.getElem?_append_right (by simp; omega)]
        rw [show 1 + ga.length + (u :: us).length + (g :: gs).length + (title_.length + 2) + gc.length - (40 :: (ga ++ (u :: us) ++ (g :: gs) ++ 34 :: (title_ ++ 34 :: gc))).length = 0 by simp; omega]
        rfl)
  rw [key]
  simp only [Prod.mk.injEq, true_and, and_true]
  omega

theorem getD_lt (l : List UInt8) (j : Nat) (h : j < l.length) : l.getD j 0 = l[j] := by simp [List.getD_eq_getElem?_getD, h]

/-! ### schemes -/
def stripL : Nat → List UInt8 → List UInt8
  | 0, _ => []
  | n + 1, l => if l = [] then [] else keepR (lowR (Lib.decodeL l).1) ++ stripL n (l.drop (Lib.decodeL l).2)

theorem strip_list (s : ByteArray) : ∀ (f pos : Nat), stripFrom s f pos = stripL f (s.data.toList.drop pos) := by
  intro f
  induction f with
  | zero => intro pos; rfl
  | succ f ih =>
    intro pos
    by_cases hp : pos < s.size
    · have hne : s.data.toList.drop pos ≠ [] := by
        intro h0
        have := congrArg List.length h0
        simp at this; omega
      rw [stripFrom_succ s f pos hp]
      unfold stripL
      rw [if_neg hne, Lib.decodeL_drop, ih, List.drop_drop]
    · rw [stripFrom_end s _ pos hp]
      have : s.data.toList.drop pos = [] := List.drop_eq_nil_of_le (by simp; omega)
      unfold stripL
      rw [if_pos this]

theorem strip_eq (s : ByteArray) : strip s = stripL s.data.toList.length s.data.toList := by
  unfold strip
  rw [strip_list]
  simp

theorem strip_ascii (c : UInt8) (l : List UInt8) (n : Nat) (h : c.toNat < 128) : stripL (n + 1) (c :: l) = keepR (lowR c.toNat) ++ stripL n l := by
  rw [stripL, if_neg (by simp), Lib.decodeL_ascii c l h]
  rfl

theorem strip_asciis : ∀ (a l : List UInt8) (n : Nat), (∀ b ∈ a, b.toNat < 128) → stripL (a.length + n) (a ++ l) = a.flatMap (fun c => keepR (lowR c.toNat)) ++ stripL n l := by
  intro a
  induction a with
  | nil => intro l n _; simp
  | cons c a ih =>
    intro l n h
    rw [show (c :: a).length + n = (a.length + n) + 1 by simp; omega, List.cons_append, strip_ascii _ _ _ (h c (List.mem_cons_self ..)), ih l n (fun b hb => h b (List.mem_cons_of_mem _ hb))]
    simp

/-- A letter that is written great, as the law does it. -/
def greatB (u : Bool) (c : UInt8) : UInt8 := if u && (97 ≤ c && c ≤ 122) then c - 32 else c
theorem great_strip (u : Bool) : ∀ c : UInt8, (32 < c.toNat ∧ c.toNat < 127 ∧ ¬ (65 ≤ c.toNat ∧ c.toNat ≤ 90)) → (greatB u c).toNat < 128 ∧ keepR (lowR (greatB u c).toNat) = [c] := by
  intro c
  cases u
  · exact allB (p := fun c => (32 < c.toNat ∧ c.toNat < 127 ∧ ¬ (65 ≤ c.toNat ∧ c.toNat ≤ 90)) → (greatB false c).toNat < 128 ∧ keepR (lowR (greatB false c).toNat) = [c]) (by unfold AllB; decide +kernel) c
  · exact allB (p := fun c => (32 < c.toNat ∧ c.toNat < 127 ∧ ¬ (65 ≤ c.toNat ∧ c.toNat ≤ 90)) → (greatB true c).toNat < 128 ∧ keepR (lowR (greatB true c).toNat) = [c]) (by unfold AllB; decide +kernel) c
theorem gap_strip : ∀ c : UInt8, (c.toNat ≤ 32 ∨ c.toNat = 127) → c.toNat < 128 ∧ keepR (lowR c.toNat) = [] :=
  fun c => allB (p := fun c => (c.toNat ≤ 32 ∨ c.toNat = 127) → c.toNat < 128 ∧ keepR (lowR c.toNat) = []) (by unfold AllB; decide +kernel) c

/-- The eight beginnings of the law. -/
def heads8 : List (List UInt8) := [[106, 97, 118, 97, 115, 99, 114, 105, 112, 116, 58], [118, 98, 115, 99, 114, 105, 112, 116, 58], [102, 105, 108, 101, 58], [100, 97, 116, 97, 58], [104, 116, 116, 112, 115, 58], [109, 97, 105, 108, 116, 111, 58], [47, 102, 105, 108, 101, 58], [100, 97, 116, 117, 109, 58]]

theorem heads_plain : ∀ k : Fin 8, ∀ c ∈ heads8.getD k.val [], 32 < c.toNat ∧ c.toNat < 127 ∧ ¬ (65 ≤ c.toNat ∧ c.toNat ≤ 90) := by decide

theorem safe_head : ∀ (k : Fin 8) (x : List UInt8), safeL (heads8.getD k.val [] ++ x) = decide (4 ≤ k.val) := by
  intro k x
  match k with
  | 0 => rfl
  | 1 => rfl
  | 2 => rfl
  | 3 => rfl
  | 4 => rfl
  | 5 => rfl
  | 6 => rfl
  | 7 => rfl

/-- What the law builds of a beginning: some letters great, one blank byte between them. -/
theorem schemes_safe (k : Fin 8) (g : List UInt8) (gap : UInt8) (i : Nat) (rest : List UInt8) (hgap : gap.toNat ≤ 32 ∨ gap.toNat = 127)
    (hg : g.length = (heads8.getD k.val []).length) (hgb : ∀ j, j < g.length → ∃ u, g.getD j 0 = greatB u ((heads8.getD k.val []).getD j 0)) :
    safeL (stripL (g.take i ++ gap :: (g.drop i ++ rest)).length (g.take i ++ gap :: (g.drop i ++ rest))) = decide (4 ≤ k.val) := by
  have hall : ∀ j, j < g.length → (g.getD j 0).toNat < 128 ∧ keepR (lowR (g.getD j 0).toNat) = [(heads8.getD k.val []).getD j 0] := by
    intro j hj
    obtain ⟨u, hu⟩ := hgb j hj
    rw [hu]
    refine great_strip u _ (heads_plain k _ ?_)
    rw [getD_lt _ _ (by omega)]
    exact List.getElem_mem ..
  have hmem : ∀ b ∈ g, b.toNat < 128 := by
    intro b hb
    obtain ⟨j, hj, rfl⟩ := List.mem_iff_getElem.1 hb
    have := (hall j hj).1
    rwa [getD_lt _ _ hj] at this
  have hflat : g.flatMap (fun c => keepR (lowR c.toNat)) = heads8.getD k.val [] := by
    have e : ∀ (a b : List UInt8), a.length = b.length → (∀ j, j < a.length → keepR (lowR (a.getD j 0).toNat) = [b.getD j 0]) → a.flatMap (fun c => keepR (lowR c.toNat)) = b := by
      intro a
      induction a with
      | nil => intro b hb _; cases b with | nil => rfl | cons _ _ => simp at hb
      | cons c a ih =>
        intro b hb h
        cases b with
        | nil => simp at hb
        | cons d b =>
          rw [List.flatMap_cons]
          have h0 := h 0 (by simp)
          simp only [List.getD_cons_zero] at h0
          rw [h0, ih b (by simpa using hb) (fun j hj => by
            have := h (j + 1) (by simpa using hj)
            simpa using this)]
          rfl
    exact e g _ hg (fun j hj => (hall j hj).2)
  obtain ⟨g1, g2⟩ := gap_strip gap hgap
  have h1 : ∀ b ∈ g.take i, b.toNat < 128 := fun b hb => hmem b (List.mem_of_mem_take hb)
  have h2 : ∀ b ∈ g.drop i, b.toNat < 128 := fun b hb => hmem b (List.mem_of_mem_drop hb)
  rw [show (g.take i ++ gap :: (g.drop i ++ rest)).length = (g.take i).length + (((g.drop i).length + rest.length) + 1) by simp]
  rw [strip_asciis _ _ _ h1, strip_ascii _ _ _ g1, g2, List.nil_append, strip_asciis _ _ _ h2, ← List.append_assoc, ← List.flatMap_append, List.take_append_drop, hflat]
  exact safe_head k _

/-! ### brackets: each of the law's inputs, by the kernel -/
def brackets (n m : Nat) : List UInt8 := 97 :: (List.replicate n 40 ++ List.replicate m 41)
theorem brackets_dest : ∀ n m : Fin 11, (let d := dest (brackets n.val m.val)
    if m.val < n.val then d.2.2 = false ∧ d.2.1 = 0 else d.2.2 = true ∧ d.2.1 = 1 + 2 * n.val) := by decide +kernel

end Go.Proofs.YtnlmfoccdmkncaaGreatDoor

/-
  target.Title: the title with which a text begins.
-/
namespace Go.Proofs.YtnlmfoccdmkncaaGreatDoor
open Go.RowKit
set_option maxRecDepth 100000
set_option linter.unusedVariables false
set_option linter.unusedSimpArgs false

theorem containsRune_big (s : ByteArray) (r : Int) (w : World) (hs : AllAscii s.data.toList) (hz : s.size ≤ 1000000000) (h0 : 128 ≤ r) (h1 : r ≤ 2147483647) :
    Calls Tryz.prog 19 #[.string s, .int .i32 r] w fun e w' => e = .returned (.bool false) ∧ Below w.heap.size w w' := by
  go_enter Tryz.func19, Tryz.ntmps19
  go_wp2_with fail
  refine (indexRune_big s r w hs hz h0 h1).mono ?_
  rintro e w' ⟨rfl, hb⟩
  go_wp2_with fail
  go_ret
  exact ⟨rfl, hb⟩

/-- Is a rune in ASCII text? -/
theorem containsRune_nat (s : ByteArray) (r : Nat) (w : World) (hs : AllAscii s.data.toList) (hz : s.size ≤ 1000000000) (h1 : r ≤ 1114111) :
    Calls Tryz.prog 19 #[.string s, .int .i32 r] w fun e w' => e = .returned (.bool (s.data.toList.any (fun b => b.toNat == r))) ∧ Below w.heap.size w w' := by
  by_cases h : r < 128
  · refine (Tryz.strings_ContainsRune_ascii s r w (by omega) (by omega)).mono ?_
    rintro e w' ⟨rfl, rfl⟩
    refine ⟨ret_bool ?_, Below.refl _ _⟩
    have hl : ∀ l : List UInt8, decide (0 ≤ Lib.indexByte l ((r : Int).toNat.toUInt8)) = l.any (fun b => b.toNat == r) := by
      intro l
      induction l with
      | nil => rfl
      | cons b l ih =>
        have hb : (b == (r : Int).toNat.toUInt8) = (b.toNat == r) := by
          rw [Bool.eq_iff_iff]
          simp only [beq_iff_eq, Int.toNat_natCast]
          constructor
          · intro e; rw [e]; simp; omega
          · intro e; rw [← e]; simp
        unfold Lib.indexByte
        rw [List.any_cons, ← ih, hb]
        cases (b.toNat == r)
        · simp only [Bool.false_eq_true, if_false, Bool.false_or]
          have := Lib.indexByte_ge l ((r : Int).toNat.toUInt8)
          by_cases hh : Lib.indexByte l ((r : Int).toNat.toUInt8) = -1
          · rw [hh]; rfl
          · have h3 : 0 ≤ Lib.indexByte l ((r : Int).toNat.toUInt8) := by omega
            rw [if_neg (by simpa using hh), decide_eq_true h3, decide_eq_true (by omega)]
        · rfl
    exact hl _
  · refine (containsRune_big s r w hs hz (by omega) (by omega)).mono ?_
    rintro e w' ⟨rfl, hb⟩
    refine ⟨ret_bool ?_, hb⟩
    refine (List.any_eq_false.2 ?_).symm
    intro b hbm
    have := hs b hbm
    simp; omega

theorem title_hit {q : UInt8} {r : List UInt8} {i : Nat} (hq : IsQuote q) (h : scanTo (endOf q) (fun d => d == 40 && endOf q == 41) r.length r 1 = some i) : title (q :: r) = (unesc ((q :: r).take i).tail, i + 1, true) := by
  rw [title_eq q r hq, h]
  simp only [List.drop_one]
theorem title_miss {q : UInt8} {r : List UInt8} (hq : IsQuote q) (h : scanTo (endOf q) (fun d => d == 40 && endOf q == 41) r.length r 1 = none) : title (q :: r) = ([], 0, false) := by
  rw [title_eq q r hq, h]
theorem title_other {q : UInt8} {r : List UInt8} (hq : ¬ IsQuote q) : title (q :: r) = ([], 0, false) := by
  unfold title
  simp only
  rw [if_neg (show ¬ (q = 34 ∨ q = 39 ∨ q = 40) from hq)]

set_option maxHeartbeats 4000000 in
theorem title_34 (s : ByteArray) (r : List UInt8) (w : World) (hE : Env w) (hz : s.size ≤ 1000000000) (hs : s.data.toList = 34 :: r) :
    Calls Tryz.prog 82 #[.string s] w fun e w' => e = .returned (.tuple #[.string ⟨(title s.data.toList).1.toArray⟩, .int .i64 (title s.data.toList).2.1, .bool (title s.data.toList).2.2]) ∧ Below w.heap.size w w' := by
  obtain ⟨bad, hbad⟩ : ∃ b, b = (fun d : UInt8 => d == 40 && endOf 34 == 41) := ⟨_, rfl⟩
  obtain ⟨R, hR⟩ : ∃ R, scanTo 34 bad r.length r 1 = R := ⟨_, rfl⟩
  have hlen : s.size = r.length + 1 := by rw [Lib.size_eq, hs]; rfl
  have h1 : ScanTo s 34 bad 1 R := ⟨_, by rw [hs]; exact hR, by omega⟩
  have hq : IsQuote 34 := by unfold IsQuote; decide
  have HT := Lib.hid (show ∀ i, R = some i → title s.data.toList = (unesc (s.data.toList.take i).tail, i + 1, true) from fun i h => by rw [hs]; exact title_hit hq (by rw [← hbad]; exact hR.trans h))
  have HM := Lib.hid (show R = none → title s.data.toList = ([], 0, false) from fun h => by rw [hs]; exact title_miss hq (by rw [← hbad]; exact hR.trans h))
  have h0z : 0 < s.size := by omega
  have h0 : s[0] = 34 := by
    have := Lib.data_getElem? s 0 h0z
    rw [hs] at this
    simp at this
    exact this.symm
  have hne : s.toList.isEmpty = false := by rw [Lib.toList_data, hs]; rfl
  have hne2 : (!s.toList.isEmpty) = true := by rw [hne]; rfl
  have hb0 : ∀ x : UInt8, bad x = (x == 40 && false) := fun x => by rw [hbad]; rfl
  have HB := Lib.hid hb0
  have hcr : ∀ W, Calls Tryz.prog 19 #[.string ⟨#[34, 39, 40]⟩, .int .i32 34] W fun e w' => e = .returned (.bool true) ∧ Below W.heap.size W w' := fun W => containsRune_nat ⟨#[34, 39, 40]⟩ 34 W (by unfold AllAscii; decide) (by decide) (by omega)
  have HCR := Lib.hid hcr
  clear hR hs hbad hb0 hcr hq
  have hsz0 : (0 : Int) < (s.size : Int) := by omega
  go_enter Tryz.func82, Tryz.ntmps82
  go_wp2_with fail
  refine (HCR.out _).mono ?_
  rintro e w1 ⟨rfl, hb1⟩
  clear hne hne2
  go_wp2_with fail
  go_loop [6] (fun u6 => ∃ i : Nat, 1 ≤ i ∧ i ≤ 1000000002 ∧ u6 = .int .i64 i ∧ ScanTo s 34 bad i R) (fun u6 => s.size - (intOf u6).toNat)
  case atStart => exact ⟨1, by omega, by omega, rfl, h1⟩
  case round =>
    obtain ⟨i, hi1, hi2, rfl, hsc⟩ := hrel
    clear h1 h0
    by_cases hlt : i < s.size
    · obtain ⟨c, hc⟩ : ∃ c, s[i] = c := ⟨_, rfl⟩
      have HSC := Lib.hid hsc
      have HC := Lib.hid hc
      clear hsc
      by_cases c1 : c.toNat = 92
      · have ht : ((c.toNat : Int) == 92) = true := by simp; omega
        have hc92 : c = 92 := byte_eq c1
        have hzC : ∀ W, Calls Tryz.prog 120 #[.string s, .int .i64 ((i : Int) + 1)] W fun e w' => e = .returned (.bool (decide (s.data.toList[i + 1]? = some 0))) ∧ w' = W := fun W => zero_any s _ (i + 1) (by omega) W hz
        by_cases hzz : s.data.toList[i + 1]? = some 0
        · rw [decide_eq_true hzz] at hzC
          have HZ := Lib.hid hzC
          have HN := Lib.hid (HM.out (scan_slash0 HSC.out hlt (by rw [HC.out, hc92]) hzz))
          clear hzC hzz c1 hc92
          go_wp2_with fail
          refine (HZ.out _).mono ?_
          rintro e w' ⟨rfl, rfl⟩
          go_wp2_with fail
          go_ret3
          exact ⟨ret_sib HN.out rfl, hb1⟩
        · rw [decide_eq_false hzz] at hzC
          have HZ := Lib.hid hzC
          have HN := Lib.hid (scan_slash1 HSC.out hlt (by rw [HC.out, hc92]) hzz)
          clear hzC hzz c1 hc92
          go_wp2_with fail
          refine (HZ.out _).mono ?_
          rintro e w' ⟨rfl, rfl⟩
          go_wp2_with fail
          go_round
          case rel => exact ⟨i + 2, by omega, by omega, by go_num, HN.out⟩
          case measure => simp [intOf]; omega
      · have ht : ((c.toNat : Int) == 92) = false := by simp; omega
        have h92 : c ≠ 92 := byte_ne (n := 92) (by omega) c1
        clear c1
        by_cases c4 : c.toNat = 34
        · have ht4 : ((c.toNat : Int) == 34) = true := by simp; omega
          have HN := Lib.hid (HT.out i (scan_hit0 HSC.out hlt (by rw [HC.out, byte_eq c4]; rfl) (by decide)))
          clear c4 h92
          obtain ⟨S, hS⟩ : ∃ S : ByteArray, s.extract 1 i = S := ⟨_, rfl⟩
          have hSl : S.data.toList = (s.data.toList.take i).tail := by rw [← hS, ext_list]
          have hSz : S.size ≤ 1000000000 := by rw [Lib.size_eq, hSl]; simp; omega
          have hun := unesc_any S w1 (hE.below hb1) hSz
          rw [hSl] at hun
          have HU := Lib.hid hun
          clear hun hSl
          go_wp2_with fail
          refine (HU.out).mono ?_
          rintro e w' ⟨rfl, hb⟩
          go_wp2_with fail
          go_ret3
          exact ⟨ret_sib (m := i + 1) HN.out (by simp), below_step hb1 hb⟩
        · have ht4 : ((c.toNat : Int) == 34) = false := by simp; omega
          have hce : c ≠ 34 := byte_ne (n := 34) (by omega) c4
          clear c4
          by_cases c2 : c.toNat = 40
          · have ht2 : ((c.toNat : Int) == 40) = true := by simp; omega
            have hzC : ∀ W, Calls Tryz.prog 120 #[.string s, .int .i64 (i : Int)] W fun e w' => e = .returned (.bool (decide (s.data.toList[i]? = some 0))) ∧ w' = W := fun W => zero_any s _ i rfl W hz
            have hgi : s.data.toList[i]? = some c := by rw [← HC.out]; exact Lib.data_getElem? s i hlt
            rw [hgi] at hzC
            have hbadc : bad c = false := by rw [HB.out]; simp
            by_cases c5 : c = 0
            · rw [decide_eq_true (congrArg some c5)] at hzC
              have HZ := Lib.hid hzC
              have HN := Lib.hid (HM.out (scan_bad0 HSC.out hlt HC.out h92 hce (Or.inr c5)))
              clear hzC hgi hbadc c5 h92 hce
              go_wp2_with fail
              refine (HZ.out _).mono ?_
              rintro e w' ⟨rfl, rfl⟩
              go_wp2_with fail
              go_ret3
              exact ⟨ret_sib HN.out rfl, hb1⟩
            · rw [decide_eq_false (fun h => c5 (Option.some.inj h))] at hzC
              have HZ := Lib.hid hzC
              have HN := Lib.hid (scan_next HSC.out hlt HC.out h92 hce (by rw [hbadc]; simp [c5]))
              clear hzC hgi hbadc c5 h92 hce
              go_wp2_with fail
              refine (HZ.out _).mono ?_
              rintro e w' ⟨rfl, rfl⟩
              go_wp2_with fail
              go_round
              case rel => exact ⟨i + 1, by omega, by omega, by go_num, HN.out⟩
              case measure => simp [intOf]; omega
          · have ht2 : ((c.toNat : Int) == 40) = false := by simp; omega
            have hc40 : c ≠ 40 := byte_ne (n := 40) (by omega) c2
            clear c2
            have hzC : ∀ W, Calls Tryz.prog 120 #[.string s, .int .i64 (i : Int)] W fun e w' => e = .returned (.bool (decide (s.data.toList[i]? = some 0))) ∧ w' = W := fun W => zero_any s _ i rfl W hz
            have hgi : s.data.toList[i]? = some c := by rw [← HC.out]; exact Lib.data_getElem? s i hlt
            rw [hgi] at hzC
            have hbadc : bad c = false := by rw [HB.out]; simp [hc40]
            by_cases c5 : c = 0
            · rw [decide_eq_true (congrArg some c5)] at hzC
              have HZ := Lib.hid hzC
              have HN := Lib.hid (HM.out (scan_bad0 HSC.out hlt HC.out h92 hce (Or.inr c5)))
              clear hzC hgi hbadc c5 h92 hce
              go_wp2_with fail
              refine (HZ.out _).mono ?_
              rintro e w' ⟨rfl, rfl⟩
              go_wp2_with fail
              go_ret3
              exact ⟨ret_sib HN.out rfl, hb1⟩
            · rw [decide_eq_false (fun h => c5 (Option.some.inj h))] at hzC
              have HZ := Lib.hid hzC
              have HN := Lib.hid (scan_next HSC.out hlt HC.out h92 hce (by rw [hbadc]; simp [c5]))
              clear hzC hgi hbadc c5 h92 hce
              go_wp2_with fail
              refine (HZ.out _).mono ?_
              rintro e w' ⟨rfl, rfl⟩
              go_wp2_with fail
              go_round
              case rel => exact ⟨i + 1, by omega, by omega, by go_num, HN.out⟩
              case measure => simp [intOf]; omega
    · have HN := Lib.hid (HM.out (scan_end0 hsc hlt))
      clear hsc
      go_wp2_with fail
      go_ret3
      exact ⟨ret_sib HN.out rfl, hb1⟩

set_option maxHeartbeats 4000000 in
theorem title_39 (s : ByteArray) (r : List UInt8) (w : World) (hE : Env w) (hz : s.size ≤ 1000000000) (hs : s.data.toList = 39 :: r) :
    Calls Tryz.prog 82 #[.string s] w fun e w' => e = .returned (.tuple #[.string ⟨(title s.data.toList).1.toArray⟩, .int .i64 (title s.data.toList).2.1, .bool (title s.data.toList).2.2]) ∧ Below w.heap.size w w' := by
  obtain ⟨bad, hbad⟩ : ∃ b, b = (fun d : UInt8 => d == 40 && endOf 39 == 41) := ⟨_, rfl⟩
  obtain ⟨R, hR⟩ : ∃ R, scanTo 39 bad r.length r 1 = R := ⟨_, rfl⟩
  have hlen : s.size = r.length + 1 := by rw [Lib.size_eq, hs]; rfl
  have h1 : ScanTo s 39 bad 1 R := ⟨_, by rw [hs]; exact hR, by omega⟩
  have hq : IsQuote 39 := by unfold IsQuote; decide
  have HT := Lib.hid (show ∀ i, R = some i → title s.data.toList = (unesc (s.data.toList.take i).tail, i + 1, true) from fun i h => by rw [hs]; exact title_hit hq (by rw [← hbad]; exact hR.trans h))
  have HM := Lib.hid (show R = none → title s.data.toList = ([], 0, false) from fun h => by rw [hs]; exact title_miss hq (by rw [← hbad]; exact hR.trans h))
  have h0z : 0 < s.size := by omega
  have h0 : s[0] = 39 := by
    have := Lib.data_getElem? s 0 h0z
    rw [hs] at this
    simp at this
    exact this.symm
  have hne : s.toList.isEmpty = false := by rw [Lib.toList_data, hs]; rfl
  have hne2 : (!s.toList.isEmpty) = true := by rw [hne]; rfl
  have hb0 : ∀ x : UInt8, bad x = (x == 40 && false) := fun x => by rw [hbad]; rfl
  have HB := Lib.hid hb0
  have hcr : ∀ W, Calls Tryz.prog 19 #[.string ⟨#[34, 39, 40]⟩, .int .i32 39] W fun e w' => e = .returned (.bool true) ∧ Below W.heap.size W w' := fun W => containsRune_nat ⟨#[34, 39, 40]⟩ 39 W (by unfold AllAscii; decide) (by decide) (by omega)
  have HCR := Lib.hid hcr
  clear hR hs hbad hb0 hcr hq
  have hsz0 : (0 : Int) < (s.size : Int) := by omega
  go_enter Tryz.func82, Tryz.ntmps82
  go_wp2_with fail
  refine (HCR.out _).mono ?_
  rintro e w1 ⟨rfl, hb1⟩
  clear hne hne2
  go_wp2_with fail
  go_loop [6] (fun u6 => ∃ i : Nat, 1 ≤ i ∧ i ≤ 1000000002 ∧ u6 = .int .i64 i ∧ ScanTo s 39 bad i R) (fun u6 => s.size - (intOf u6).toNat)
  case atStart => exact ⟨1, by omega, by omega, rfl, h1⟩
  case round =>
    obtain ⟨i, hi1, hi2, rfl, hsc⟩ := hrel
    clear h1 h0
    by_cases hlt : i < s.size
    · obtain ⟨c, hc⟩ : ∃ c, s[i] = c := ⟨_, rfl⟩
      have HSC := Lib.hid hsc
      have HC := Lib.hid hc
      clear hsc
      by_cases c1 : c.toNat = 92
      · have ht : ((c.toNat : Int) == 92) = true := by simp; omega
        have hc92 : c = 92 := byte_eq c1
        have hzC : ∀ W, Calls Tryz.prog 120 #[.string s, .int .i64 ((i : Int) + 1)] W fun e w' => e = .returned (.bool (decide (s.data.toList[i + 1]? = some 0))) ∧ w' = W := fun W => zero_any s _ (i + 1) (by omega) W hz
        by_cases hzz : s.data.toList[i + 1]? = some 0
        · rw [decide_eq_true hzz] at hzC
          have HZ := Lib.hid hzC
          have HN := Lib.hid (HM.out (scan_slash0 HSC.out hlt (by rw [HC.out, hc92]) hzz))
          clear hzC hzz c1 hc92
          go_wp2_with fail
          refine (HZ.out _).mono ?_
          rintro e w' ⟨rfl, rfl⟩
          go_wp2_with fail
          go_ret3
          exact ⟨ret_sib HN.out rfl, hb1⟩
        · rw [decide_eq_false hzz] at hzC
          have HZ := Lib.hid hzC
          have HN := Lib.hid (scan_slash1 HSC.out hlt (by rw [HC.out, hc92]) hzz)
          clear hzC hzz c1 hc92
          go_wp2_with fail
          refine (HZ.out _).mono ?_
          rintro e w' ⟨rfl, rfl⟩
          go_wp2_with fail
          go_round
          case rel => exact ⟨i + 2, by omega, by omega, by go_num, HN.out⟩
          case measure => simp [intOf]; omega
      · have ht : ((c.toNat : Int) == 92) = false := by simp; omega
        have h92 : c ≠ 92 := byte_ne (n := 92) (by omega) c1
        clear c1
        by_cases c4 : c.toNat = 39
        · have ht4 : ((c.toNat : Int) == 39) = true := by simp; omega
          have HN := Lib.hid (HT.out i (scan_hit0 HSC.out hlt (by rw [HC.out, byte_eq c4]; rfl) (by decide)))
          clear c4 h92
          obtain ⟨S, hS⟩ : ∃ S : ByteArray, s.extract 1 i = S := ⟨_, rfl⟩
          have hSl : S.data.toList = (s.data.toList.take i).tail := by rw [← hS, ext_list]
          have hSz : S.size ≤ 1000000000 := by rw [Lib.size_eq, hSl]; simp; omega
          have hun := unesc_any S w1 (hE.below hb1) hSz
          rw [hSl] at hun
          have HU := Lib.hid hun
          clear hun hSl
          go_wp2_with fail
          refine (HU.out).mono ?_
          rintro e w' ⟨rfl, hb⟩
          go_wp2_with fail
          go_ret3
          exact ⟨ret_sib (m := i + 1) HN.out (by simp), below_step hb1 hb⟩
        · have ht4 : ((c.toNat : Int) == 39) = false := by simp; omega
          have hce : c ≠ 39 := byte_ne (n := 39) (by omega) c4
          clear c4
          by_cases c2 : c.toNat = 40
          · have ht2 : ((c.toNat : Int) == 40) = true := by simp; omega
            have hzC : ∀ W, Calls Tryz.prog 120 #[.string s, .int .i64 (i : Int)] W fun e w' => e = .returned (.bool (decide (s.data.toList[i]? = some 0))) ∧ w' = W := fun W => zero_any s _ i rfl W hz
            have hgi : s.data.toList[i]? = some c := by rw [← HC.out]; exact Lib.data_getElem? s i hlt
            rw [hgi] at hzC
            have hbadc : bad c = false := by rw [HB.out]; simp
            by_cases c5 : c = 0
            · rw [decide_eq_true (congrArg some c5)] at hzC
              have HZ := Lib.hid hzC
              have HN := Lib.hid (HM.out (scan_bad0 HSC.out hlt HC.out h92 hce (Or.inr c5)))
              clear hzC hgi hbadc c5 h92 hce
              go_wp2_with fail
              refine (HZ.out _).mono ?_
              rintro e w' ⟨rfl, rfl⟩
              go_wp2_with fail
              go_ret3
              exact ⟨ret_sib HN.out rfl, hb1⟩
            · rw [decide_eq_false (fun h => c5 (Option.some.inj h))] at hzC
              have HZ := Lib.hid hzC
              have HN := Lib.hid (scan_next HSC.out hlt HC.out h92 hce (by rw [hbadc]; simp [c5]))
              clear hzC hgi hbadc c5 h92 hce
              go_wp2_with fail
              refine (HZ.out _).mono ?_
              rintro e w' ⟨rfl, rfl⟩
              go_wp2_with fail
              go_round
              case rel => exact ⟨i + 1, by omega, by omega, by go_num, HN.out⟩
              case measure => simp [intOf]; omega
          · have ht2 : ((c.toNat : Int) == 40) = false := by simp; omega
            have hc40 : c ≠ 40 := byte_ne (n := 40) (by omega) c2
            clear c2
            have hzC : ∀ W, Calls Tryz.prog 120 #[.string s, .int .i64 (i : Int)] W fun e w' => e = .returned (.bool (decide (s.data.toList[i]? = some 0))) ∧ w' = W := fun W => zero_any s _ i rfl W hz
            have hgi : s.data.toList[i]? = some c := by rw [← HC.out]; exact Lib.data_getElem? s i hlt
            rw [hgi] at hzC
            have hbadc : bad c = false := by rw [HB.out]; simp [hc40]
            by_cases c5 : c = 0
            · rw [decide_eq_true (congrArg some c5)] at hzC
              have HZ := Lib.hid hzC
              have HN := Lib.hid (HM.out (scan_bad0 HSC.out hlt HC.out h92 hce (Or.inr c5)))
              clear hzC hgi hbadc c5 h92 hce
              go_wp2_with fail
              refine (HZ.out _).mono ?_
              rintro e w' ⟨rfl, rfl⟩
              go_wp2_with fail
              go_ret3
              exact ⟨ret_sib HN.out rfl, hb1⟩
            · rw [decide_eq_false (fun h => c5 (Option.some.inj h))] at hzC
              have HZ := Lib.hid hzC
              have HN := Lib.hid (scan_next HSC.out hlt HC.out h92 hce (by rw [hbadc]; simp [c5]))
              clear hzC hgi hbadc c5 h92 hce
              go_wp2_with fail
              refine (HZ.out _).mono ?_
              rintro e w' ⟨rfl, rfl⟩
              go_wp2_with fail
              go_round
              case rel => exact ⟨i + 1, by omega, by omega, by go_num, HN.out⟩
              case measure => simp [intOf]; omega
    · have HN := Lib.hid (HM.out (scan_end0 hsc hlt))
      clear hsc
      go_wp2_with fail
      go_ret3
      exact ⟨ret_sib HN.out rfl, hb1⟩

set_option maxHeartbeats 4000000 in
theorem title_40 (s : ByteArray) (r : List UInt8) (w : World) (hE : Env w) (hz : s.size ≤ 1000000000) (hs : s.data.toList = 40 :: r) :
    Calls Tryz.prog 82 #[.string s] w fun e w' => e = .returned (.tuple #[.string ⟨(title s.data.toList).1.toArray⟩, .int .i64 (title s.data.toList).2.1, .bool (title s.data.toList).2.2]) ∧ Below w.heap.size w w' := by
  obtain ⟨bad, hbad⟩ : ∃ b, b = (fun d : UInt8 => d == 40 && endOf 40 == 41) := ⟨_, rfl⟩
  obtain ⟨R, hR⟩ : ∃ R, scanTo 41 bad r.length r 1 = R := ⟨_, rfl⟩
  have hlen : s.size = r.length + 1 := by rw [Lib.size_eq, hs]; rfl
  have h1 : ScanTo s 41 bad 1 R := ⟨_, by rw [hs]; exact hR, by omega⟩
  have hq : IsQuote 40 := by unfold IsQuote; decide
  have HT := Lib.hid (show ∀ i, R = some i → title s.data.toList = (unesc (s.data.toList.take i).tail, i + 1, true) from fun i h => by rw [hs]; exact title_hit hq (by rw [← hbad]; exact hR.trans h))
  have HM := Lib.hid (show R = none → title s.data.toList = ([], 0, false) from fun h => by rw [hs]; exact title_miss hq (by rw [← hbad]; exact hR.trans h))
  have h0z : 0 < s.size := by omega
  have h0 : s[0] = 40 := by
    have := Lib.data_getElem? s 0 h0z
    rw [hs] at this
    simp at this
    exact this.symm
  have hne : s.toList.isEmpty = false := by rw [Lib.toList_data, hs]; rfl
  have hne2 : (!s.toList.isEmpty) = true := by rw [hne]; rfl
  have hb0 : ∀ x : UInt8, bad x = (x == 40 && true) := fun x => by rw [hbad]; rfl
  have HB := Lib.hid hb0
  have hcr : ∀ W, Calls Tryz.prog 19 #[.string ⟨#[34, 39, 40]⟩, .int .i32 40] W fun e w' => e = .returned (.bool true) ∧ Below W.heap.size W w' := fun W => containsRune_nat ⟨#[34, 39, 40]⟩ 40 W (by unfold AllAscii; decide) (by decide) (by omega)
  have HCR := Lib.hid hcr
  clear hR hs hbad hb0 hcr hq
  have hsz0 : (0 : Int) < (s.size : Int) := by omega
  go_enter Tryz.func82, Tryz.ntmps82
  go_wp2_with fail
  refine (HCR.out _).mono ?_
  rintro e w1 ⟨rfl, hb1⟩
  clear hne hne2
  go_wp2_with fail
  go_loop [6] (fun u6 => ∃ i : Nat, 1 ≤ i ∧ i ≤ 1000000002 ∧ u6 = .int .i64 i ∧ ScanTo s 41 bad i R) (fun u6 => s.size - (intOf u6).toNat)
  case atStart => exact ⟨1, by omega, by omega, rfl, h1⟩
  case round =>
    obtain ⟨i, hi1, hi2, rfl, hsc⟩ := hrel
    clear h1 h0
    by_cases hlt : i < s.size
    · obtain ⟨c, hc⟩ : ∃ c, s[i] = c := ⟨_, rfl⟩
      have HSC := Lib.hid hsc
      have HC := Lib.hid hc
      clear hsc
      by_cases c1 : c.toNat = 92
      · have ht : ((c.toNat : Int) == 92) = true := by simp; omega
        have hc92 : c = 92 := byte_eq c1
        have hzC : ∀ W, Calls Tryz.prog 120 #[.string s, .int .i64 ((i : Int) + 1)] W fun e w' => e = .returned (.bool (decide (s.data.toList[i + 1]? = some 0))) ∧ w' = W := fun W => zero_any s _ (i + 1) (by omega) W hz
        by_cases hzz : s.data.toList[i + 1]? = some 0
        · rw [decide_eq_true hzz] at hzC
          have HZ := Lib.hid hzC
          have HN := Lib.hid (HM.out (scan_slash0 HSC.out hlt (by rw [HC.out, hc92]) hzz))
          clear hzC hzz c1 hc92
          go_wp2_with fail
          refine (HZ.out _).mono ?_
          rintro e w' ⟨rfl, rfl⟩
          go_wp2_with fail
          go_ret3
          exact ⟨ret_sib HN.out rfl, hb1⟩
        · rw [decide_eq_false hzz] at hzC
          have HZ := Lib.hid hzC
          have HN := Lib.hid (scan_slash1 HSC.out hlt (by rw [HC.out, hc92]) hzz)
          clear hzC hzz c1 hc92
          go_wp2_with fail
          refine (HZ.out _).mono ?_
          rintro e w' ⟨rfl, rfl⟩
          go_wp2_with fail
          go_round
          case rel => exact ⟨i + 2, by omega, by omega, by go_num, HN.out⟩
          case measure => simp [intOf]; omega
      · have ht : ((c.toNat : Int) == 92) = false := by simp; omega
        have h92 : c ≠ 92 := byte_ne (n := 92) (by omega) c1
        clear c1
        by_cases c4 : c.toNat = 41
        · have ht4 : ((c.toNat : Int) == 41) = true := by simp; omega
          have HN := Lib.hid (HT.out i (scan_hit0 HSC.out hlt (by rw [HC.out, byte_eq c4]; rfl) (by decide)))
          clear c4 h92
          obtain ⟨S, hS⟩ : ∃ S : ByteArray, s.extract 1 i = S := ⟨_, rfl⟩
          have hSl : S.data.toList = (s.data.toList.take i).tail := by rw [← hS, ext_list]
          have hSz : S.size ≤ 1000000000 := by rw [Lib.size_eq, hSl]; simp; omega
          have hun := unesc_any S w1 (hE.below hb1) hSz
          rw [hSl] at hun
          have HU := Lib.hid hun
          clear hun hSl
          go_wp2_with fail
          refine (HU.out).mono ?_
          rintro e w' ⟨rfl, hb⟩
          go_wp2_with fail
          go_ret3
          exact ⟨ret_sib (m := i + 1) HN.out (by simp), below_step hb1 hb⟩
        · have ht4 : ((c.toNat : Int) == 41) = false := by simp; omega
          have hce : c ≠ 41 := byte_ne (n := 41) (by omega) c4
          clear c4
          by_cases c2 : c.toNat = 40
          · have ht2 : ((c.toNat : Int) == 40) = true := by simp; omega
            have HN := Lib.hid (HM.out (scan_bad0 HSC.out hlt HC.out h92 hce (Or.inl (by rw [HB.out, byte_eq c2]; rfl))))
            clear c2 h92 hce
            go_wp2_with fail
            go_ret3
            exact ⟨ret_sib HN.out rfl, hb1⟩
          · have ht2 : ((c.toNat : Int) == 40) = false := by simp; omega
            have hc40 : c ≠ 40 := byte_ne (n := 40) (by omega) c2
            clear c2
            have hzC : ∀ W, Calls Tryz.prog 120 #[.string s, .int .i64 (i : Int)] W fun e w' => e = .returned (.bool (decide (s.data.toList[i]? = some 0))) ∧ w' = W := fun W => zero_any s _ i rfl W hz
            have hgi : s.data.toList[i]? = some c := by rw [← HC.out]; exact Lib.data_getElem? s i hlt
            rw [hgi] at hzC
            have hbadc : bad c = false := by rw [HB.out]; simp [hc40]
            by_cases c5 : c = 0
            · rw [decide_eq_true (congrArg some c5)] at hzC
              have HZ := Lib.hid hzC
              have HN := Lib.hid (HM.out (scan_bad0 HSC.out hlt HC.out h92 hce (Or.inr c5)))
              clear hzC hgi hbadc c5 h92 hce
              go_wp2_with fail
              refine (HZ.out _).mono ?_
              rintro e w' ⟨rfl, rfl⟩
              go_wp2_with fail
              go_ret3
              exact ⟨ret_sib HN.out rfl, hb1⟩
            · rw [decide_eq_false (fun h => c5 (Option.some.inj h))] at hzC
              have HZ := Lib.hid hzC
              have HN := Lib.hid (scan_next HSC.out hlt HC.out h92 hce (by rw [hbadc]; simp [c5]))
              clear hzC hgi hbadc c5 h92 hce
              go_wp2_with fail
              refine (HZ.out _).mono ?_
              rintro e w' ⟨rfl, rfl⟩
              go_wp2_with fail
              go_round
              case rel => exact ⟨i + 1, by omega, by omega, by go_num, HN.out⟩
              case measure => simp [intOf]; omega
    · have HN := Lib.hid (HM.out (scan_end0 hsc hlt))
      clear hsc
      go_wp2_with fail
      go_ret3
      exact ⟨ret_sib HN.out rfl, hb1⟩

set_option maxHeartbeats 2000000 in
theorem title_any (s : ByteArray) (w : World) (hE : Env w) (hz : s.size ≤ 1000000000) :
    Calls Tryz.prog 82 #[.string s] w fun e w' => e = .returned (.tuple #[.string ⟨(title s.data.toList).1.toArray⟩, .int .i64 (title s.data.toList).2.1, .bool (title s.data.toList).2.2]) ∧ Below w.heap.size w w' := by
  by_cases h0z : 0 < s.size
  · have hda := drop_at s 0 h0z
    rw [List.drop_zero] at hda
    obtain ⟨c, hc⟩ : ∃ c, s[0] = c := ⟨_, rfl⟩
    rw [hc] at hda
    obtain ⟨r, hr⟩ : ∃ r, s.data.toList.drop (0 + 1) = r := ⟨_, rfl⟩
    rw [hr] at hda
    by_cases hq : IsQuote c
    · rcases hq with rfl | rfl | rfl
      · exact title_34 s r w hE hz hda
      · exact title_39 s r w hE hz hda
      · exact title_40 s r w hE hz hda
    · have HN := Lib.hid (show title s.data.toList = ([], 0, false) by rw [hda]; exact title_other hq)
      obtain ⟨cb0, cb1⟩ := byte_lt c
      have hcr := fun W => containsRune_nat ⟨#[34, 39, 40]⟩ c.toNat W (by unfold AllAscii; decide) (by decide) (by have := c.toNat_lt; omega)
      have hany : (ByteArray.mk #[34, 39, 40]).data.toList.any (fun b => b.toNat == c.toNat) = false := by
        rw [List.any_eq_false]
        intro b hb
        simp only [beq_iff_eq, Bool.not_eq_true, beq_eq_false_iff_ne]
        intro e
        have hbc : b = c := UInt8.toNat.inj e
        subst hbc
        apply hq
        simp at hb
        exact hb
      rw [hany] at hcr
      have HCR := Lib.hid hcr
      have hne : s.toList.isEmpty = false := by rw [Lib.toList_data, hda]; rfl
      have hne2 : (!s.toList.isEmpty) = true := by rw [hne]; rfl
      have hsz0 : (0 : Int) < (s.size : Int) := by omega
      clear hda hr hcr hany hq
      go_enter Tryz.func82, Tryz.ntmps82
      go_wp2_with fail
      refine (HCR.out _).mono ?_
      rintro e w1 ⟨rfl, hb1⟩
      go_wp2_with fail
      go_ret3
      exact ⟨ret_sib HN.out rfl, hb1⟩
  · have hs0 : s.data.toList = [] := by
      rw [← List.length_eq_zero_iff, ← Lib.size_eq]; omega
    have HN := Lib.hid (show title s.data.toList = ([], 0, false) by rw [hs0]; rfl)
    have hne : s.toList.isEmpty = true := by rw [Lib.toList_data, hs0]; rfl
    have hne2 : (!s.toList.isEmpty) = false := by rw [hne]; rfl
    clear hs0
    go_enter Tryz.func82, Tryz.ntmps82
    go_wp2_with fail
    go_ret3
    exact ⟨ret_sib HN.out rfl, Below.refl _ _⟩

end Go.Proofs.YtnlmfoccdmkncaaGreatDoor

/-
  define.Name, behind, block.Plain: names, and what stands behind blanks.
-/
namespace Go.Proofs.YtnlmfoccdmkncaaGreatDoor
open Go.RowKit
set_option maxRecDepth 100000
set_option linter.unusedVariables false
set_option linter.unusedSimpArgs false

def badSigns : List UInt8 := [91, 93, 10, 0]
def hasBad : Nat → List UInt8 → Bool
  | 0, _ => false
  | n + 1, l => if l = [] then false else (badSigns.any (fun b => b.toNat == (Lib.decodeL l).1)) || hasBad n (l.drop (Lib.decodeL l).2)
theorem hasBad_nil (n : Nat) : hasBad n [] = false := by cases n <;> simp [hasBad]
def nameL (l : List UInt8) : List UInt8 × Bool :=
  if hasBad l.length l = true then ([], false) else if fold l = [] ∨ 60 < (fold l).length then ([], false) else (fold l, true)

set_option maxHeartbeats 2000000 in
theorem name_any (s : ByteArray) (w : World) (hE : Env w) (hs : s.size ≤ 1000000000) :
    Calls Tryz.prog 6 #[.string s] w fun e w' => e = .returned (.tuple #[.string ⟨(nameL s.data.toList).1.toArray⟩, .bool (nameL s.data.toList).2]) ∧ Below w.heap.size w w' := by
  have HE := Lib.hid hE
  clear hE
  go_enter Tryz.func6, Tryz.ntmps6
  go_wp2_with fail
  go_loopw [] (fun wr => ∃ pos f : Nat, wr.heap[w.heap.size]? = some (.stringIter s pos) ∧ Below w.heap.size w wr ∧ hasBad f (s.data.toList.drop pos) = hasBad s.data.toList.length s.data.toList ∧ s.size ≤ pos + f) (fun wr => s.size - wr.iterPos w.heap.size)
  case atStart =>
    refine ⟨0, s.size, ?_, (Below.refl _ w).alloc (Nat.le_refl _) _, by rw [← Lib.size_eq]; rfl, by omega⟩
    have := World.iter_heap w s 0
    simpa using this
  case round =>
    obtain ⟨pos, f, hit, hbw, hbad, hfu⟩ := hrel
    have hsz : w.heap.size < wr.heap.size := (Array.getElem?_eq_some_iff.1 hit).1
    by_cases hp : pos < s.size
    · have hnx : ∀ ty, (Instr.next (.pointer (some ⟨w.heap.size, 0, none⟩)) true ty).run Tryz.prog wr = _ := fun ty => Lib.run_next_any_at wr w.heap.size s pos ty hit hp
      have hit2 := Lib.iterAt_heap wr w.heap.size s pos (pos + (Utf8.decode s pos).2) hit
      have hbw2 := Lib.below_iterAt hbw (k := w.heap.size) (by omega) s (pos + (Utf8.decode s pos).2)
      obtain ⟨f, rfl⟩ : ∃ g, f = g + 1 := ⟨f - 1, by omega⟩
      have hdl := Lib.decodeL_drop s pos
      have hwd := Lib.decodeL_width (s.data.toList.drop pos)
      have hrl := Lib.decodeL_rune (s.data.toList.drop pos)
      have hne : s.data.toList.drop pos ≠ [] := by intro h0; have := congrArg List.length h0; simp at this; omega
      rw [hasBad, if_neg hne, List.drop_drop] at hbad
      rw [← hdl] at hnx hit2 hbw2
      obtain ⟨r, n, hrn⟩ : ∃ r n, Lib.decodeL (s.data.toList.drop pos) = (r, n) := ⟨_, _, rfl⟩
      rw [hrn] at hnx hit2 hbw2 hwd hrl hbad
      simp only at hnx hit2 hbw2 hwd hrl hbad
      clear hrn hdl hbw
      have hcr := fun W => containsRune_nat ⟨#[91, 93, 10, 0]⟩ r W (by unfold AllAscii; decide) (by decide) hrl
      rw [show (ByteArray.mk #[91, 93, 10, 0]).data.toList = badSigns from rfl] at hcr
      have HCR := Lib.hid hcr
      have HBAD := Lib.hid hbad
      clear hcr hbad
      cases hb : badSigns.any (fun b => b.toNat == r)
      · have HN := Lib.hid (show hasBad f (s.data.toList.drop (pos + n)) = hasBad s.data.toList.length s.data.toList by have := HBAD.out; rw [hb, Bool.false_or] at this; exact this)
        have HB := Lib.hid hb
        clear hb
        go_wp2_with fail
        refine (HCR.out _).mono ?_
        rintro e w2 ⟨rfl, b2⟩
        rw [HB.out]
        have hit3 := iter_below hit2 b2
        have hbw3 := below_step hbw2 b2
        go_wp2_with fail
        go_roundw
        case rel => exact ⟨pos + n, f, hit3, hbw3, HN.out, by omega⟩
        case measure => simp only [World.iterPos, hit3, hit]; omega
      · have HN := Lib.hid (show nameL s.data.toList = ([], false) by
          unfold nameL
          rw [if_pos]
          have := HBAD.out; rw [hb, Bool.true_or] at this; exact this.symm)
        have HB := Lib.hid hb
        clear hb
        go_wp2_with fail
        refine (HCR.out _).mono ?_
        rintro e w2 ⟨rfl, b2⟩
        rw [HB.out]
        have hbw3 := below_step hbw2 b2
        go_wp2_with fail
        go_ret2
        exact ⟨ret_sb HN.out, hbw3⟩
    · have hnx : ∀ ty, (Instr.next (.pointer (some ⟨w.heap.size, 0, none⟩)) true ty).run Tryz.prog wr = _ := fun ty => Lib.run_next_end_at wr w.heap.size s pos ty hit hp
      rw [drop_end s pos (by omega), hasBad_nil] at hbad
      have HB := Lib.hid hbad.symm
      clear hbad
      obtain ⟨X, hX⟩ : ∃ X : ByteArray, X = ⟨(fold s.data.toList).toArray⟩ := ⟨_, rfl⟩
      have hXl : X.data.toList = fold s.data.toList := by rw [hX]
      have hXs : X.size = (fold s.data.toList).length := by rw [Lib.size_eq, hXl]
      have hf := fun W hW => fold_any s W hW hs
      rw [← hX] at hf
      have HF := Lib.hid hf
      have HX := Lib.hid hXl
      have HXS := Lib.hid hXs
      clear hf hXl hXs hX
      by_cases h0 : 0 < X.size
      · have he := empty_no h0
        by_cases h6 : 60 < X.size
        · have h6' : (60 : Int) < (X.size : Int) := by omega
          have HN := Lib.hid (show nameL s.data.toList = ([], false) by
            unfold nameL
            rw [if_neg (by rw [HB.out]; simp), if_pos (Or.inr (by rw [← HXS.out]; exact h6))])
          go_wp2_with fail
          refine (HF.out _ (HE.out.below hbw)).mono ?_
          rintro e w2 ⟨rfl, b2⟩
          go_wp2_with fail
          go_ret2
          exact ⟨ret_sb HN.out, below_step hbw b2⟩
        · have h6' : ¬ (60 : Int) < (X.size : Int) := by omega
          have HN := Lib.hid (show nameL s.data.toList = (X.data.toList, true) by
            unfold nameL
            rw [if_neg (by rw [HB.out]; simp), if_neg (by
              rintro (h | h)
              · rw [HXS.out, h] at h0; exact absurd h0 (by simp)
              · rw [← HXS.out] at h; exact h6 h), HX.out])
          go_wp2_with fail
          refine (HF.out _ (HE.out.below hbw)).mono ?_
          rintro e w2 ⟨rfl, b2⟩
          go_wp2_with fail
          go_ret2
          exact ⟨ret_sb HN.out, below_step hbw b2⟩
      · have he := empty_yes (s := X) (by omega)
        have HN := Lib.hid (show nameL s.data.toList = ([], false) by
          unfold nameL
          rw [if_neg (by rw [HB.out]; simp), if_pos (Or.inl (List.eq_nil_of_length_eq_zero (by rw [← HXS.out]; omega)))])
        go_wp2_with fail
        refine (HF.out _ (HE.out.below hbw)).mono ?_
        rintro e w2 ⟨rfl, b2⟩
        go_wp2_with fail
        go_ret2
        exact ⟨ret_sb HN.out, below_step hbw b2⟩

def blanks : List UInt8 := [32, 9]
def behindL (l : List UInt8) : List UInt8 × Bool := (Lib.trimLeftS l blanks, decide ((Lib.trimLeftS l blanks).length < l.length))
theorem behind_any (s : ByteArray) (w : World) :
    Calls Tryz.prog 25 #[.string s] w fun e w' => e = .returned (.tuple #[.string ⟨(behindL s.data.toList).1.toArray⟩, .bool (behindL s.data.toList).2]) ∧ Below w.heap.size w w' := by
  have hc : ∀ W, Calls Tryz.prog 79 #[.string s, .string ⟨#[32, 9]⟩] W fun e w' => e = .returned (.string ⟨(Lib.trimLeftS s.data.toList blanks).toArray⟩) ∧ Below W.heap.size W w' := fun W =>
    Any.strings_TrimLeft_laid Tryz.lays161 (by kernel_rfl) s ⟨#[32, 9]⟩ W (by decide) (ascii_of_all (by decide))
  obtain ⟨X, hX⟩ : ∃ X : ByteArray, X = ⟨(Lib.trimLeftS s.data.toList blanks).toArray⟩ := ⟨_, rfl⟩
  rw [← hX] at hc
  have hXl : X.data.toList = Lib.trimLeftS s.data.toList blanks := by rw [hX]
  have HR := Lib.hid (show behindL s.data.toList = (X.data.toList, decide (X.size < s.size)) by
    unfold behindL
    rw [← hXl, ← Lib.size_eq, ← Lib.size_eq])
  have HC := Lib.hid hc
  clear hc hX hXl
  go_enter Tryz.func25, Tryz.ntmps25
  go_wp2_with fail
  refine (HC.out _).mono ?_
  rintro e w2 ⟨rfl, b2⟩
  go_wp2_with fail
  go_ret2
  exact ⟨ret_sb HR.out, b2⟩

def plainL (l : List UInt8) : List UInt8 := Lib.trimRightS (Lib.trimLeftS l blanks) blanks
theorem plain_skip {c : UInt8} {l : List UInt8} (h : blanks.contains c = true) : Lib.trimLeftS (c :: l) blanks = Lib.trimLeftS l blanks := by
  unfold Lib.trimLeftS; rw [List.dropWhile_cons_of_pos h]
theorem plain_stop {c : UInt8} {l : List UInt8} (h : blanks.contains c = false) : Lib.trimLeftS (c :: l) blanks = c :: l := by
  unfold Lib.trimLeftS; rw [List.dropWhile_cons_of_neg (by rw [h]; simp)]

set_option maxHeartbeats 2000000 in
theorem plain_any (s : ByteArray) (w : World) (hs : s.size ≤ 1000000000) :
    Calls Tryz.prog 26 #[.string s] w fun e w' => e = .returned (.string ⟨(plainL s.data.toList).toArray⟩) ∧ Below w.heap.size w w' := by
  go_enter Tryz.func26, Tryz.ntmps26
  go_wp2_with fail
  go_loopw [] (fun wr => ∃ pos : Nat, wr.heap[w.heap.size]? = some (.stringIter s pos) ∧ Below w.heap.size w wr ∧ Lib.trimLeftS (s.data.toList.drop pos) blanks = Lib.trimLeftS s.data.toList blanks) (fun wr => s.size - wr.iterPos w.heap.size)
  case atStart =>
    refine ⟨0, ?_, (Below.refl _ w).alloc (Nat.le_refl _) _, by simp⟩
    have := World.iter_heap w s 0
    simpa using this
  case round =>
    obtain ⟨pos, hit, hbw, htr⟩ := hrel
    have hsz : w.heap.size < wr.heap.size := (Array.getElem?_eq_some_iff.1 hit).1
    by_cases hp : pos < s.size
    · have hnx : ∀ ty, (Instr.next (.pointer (some ⟨w.heap.size, 0, none⟩)) true ty).run Tryz.prog wr = _ := fun ty => Lib.run_next_any_at wr w.heap.size s pos ty hit hp
      have hit2 := Lib.iterAt_heap wr w.heap.size s pos (pos + (Utf8.decode s pos).2) hit
      have hbw2 := Lib.below_iterAt hbw (k := w.heap.size) (by omega) s (pos + (Utf8.decode s pos).2)
      have hda := drop_at s pos hp
      cases hbl : blanks.contains s[pos]
      · rw [hda, plain_stop hbl, ← hda] at htr
        have hr : ((((Utf8.decode s pos).1 : Nat) : Int) != 32) = true ∧ ((((Utf8.decode s pos).1 : Nat) : Int) != 9) = true := by
          by_cases hasc : s[pos].toNat < 128
          · rw [Go.decode_ascii s pos hp hasc]
            have h1 : s[pos] ≠ 32 := fun e => by rw [e] at hbl; exact absurd hbl (by decide)
            have h2 : s[pos] ≠ 9 := fun e => by rw [e] at hbl; exact absurd hbl (by decide)
            have h1' : s[pos].toNat ≠ 32 := fun e => h1 (byte_eq e)
            have h2' : s[pos].toNat ≠ 9 := fun e => h2 (byte_eq e)
            constructor <;> (simp; omega)
          · have := decode_big s pos hp (by omega)
            constructor <;> (simp; omega)
        obtain ⟨r, n, hrn⟩ : ∃ r n, Utf8.decode s pos = (r, n) := ⟨_, _, rfl⟩
        rw [hrn] at hnx hit2 hbw2 hr
        simp only at hnx hit2 hbw2 hr
        obtain ⟨hr1, hr2⟩ := hr
        obtain ⟨S, hS⟩ : ∃ S : ByteArray, s.extract pos s.size = S := ⟨_, rfl⟩
        have hSl : S.data.toList = s.data.toList.drop pos := by rw [← hS, Lib.extract_to_end]
        have hSz : S.size ≤ 9223372036854775807 := by rw [Lib.size_eq, hSl]; simp; omega
        have hc : ∀ W, Calls Tryz.prog 80 #[.string S, .string ⟨#[32, 9]⟩] W fun e w' => e = .returned (.string ⟨(plainL s.data.toList).toArray⟩) ∧ Below W.heap.size W w' := fun W => by
          have := Any.strings_TrimRight_laid Tryz.lays162 (by kernel_rfl) S ⟨#[32, 9]⟩ W hSz (by decide) (ascii_of_all (by decide))
          rw [hSl, htr] at this
          exact this
        have HC := Lib.hid hc
        clear hc hSl hSz htr hda hbl hrn hbw hit
        go_wp2_with fail
        refine (HC.out _).mono ?_
        rintro e w2 ⟨rfl, b2⟩
        go_wp2_with fail
        go_ret
        exact ⟨rfl, below_step hbw2 b2⟩
      · rw [hda, plain_skip hbl] at htr
        have h12 : s[pos] = 32 ∨ s[pos] = 9 := by simp [blanks] at hbl; exact hbl
        have hasc : s[pos].toNat < 128 := by rcases h12 with h | h <;> rw [h] <;> decide
        rw [Go.decode_ascii s pos hp hasc] at hnx hit2 hbw2
        simp only at hnx hit2 hbw2
        obtain ⟨c, hc⟩ : ∃ c, s[pos] = c := ⟨_, rfl⟩
        rw [hc] at hnx h12
        have HT := Lib.hid htr
        clear hda hbl hasc htr hc
        rcases h12 with rfl | rfl
        all_goals
          go_wp2_with fail
          go_roundw
          case rel => exact ⟨pos + 1, hit2, hbw2, HT.out⟩
          case measure => simp only [World.iterPos, hit2, hit]; omega
    · have hnx : ∀ ty, (Instr.next (.pointer (some ⟨w.heap.size, 0, none⟩)) true ty).run Tryz.prog wr = _ := fun ty => Lib.run_next_end_at wr w.heap.size s pos ty hit hp
      have HR := Lib.hid (show plainL s.data.toList = [] by
        unfold plainL
        rw [← htr, drop_end s pos (by omega)]; rfl)
      clear htr
      go_wp2_with fail
      go_ret
      exact ⟨ret_strs HR.out.symm, hbw⟩

end Go.Proofs.YtnlmfoccdmkncaaGreatDoor

/-
  target.skip, Inside: what stands between brackets.
-/
namespace Go.Proofs.YtnlmfoccdmkncaaGreatDoor
open Go.RowKit
set_option maxRecDepth 100000
set_option linter.unusedVariables false
set_option linter.unusedSimpArgs false

theorem trimWhite (s : ByteArray) (w : World) : Calls Tryz.prog 79 #[.string s, .string ⟨#[32, 9, 10]⟩] w fun e w' => e = .returned (.string ⟨(Lib.trimLeftS s.data.toList whites).toArray⟩) ∧ Below w.heap.size w w' :=
  Any.strings_TrimLeft_laid Tryz.lays161 (by kernel_rfl) s ⟨#[32, 9, 10]⟩ w (by decide) (ascii_of_all (by decide))

theorem skip_le (l : List UInt8) (n : Nat) (h : n ≤ l.length) : n ≤ skipW l n ∧ skipW l n ≤ l.length := by
  unfold skipW
  have : (Lib.trimLeftS (l.drop n) whites).length ≤ (l.drop n).length := (List.dropWhile_sublist _).length_le
  simp at this
  omega

theorem scan_lt (e : UInt8) (bad : UInt8 → Bool) : ∀ (f : Nat) (l : List UInt8) (i j : Nat), scanTo e bad f l i = some j → j < i + l.length := by
  intro f
  induction f with
  | zero => intro l i j h; cases h
  | succ f ih =>
    intro l i j h
    cases l with
    | nil => cases h
    | cons c l =>
      unfold scanTo at h
      split at h
      · split at h
        · cases h
        · cases l with
          | nil => rw [show ([] : List UInt8).drop 1 = [] from rfl] at h; cases f <;> cases h
          | cons d l => have := ih _ _ _ h; simp at this ⊢; omega
      · split at h
        · cases h; simp
        · split at h
          · cases h
          · have := ih _ _ _ h; simp at this ⊢; omega

theorem dgo_le : ∀ (f : Nat) (l : List UInt8) (o i : Nat), (destGo f l o i).2 ≤ i + l.length := by
  intro f
  induction f with
  | zero => intro l o i; simp [destGo]
  | succ f ih =>
    intro l o i
    cases l with
    | nil => simp [destGo]
    | cons c l =>
      unfold destGo
      split
      · simp
      · split
        · rename_i h
          cases l with
          | nil => simp at h
          | cons d l => have := ih l o (i + 2); simp at this ⊢; omega
        · split
          · have := ih l (o + 1) (i + 1); simp at this ⊢; omega
          · split
            · simp
            · split
              · have := ih l (o - 1) (i + 1); simp at this ⊢; omega
              · have := ih l o (i + 1); simp at this ⊢; omega

theorem dest_le (l : List UInt8) : (dest l).2.1 ≤ l.length := by
  unfold dest
  split
  · rename_i h
    unfold angled
    split
    · rename_i j hj
      have := scan_lt _ _ _ _ _ _ hj
      have h1 : 1 ≤ l.length := by cases l with | nil => simp at h | cons _ _ => simp
      simp at this ⊢
      omega
    · exact Nat.zero_le _
  · simp only
    split
    · exact Nat.zero_le _
    · have := dgo_le l.length l 0 0
      simp at this ⊢
      exact this

theorem title_le (l : List UInt8) : (title l).2.1 ≤ l.length := by
  cases l with
  | nil => exact Nat.zero_le _
  | cons c r =>
    by_cases hq : IsQuote c
    · rw [title_eq c r hq]
      split
      · rename_i j hj
        have := scan_lt _ _ _ _ _ _ hj
        simp at this ⊢
        omega
      · exact Nat.zero_le _
    · rw [title_other hq]
      exact Nat.zero_le _

theorem title_text {l : List UInt8} (h : (title l).2.2 = false) : (title l).1 = [] := by
  cases l with
  | nil => rfl
  | cons c r =>
    by_cases hq : IsQuote c
    · rw [title_eq c r hq] at h ⊢
      split at h
      · cases h
      · rfl
    · rw [title_other hq]

end Go.Proofs.YtnlmfoccdmkncaaGreatDoor

/-
  define.link: the target and the title of a definition.
-/
namespace Go.Proofs.YtnlmfoccdmkncaaGreatDoor
open Go.RowKit
set_option maxRecDepth 100000
set_option linter.unusedVariables false
set_option linter.unusedSimpArgs false

/-- A definition, as the model keeps it. -/
def defV (n u t x : List UInt8) (b : Bool) : Value := .agg #[.string ⟨n.toArray⟩, .string ⟨u.toArray⟩, .string ⟨t.toArray⟩, .string ⟨x.toArray⟩, .bool b]

def linkL (l : List UInt8) : List UInt8 × List UInt8 × Bool :=
  if (dest l).2.2 = false then ([], [], false)
  else if (behindL (l.drop (dest l).2.1)).1 = [] then ((dest l).1, [], true)
  else if (title (behindL (l.drop (dest l).2.1)).1).2.2 = true ∧ (behindL (l.drop (dest l).2.1)).2 = true ∧ plainL ((behindL (l.drop (dest l).2.1)).1.drop (title (behindL (l.drop (dest l).2.1)).1).2.1) = [] then ((dest l).1, (title (behindL (l.drop (dest l).2.1)).1).1, true)
  else ([], [], false)

theorem ret_def {p : List UInt8 × List UInt8 × Bool} {u t : ByteArray} {b : Bool} (h : p = (u.data.toList, t.data.toList, b)) : Ending.returned (.tuple #[.agg #[.string ⟨#[]⟩, .string u, .string t, .string ⟨#[]⟩, .bool false], .bool b]) = .returned (.tuple #[defV [] p.1 p.2.1 [] false, .bool p.2.2]) := by
  rw [h]; unfold defV; rw [Lib.mk_data, Lib.mk_data]

/-- The cell in which a definition is handed back, still as it was laid. -/
theorem zero_def {w w2 : World} {n : Nat} (hb : Below n (w.alloc (.cells #[.string ⟨#[]⟩, .string ⟨#[]⟩, .string ⟨#[]⟩, .string ⟨#[]⟩, .bool false] 26)) w2) (hn : n = w.heap.size + 1 := by simp) :
    w2.cell? ⟨w.heap.size, 0, none⟩ = some (.string ⟨#[]⟩) ∧ w2.cell? ⟨w.heap.size, 1, none⟩ = some (.string ⟨#[]⟩) ∧ w2.cell? ⟨w.heap.size, 2, none⟩ = some (.string ⟨#[]⟩) ∧ w2.cell? ⟨w.heap.size, 3, none⟩ = some (.string ⟨#[]⟩) ∧ w2.cell? ⟨w.heap.size, 4, none⟩ = some (.bool false) ∧
    w2.frozen? ⟨w.heap.size, 0, none⟩ = false ∧ w2.frozen? ⟨w.heap.size, 1, none⟩ = false ∧ w2.frozen? ⟨w.heap.size, 2, none⟩ = false ∧ w2.frozen? ⟨w.heap.size, 3, none⟩ = false ∧ w2.frozen? ⟨w.heap.size, 4, none⟩ = false ∧ w.heap.size < w2.heap.size := by
  subst hn
  refine ⟨(hb.cell (p := ⟨w.heap.size, 0, none⟩) (by simp)).trans (by simp), (hb.cell (p := ⟨w.heap.size, 1, none⟩) (by simp)).trans (by simp), (hb.cell (p := ⟨w.heap.size, 2, none⟩) (by simp)).trans (by simp), (hb.cell (p := ⟨w.heap.size, 3, none⟩) (by simp)).trans (by simp), (hb.cell (p := ⟨w.heap.size, 4, none⟩) (by simp)).trans (by simp), (hb.frozen (p := ⟨w.heap.size, 0, none⟩) (by simp)).trans (by simp), (hb.frozen (p := ⟨w.heap.size, 1, none⟩) (by simp)).trans (by simp), (hb.frozen (p := ⟨w.heap.size, 2, none⟩) (by simp)).trans (by simp), (hb.frozen (p := ⟨w.heap.size, 3, none⟩) (by simp)).trans (by simp), (hb.frozen (p := ⟨w.heap.size, 4, none⟩) (by simp)).trans (by simp), ?_⟩
  have := hb.size; simp at this; omega

theorem below_def {w w2 : World} {u0 u1 u2 u3 u4 : Value} (h : Below w.heap.size w w2) : Below w.heap.size w (((((w2.setCell ⟨w.heap.size, 0, none⟩ u0).setCell ⟨w.heap.size, 1, none⟩ u1).setCell ⟨w.heap.size, 2, none⟩ u2).setCell ⟨w.heap.size, 3, none⟩ u3).setCell ⟨w.heap.size, 4, none⟩ u4) :=
  ((((h.setCell (by simp) _).setCell (by simp) _).setCell (by simp) _).setCell (by simp) _).setCell (by simp) _

theorem behind_le (l : List UInt8) : (behindL l).1.length ≤ l.length := (List.dropWhile_sublist _).length_le

set_option maxHeartbeats 4000000 in
theorem link_any (s : ByteArray) (w : World) (hE : Env w) (hs : s.size ≤ 1000000000) :
    Calls Tryz.prog 27 #[.string s] w fun e w' => e = .returned (.tuple #[defV [] (linkL s.data.toList).1 (linkL s.data.toList).2.1 [] false, .bool (linkL s.data.toList).2.2]) ∧ Below w.heap.size w w' := by
  have hle := dest_le s.data.toList
  rw [← Lib.size_eq] at hle
  have hd := fun W hW => dest_any s W hW hs
  have HL : ∃ x, linkL s.data.toList = x := ⟨_, rfl⟩
  obtain ⟨L, HL⟩ := HL
  have HLD := Lib.hid HL
  have HL2 := HL
  unfold linkL at HL2
  obtain ⟨d1, d2, d3, hdd⟩ : ∃ a b c, dest s.data.toList = (a, b, c) := ⟨_, _, _, rfl⟩
  rw [hdd] at hd hle HL2
  simp only at hd hle HL2
  obtain ⟨D, hD⟩ : ∃ D : ByteArray, D = ⟨d1.toArray⟩ := ⟨_, rfl⟩
  have hDl : d1 = D.data.toList := by rw [hD]
  rw [← hD] at hd
  rw [hDl] at HL2
  have HE := Lib.hid hE
  have HD := Lib.hid hd
  have HQ := Lib.hid HL2
  clear hE hd hdd HL HL2 hD hDl
  rw [HLD.out]
  clear HLD
  have hb1 : Below w.heap.size w (w.alloc (.cells #[.string ⟨#[]⟩, .string ⟨#[]⟩, .string ⟨#[]⟩, .string ⟨#[]⟩, .bool false] 26)) := (Below.refl _ w).alloc (Nat.le_refl _) _
  cases d3
  · go_enter Tryz.func27, Tryz.ntmps27
    go_wp2_with fail
    refine (HD.out _ (HE.out.below hb1)).mono ?_
    rintro e w2 ⟨rfl, b2⟩
    obtain ⟨c0, c1, c2, c3, c4, f0, f1, f2, f3, f4, hsz⟩ := zero_def b2
    have hb2 := below_step hb1 b2
    clear hb1 b2
    go_wp2_with fail
    refine bodyPost_ret (v := .tuple #[.agg #[.string ⟨#[]⟩, .string ⟨#[]⟩, .string ⟨#[]⟩, .string ⟨#[]⟩, .bool false], .bool false]) (by simp [results, Tryz.results27, go_sem, c0, c1, c2, c3, c4, f0, f1, f2, f3, f4]) rfl ⟨?_, below_def hb2⟩
    exact ret_def (t := ⟨#[]⟩) (u := ⟨#[]⟩) HQ.out.symm
  · obtain ⟨S, hS⟩ : ∃ S : ByteArray, s.extract d2 s.size = S := ⟨_, rfl⟩
    have hSl : S.data.toList = s.data.toList.drop d2 := by rw [← hS, Lib.extract_to_end]
    have hSz : S.size ≤ s.size := by rw [Lib.size_eq, hSl, Lib.size_eq]; simp
    have hbh := fun W => behind_any S W
    have hxl := behind_le (s.data.toList.drop d2)
    obtain ⟨x, g, hx⟩ : ∃ a b, behindL (s.data.toList.drop d2) = (a, b) := ⟨_, _, rfl⟩
    rw [hSl, hx] at hbh
    have hq := HQ.out
    rw [hx] at hq hxl
    simp only [Bool.true_eq_false, if_false] at hbh hq hxl
    obtain ⟨X, hX⟩ : ∃ X : ByteArray, X = ⟨x.toArray⟩ := ⟨_, rfl⟩
    have hXl : x = X.data.toList := by rw [hX]
    rw [← hX] at hbh
    rw [hXl] at hq hxl
    rw [← hSl, ← Lib.size_eq, ← Lib.size_eq] at hxl
    have HB := Lib.hid hbh
    clear hbh hx hX hXl hSl HQ
    by_cases hX0 : 0 < X.size
    · have he := empty_no hX0
      have hne : X.data.toList ≠ [] := by intro h; rw [Lib.size_eq, h] at hX0; exact absurd hX0 (by simp)
      rw [if_neg hne] at hq
      have ht := fun W hW => title_any X W hW (by omega)
      have htl := title_le X.data.toList
      obtain ⟨t1, n, is, htt⟩ : ∃ a b c, title X.data.toList = (a, b, c) := ⟨_, _, _, rfl⟩
      rw [htt] at ht hq htl
      simp only at ht hq htl
      rw [← Lib.size_eq] at htl
      obtain ⟨T, hT⟩ : ∃ T : ByteArray, T = ⟨t1.toArray⟩ := ⟨_, rfl⟩
      have hTl : t1 = T.data.toList := by rw [hT]
      rw [← hT] at ht
      rw [hTl] at hq
      have HT := Lib.hid ht
      clear ht htt hT hTl hne
      cases is
      · rw [if_neg (by simp)] at hq
        have HQ := Lib.hid hq
        clear hq
        go_enter Tryz.func27, Tryz.ntmps27
        go_wp2_with fail
        refine (HD.out _ (HE.out.below hb1)).mono ?_
        rintro e w2 ⟨rfl, b2⟩
        have hb2 := below_step hb1 b2
        go_wp2_with fail
        refine (HB.out _).mono ?_
        rintro e w3 ⟨rfl, b3⟩
        have hb3 := below_step hb2 b3
        go_wp2_with fail
        refine (HT.out _ (HE.out.below hb3)).mono ?_
        rintro e w4 ⟨rfl, b4⟩
        have hb4 := below_step hb3 b4
        obtain ⟨c0, c1, c2, c3, c4, f0, f1, f2, f3, f4, hsz⟩ := zero_def (below_step (below_step b2 b3) b4)
        clear hb1 hb2 hb3 b2 b3 b4
        go_wp2_with fail
        refine bodyPost_ret (v := .tuple #[.agg #[.string ⟨#[]⟩, .string ⟨#[]⟩, .string ⟨#[]⟩, .string ⟨#[]⟩, .bool false], .bool false]) (by simp [results, Tryz.results27, go_sem, c0, c1, c2, c3, c4, f0, f1, f2, f3, f4]) rfl ⟨?_, below_def hb4⟩
        exact ret_def (t := ⟨#[]⟩) (u := ⟨#[]⟩) HQ.out.symm
      · cases g
        · rw [if_neg (by simp)] at hq
          have HQ := Lib.hid hq
          clear hq
          go_enter Tryz.func27, Tryz.ntmps27
          go_wp2_with fail
          refine (HD.out _ (HE.out.below hb1)).mono ?_
          rintro e w2 ⟨rfl, b2⟩
          have hb2 := below_step hb1 b2
          go_wp2_with fail
          refine (HB.out _).mono ?_
          rintro e w3 ⟨rfl, b3⟩
          have hb3 := below_step hb2 b3
          go_wp2_with fail
          refine (HT.out _ (HE.out.below hb3)).mono ?_
          rintro e w4 ⟨rfl, b4⟩
          have hb4 := below_step hb3 b4
          obtain ⟨c0, c1, c2, c3, c4, f0, f1, f2, f3, f4, hsz⟩ := zero_def (below_step (below_step b2 b3) b4)
          clear hb1 hb2 hb3 b2 b3 b4
          go_wp2_with fail
          refine bodyPost_ret (v := .tuple #[.agg #[.string ⟨#[]⟩, .string ⟨#[]⟩, .string ⟨#[]⟩, .string ⟨#[]⟩, .bool false], .bool false]) (by simp [results, Tryz.results27, go_sem, c0, c1, c2, c3, c4, f0, f1, f2, f3, f4]) rfl ⟨?_, below_def hb4⟩
          exact ret_def (t := ⟨#[]⟩) (u := ⟨#[]⟩) HQ.out.symm
        · obtain ⟨Z, hZ⟩ : ∃ Z : ByteArray, X.extract n X.size = Z := ⟨_, rfl⟩
          have hZl : Z.data.toList = X.data.toList.drop n := by rw [← hZ, Lib.extract_to_end]
          have hZz : Z.size ≤ X.size := by rw [Lib.size_eq, hZl, Lib.size_eq]; simp
          have hp := fun W => plain_any Z W (by omega)
          obtain ⟨P, hP⟩ : ∃ P : ByteArray, P = ⟨(plainL Z.data.toList).toArray⟩ := ⟨_, rfl⟩
          have hPl : plainL Z.data.toList = P.data.toList := by rw [hP]
          rw [← hP] at hp
          rw [← hZl, hPl] at hq
          have HP := Lib.hid hp
          clear hp hP hPl hZl
          by_cases hP0 : 0 < P.size
          · have he2 := empty_no hP0
            have hne : P.data.toList ≠ [] := by intro h; rw [Lib.size_eq, h] at hP0; exact absurd hP0 (by simp)
            rw [if_neg (by rintro ⟨_, _, h⟩; exact hne h)] at hq
            have HQ := Lib.hid hq
            clear hq hne
            go_enter Tryz.func27, Tryz.ntmps27
            go_wp2_with fail
            refine (HD.out _ (HE.out.below hb1)).mono ?_
            rintro e w2 ⟨rfl, b2⟩
            have hb2 := below_step hb1 b2
            go_wp2_with fail
            refine (HB.out _).mono ?_
            rintro e w3 ⟨rfl, b3⟩
            have hb3 := below_step hb2 b3
            go_wp2_with fail
            refine (HT.out _ (HE.out.below hb3)).mono ?_
            rintro e w4 ⟨rfl, b4⟩
            have hb4 := below_step hb3 b4
            go_wp2_with fail
            refine (HP.out _).mono ?_
            rintro e w5 ⟨rfl, b5⟩
            have hb5 := below_step hb4 b5
            obtain ⟨c0, c1, c2, c3, c4, f0, f1, f2, f3, f4, hsz⟩ := zero_def (below_step (below_step (below_step b2 b3) b4) b5)
            clear hb1 hb2 hb3 hb4 b2 b3 b4 b5
            go_wp2_with fail
            refine bodyPost_ret (v := .tuple #[.agg #[.string ⟨#[]⟩, .string ⟨#[]⟩, .string ⟨#[]⟩, .string ⟨#[]⟩, .bool false], .bool false]) (by simp [results, Tryz.results27, go_sem, c0, c1, c2, c3, c4, f0, f1, f2, f3, f4]) rfl ⟨?_, below_def hb5⟩
            exact ret_def (t := ⟨#[]⟩) (u := ⟨#[]⟩) HQ.out.symm
          · have he2 := empty_yes (s := P) (by omega)
            have hnil : P.data.toList = [] := List.eq_nil_of_length_eq_zero (by rw [← Lib.size_eq]; omega)
            rw [if_pos ⟨rfl, rfl, hnil⟩] at hq
            have HQ := Lib.hid hq
            clear hq hnil
            go_enter Tryz.func27, Tryz.ntmps27
            go_wp2_with fail
            refine (HD.out _ (HE.out.below hb1)).mono ?_
            rintro e w2 ⟨rfl, b2⟩
            have hb2 := below_step hb1 b2
            go_wp2_with fail
            refine (HB.out _).mono ?_
            rintro e w3 ⟨rfl, b3⟩
            have hb3 := below_step hb2 b3
            go_wp2_with fail
            refine (HT.out _ (HE.out.below hb3)).mono ?_
            rintro e w4 ⟨rfl, b4⟩
            have hb4 := below_step hb3 b4
            go_wp2_with fail
            refine (HP.out _).mono ?_
            rintro e w5 ⟨rfl, b5⟩
            have hb5 := below_step hb4 b5
            obtain ⟨c0, c1, c2, c3, c4, f0, f1, f2, f3, f4, hsz⟩ := zero_def (below_step (below_step (below_step b2 b3) b4) b5)
            clear hb1 hb2 hb3 hb4 b2 b3 b4 b5
            go_wp2_with fail
            refine bodyPost_ret (v := .tuple #[.agg #[.string ⟨#[]⟩, .string D, .string T, .string ⟨#[]⟩, .bool false], .bool true]) (by simp [results, Tryz.results27, go_sem, c0, c1, c2, c3, c4, f0, f1, f2, f3, f4]) rfl ⟨?_, below_def hb5⟩
            exact ret_def HQ.out.symm
    · have he := empty_yes (s := X) (by omega)
      have hnil : X.data.toList = [] := List.eq_nil_of_length_eq_zero (by rw [← Lib.size_eq]; omega)
      rw [if_pos hnil] at hq
      have HQ := Lib.hid hq
      clear hq hnil
      go_enter Tryz.func27, Tryz.ntmps27
      go_wp2_with fail
      refine (HD.out _ (HE.out.below hb1)).mono ?_
      rintro e w2 ⟨rfl, b2⟩
      have hb2 := below_step hb1 b2
      go_wp2_with fail
      refine (HB.out _).mono ?_
      rintro e w3 ⟨rfl, b3⟩
      have hb3 := below_step hb2 b3
      obtain ⟨c0, c1, c2, c3, c4, f0, f1, f2, f3, f4, hsz⟩ := zero_def (below_step b2 b3)
      clear hb1 hb2 b2 b3
      go_wp2_with fail
      refine bodyPost_ret (v := .tuple #[.agg #[.string ⟨#[]⟩, .string D, .string ⟨#[]⟩, .string ⟨#[]⟩, .bool false], .bool true]) (by simp [results, Tryz.results27, go_sem, c0, c1, c2, c3, c4, f0, f1, f2, f3, f4]) rfl ⟨?_, below_def hb3⟩
      exact ret_def (t := ⟨#[]⟩) HQ.out.symm

end Go.Proofs.YtnlmfoccdmkncaaGreatDoor

/-
  define.Line: the plain function, and the two cuts that it makes.
-/
namespace Go.Proofs.YtnlmfoccdmkncaaGreatDoor
open Go.RowKit
set_option linter.unusedVariables false

/-- What stands before and behind a byte, and whether there is one. -/
def cutAt (c : UInt8) (l : List UInt8) : List UInt8 × List UInt8 × Bool := Lib.cut l [c]
def preAt (c : UInt8) (l : List UInt8) : List UInt8 × Bool := (Lib.trimPrefix l [c], Lib.hasPrefix l [c])

theorem pre_any (c : UInt8) (s : ByteArray) (w : World) :
    Calls Tryz.prog 23 #[.string s, .string ⟨#[c]⟩] w fun e w' => e = .returned (.tuple #[.string ⟨(preAt c s.data.toList).1.toArray⟩, .bool (preAt c s.data.toList).2]) ∧ w' = w :=
  Tryz.strings_CutPrefix s ⟨#[c]⟩ w

theorem cut_any (c : UInt8) (s : ByteArray) (w : World) (hE : Env w) (hs : s.size ≤ 1000000000) :
    Calls Tryz.prog 24 #[.string s, .string ⟨#[c]⟩] w fun e w' => e = .returned (.tuple #[.string ⟨(cutAt c s.data.toList).1.toArray⟩, .string ⟨(cutAt c s.data.toList).2.1.toArray⟩, .bool (cutAt c s.data.toList).2.2]) ∧ Below w.heap.size w w' := by
  obtain ⟨m, hm⟩ := hE.maxl
  refine (Tryz.strings_Cut s ⟨#[c]⟩ m w (by omega) hm).mono ?_
  rintro e w' ⟨rfl, n, rfl⟩
  exact ⟨rfl, below_drewN w n⟩

/-- A definition: its name, url, title, text, and whether it is a note. -/
structure DefL where
  name : List UInt8
  url : List UInt8
  title : List UInt8
  text : List UInt8
  note : Bool
deriving DecidableEq

def DefL.none : DefL := ⟨[], [], [], [], false⟩
def DefL.val (d : DefL) : Value := defV d.name d.url d.title d.text d.note

/-- What Line makes of a name and of what stands behind the colon. -/
def lineOf (name rest : List UInt8) : DefL × Bool :=
  if (preAt 94 name).2 = true then
    if plainL rest ≠ [] ∧ (nameL (preAt 94 name).1).2 = true then (⟨(nameL (preAt 94 name).1).1, [], [], plainL rest, true⟩, true) else (DefL.none, false)
  else if (linkL rest).2.2 = true ∧ (nameL name).2 = true then (⟨(nameL name).1, (linkL rest).1, (linkL rest).2.1, [], false⟩, true) else (DefL.none, false)

def lineL (l : List UInt8) : DefL × Bool :=
  if (preAt 91 l).2 = false then (DefL.none, false)
  else if (cutAt 93 (preAt 91 l).1).2.2 = true ∧ (preAt 58 (cutAt 93 (preAt 91 l).1).2.1).2 = true then
    lineOf (cutAt 93 (preAt 91 l).1).1 (behindL (preAt 58 (cutAt 93 (preAt 91 l).1).2.1).1).1
  else (DefL.none, false)

/-- What Take makes of a text: the definitions, and the rest. -/
def takeL : Nat → List UInt8 → List DefL → List DefL × List UInt8
  | 0, l, out => (out, l)
  | f + 1, l, out =>
    if l = [] then (out, l)
    else if (lineL (cutAt 10 l).1).2 = true then takeL f (cutAt 10 l).2.1 (out ++ [(lineL (cutAt 10 l).1).1]) else (out, l)

end Go.Proofs.YtnlmfoccdmkncaaGreatDoor

/-
  define.Table's plain functions: what a name stands for.
-/
namespace Go.Proofs.YtnlmfoccdmkncaaGreatDoor
open Go.RowKit

/-- A table's definition of a name as it is compared; the first. -/
def lookL (ds : List DefL) (x : List UInt8) (note : Bool) : Option DefL := ds.find? fun d => d.name == x && d.note == note
def findL (t : Option (List DefL)) (name : List UInt8) (note : Bool) : DefL × Bool :=
  match t with
  | none => (DefL.none, false)
  | some ds =>
    if (nameL name).2 = false then (DefL.none, false)
    else match lookL ds (nameL name).1 note with
      | some d => (d, true)
      | none => (DefL.none, false)

end Go.Proofs.YtnlmfoccdmkncaaGreatDoor

/-
  A slice of the call's own, and what a later world leaves of it.
-/
namespace Go.Proofs.YtnlmfoccdmkncaaGreatDoor
open Go.RowKit Go.Deep
set_option linter.unusedVariables false
set_option linter.unusedSimpArgs false

theorem add_at (x : Addr) (hx : x.spot = none) (j : Nat) : x.add j = ⟨x.block, x.off + j, none⟩ := by
  obtain ⟨b, o, s⟩ := x
  simp only at hx
  subst hx
  unfold Addr.add
  split <;> simp_all

theorem cells_new (w : World) (xs : List Value) (t : TypeId) (b : Nat) (hb : b = w.heap.size) : ∀ j u, xs[j]? = some u → (w.alloc (.cells xs.toArray t)).cell? ((⟨b, 0, none⟩ : Addr).add j) = some u := by
  subst hb
  intro j u hj
  rw [add_at _ rfl]
  simp [hj]

theorem own_below {w w' : World} {base : Nat} {e : TypeId} {size : Nat} {v : Value} {n : Nat} {xs : List Value} (h : w.ownsRow base e size v n xs) (hb : Below w.heap.size w w') : w'.ownsRow base e size v n xs :=
  h.kept (row := none) ⟨hb.os, hb.tape, hb.output, hb.size, fun k hk _ => hb.block k hk⟩ (Classical.em _)

end Go.Proofs.YtnlmfoccdmkncaaGreatDoor

/-
  Rows in memory: what is appended to a row of the call's own, whatever the shape of what is appended; a row that is full grows into a new one. No program in sight.
-/
namespace Go.Proofs.YtnlmfoccdmkncaaGreatDoor
open Go.RowKit
set_option linter.unusedVariables false
set_option linter.unusedSimpArgs false

/-- A row that is read from anywhere. -/
structure RowR (w : World) (size : Nat) (ao : Option Addr) (n : Nat) (xs : List Value) : Prop where
  len : xs.length = n * size
  non : ao = none → n = 0
  at' : ∀ ad, ao = some ad → ad.spot = none ∧ ∀ j u, xs[j]? = some u → w.cell? (ad.add j) = some u

theorem own_rowR {w : World} {base : Nat} {e : TypeId} {size : Nat} {ao : Option Addr} {n m c : Nat} {xs : List Value} (h : w.ownsRow base e size (.slice ao m c) n xs) : m = n ∧ RowR w size ao n xs ∧ (ao = none → c = 0) := by
  obtain ⟨hl, h2⟩ := h
  rcases h2 with ⟨h2, h3⟩ | ⟨g, cap, cur, h2, hb, hg, hnc, hcm, hcs, htake⟩
  · simp only [Value.slice.injEq] at h2
    obtain ⟨rfl, rfl, rfl⟩ := h2
    exact ⟨h3.symm, ⟨hl, fun _ => h3, fun ad had => by cases had⟩, fun _ => rfl⟩
  · simp only [Value.slice.injEq] at h2
    obtain ⟨rfl, rfl, rfl⟩ := h2
    refine ⟨rfl, ⟨hl, (fun h => by cases h), fun ad had => ?_⟩, fun h => by cases h⟩
    obtain rfl := Option.some.inj had
    refine ⟨rfl, fun j u hu => ?_⟩
    exact World.ownsRow.cells (w := w) (base := base) (e := e) (size := size) (v := .slice (some ⟨g, 0, none⟩) m c) (n := m) (xs := xs) ⟨hl, .inr ⟨g, c, cur, rfl, hb, hg, hnc, hcm, hcs, htake⟩⟩ rfl j u hu

theorem RowR.below {w w' : World} {size : Nat} {ao : Option Addr} {n : Nat} {xs : List Value} (h : RowR w size ao n xs) (hb : Below w.heap.size w w') : RowR w' size ao n xs :=
  ⟨h.len, h.non, fun ad had => ⟨(h.at' ad had).1, fun j u hu => by
    have hc := (h.at' ad had).2 j u hu
    exact (hb.cell (World.block_lt_of_cell? _ _ hc)).trans hc⟩⟩

/-- 'append' of a row that is read from anywhere, nil or not, to one of the call's own. -/
theorem wpList_append_row {P : Program} (w : World) {ops : Array Oper} {rest : List Oper} {o : Oper} {a : Act} {Q : Exit → Act → World → Prop} (hgd : o.guard = none) (s x : Operand) (t : TypeId)
    (ho : o.op = .call { callee := .builtin .append, args := #[s, x], argTypes := #[t, t] })
    (base : Nat) (e : TypeId) (i : TypeInfo) (z : Value) (size bytes : Nat) (ht : P.underlying t = some (.slice e)) (hi : P.info? e = some i) (hz : i.zero = some z)
    (hsize : i.size = size) (hby : i.bytes = bytes) (hzs : z.cells.size = size) (hsz : 0 < size)
    (v : Value) (n : Nat) (xs : List Value) (hs : a.eval s = v) (hown : w.ownsRow base e size v n xs)
    (ao : Option Addr) (m c : Nat) (news : List Value) (hx : a.eval x = .slice ao m c) (hr : RowR w size ao m news) (hc : ao = none → c = 0) (h1 : ∀ u ∈ news, u.oneCell' = true)
    (h63 : n + m ≤ maxLen) (hbytes : (n + m) * bytes ≤ 140737488355328) (hbase : base ≤ w.heap.size)
    (h : ∀ v' w', w'.ownsRow base e size v' (n + m) (xs ++ news) → w.grownBy w' v.ownBlock → wpList P ops Q rest (a.put o.dst v') w') : wpList P ops Q (o :: rest) a w := by
  cases ao with
  | some ad => exact wpList_append_own w hgd s x t ho base e i z size bytes ht hi hz hsize hby hzs hsz v n xs hs hown ad m c news hx hr.len (hr.at' ad rfl).2 h1 h63 hbytes hbase fun v' w' h2 h3 _ => h v' w' h2 h3
  | none =>
    obtain rfl := hr.non rfl
    obtain rfl := hc rfl
    have hn : news = [] := List.eq_nil_of_length_eq_zero (by simpa using hr.len)
    subst hn
    exact wpList_append_own_none hgd s x t ho base e i size ht hi v n xs hs hown hx (h v w (by simpa using hown) (World.grownBy.refl w _))

/-- 'append' to a row that is full (its length is its capacity), of something: a new row. -/
theorem wpList_append_full {P : Program} (w : World) {ops : Array Oper} {rest : List Oper} {o : Oper} {a : Act} {Q : Exit → Act → World → Prop} (hgd : o.guard = none) (s x : Operand) (t : TypeId)
    (ho : o.op = .call { callee := .builtin .append, args := #[s, x], argTypes := #[t, t] })
    (base : Nat) (e : TypeId) (i : TypeInfo) (z : Value) (size bytes : Nat) (ht : P.underlying t = some (.slice e)) (hi : P.info? e = some i) (hz : i.zero = some z)
    (hsize : i.size = size) (hby : i.bytes = bytes) (hzs : z.cells.size = size)
    (b : Addr) (n : Nat) (xs : List Value) (hs : a.eval s = .slice (some b) n n) (hxl : xs.length = n * size) (hxs : ∀ j u, xs[j]? = some u → w.cell? (b.add j) = some u)
    (ad : Addr) (m c : Nat) (news : List Value) (hx : a.eval x = .slice (some ad) m c) (hl : news.length = m * size) (hnews : ∀ j u, news[j]? = some u → w.cell? (ad.add j) = some u) (hm : 0 < m)
    (h63 : n + m ≤ maxLen) (hbytes : (n + m) * bytes ≤ 140737488355328) (hbase : base ≤ w.heap.size)
    (h : ∀ v' w', w'.ownsRow base e size v' (n + m) (xs ++ news) → w.grownBy w' none → (∃ cap, v' = .slice (some ⟨w.heap.size, 0, none⟩) (n + m) cap) → wpList P ops Q rest (a.put o.dst v') w') : wpList P ops Q (o :: rest) a w := by
  subst hsize
  subst hby
  refine wpList_plain hgd fun K hK => ?_
  have hr := run_append_grow (P := P) w t o.type e i z ht hi hz b n n xs hxl hxs ad m c news hl hnews (by omega) (by simp only [maxLen] at h63; omega) (growslice_fits (by omega) hbytes)
  have hge := grownCap_ge w (n + m) n e
  have hcm : grownCap w (n + m) n e ≤ maxLen := grownCap_le_maxLen w (n + m) n e h63
  have hlen : (xs ++ news).length = (n + m) * i.size := by rw [List.length_append, hxl, hl, Nat.add_mul]
  unfold Oper.wp execOp
  simp only [ho, resolve, invoke, builtin, Sem.run_bind, Sem.run_pure, Result.andThen_ok, List.map_toArray, List.map_cons, List.map_nil, hs, hx, hr]
  refine hK _ _ (h _ _ ⟨hlen, .inr ⟨w.heap.size, _, _, rfl, hbase, heap_alloc_new w.drew _, hge, hcm, ?_, ?_⟩⟩ ⟨rfl, rfl, rfl, by simp, fun k hk _ => Below.heap_alloc w.drew _ k hk⟩ ⟨_, rfl⟩)
  · simp only [Array.size_append, List.size_toArray, size_zeroCells, hzs, hxl, hl, ← Nat.add_mul]
    congr 1
    omega
  · simp only [Array.toList_append, List.append_assoc]
    rw [← List.append_assoc, ← hlen]
    exact List.take_left

/-- Two rows of different kinds lie in different blocks. -/
theorem own_apart {w : World} {b1 b2 : Nat} {e1 e2 : TypeId} {z1 z2 n1 n2 : Nat} {v1 v2 : Value} {x1 x2 : List Value} (h1 : w.ownsRow b1 e1 z1 v1 n1 x1) (h2 : w.ownsRow b2 e2 z2 v2 n2 x2) (he : e1 ≠ e2) : v1.ownBlock = none ∨ v1.ownBlock ≠ v2.ownBlock := by
  rcases h1.2 with ⟨rfl, _⟩ | ⟨g, cap, cur, rfl, _, hg, _⟩
  · exact Or.inl rfl
  · refine Or.inr fun h => ?_
    rcases h2.2 with ⟨rfl, _⟩ | ⟨g', cap', cur', rfl, _, hg', _⟩
    · simp [Value.ownBlock] at h
    · simp [Value.ownBlock] at h
      subst h
      rw [hg] at hg'
      simp at hg'
      exact he hg'.2

/-- A shorter row of the same block. -/
theorem own_take {w : World} {base : Nat} {e : TypeId} {size : Nat} {v : Value} {n : Nat} {xs : List Value} (h : w.ownsRow base e size v n xs) (k : Nat) (hk : k ≤ n) :
    ∀ ao m c, v = .slice ao m c → w.ownsRow base e size (.slice ao k c) k (xs.take (k * size)) := by
  rintro ao m c rfl
  obtain ⟨hl, h2⟩ := h
  have hle : k * size ≤ n * size := Nat.mul_le_mul_right _ hk
  refine ⟨by rw [List.length_take, hl]; omega, ?_⟩
  rcases h2 with ⟨h2, h3⟩ | ⟨g, cap, cur, h2, hb, hg, hnc, hcm, hcs, htake⟩
  · simp only [Value.slice.injEq] at h2
    obtain ⟨rfl, rfl, rfl⟩ := h2
    obtain rfl : k = 0 := by omega
    exact .inl ⟨rfl, rfl⟩
  · simp only [Value.slice.injEq] at h2
    obtain ⟨rfl, rfl, rfl⟩ := h2
    refine .inr ⟨g, c, cur, rfl, hb, hg, by omega, hcm, hcs, ?_⟩
    rw [← htake, List.take_take, Nat.min_eq_left hle]

/-- What is owned from a block on is owned from an earlier one on. -/
theorem own_mono {w : World} {base base' : Nat} {e : TypeId} {size : Nat} {v : Value} {n : Nat} {xs : List Value} (h : w.ownsRow base e size v n xs) (hb : base' ≤ base) : w.ownsRow base' e size v n xs := by
  refine ⟨h.1, ?_⟩
  rcases h.2 with h2 | ⟨g, cap, cur, hv, hg, r⟩
  · exact .inl h2
  · exact .inr ⟨g, cap, cur, hv, by omega, r⟩

/-- A row's value is a slice. -/
theorem own_slice {w : World} {base : Nat} {e : TypeId} {size : Nat} {v : Value} {n : Nat} {xs : List Value} (h : w.ownsRow base e size v n xs) : ∃ ao c, v = .slice ao n c ∧ RowR w size ao n xs ∧ (ao = none → c = 0) ∧ n ≤ c := by
  have h' := h
  rcases h.2 with ⟨rfl, rfl⟩ | ⟨g, cap, cur, rfl, hb, hg, hnc, _⟩
  · exact ⟨none, 0, rfl, (own_rowR h').2.1, fun _ => rfl, Nat.le_refl _⟩
  · exact ⟨some ⟨g, 0, none⟩, cap, rfl, (own_rowR h').2.1, (fun h => by cases h), hnc⟩

/-- Cells of a list of things, each of which has as many. -/
theorem flat_at {α : Type} (f : α → List Value) (k : Nat) (hf : ∀ x, (f x).length = k) : ∀ (l : List α) (i j : Nat) (x : α), l[i]? = some x → j < k → (l.flatMap f)[i * k + j]? = (f x)[j]?
  | [], i, j, x, h, _ => by simp at h
  | y :: l, 0, j, x, h, hj => by
    simp at h; subst h
    rw [List.flatMap_cons, List.getElem?_append_left (by rw [hf]; omega)]
    congr 1; omega
  | y :: l, i + 1, j, x, h, hj => by
    rw [List.flatMap_cons, List.getElem?_append_right (by rw [hf, Nat.add_mul]; omega), ← flat_at f k hf l i j x (by simpa using h) hj]
    congr 1
    rw [hf, Nat.add_mul]; omega
theorem flat_len {α : Type} (f : α → List Value) (k : Nat) (hf : ∀ x, (f x).length = k) : ∀ (l : List α), (l.flatMap f).length = l.length * k
  | [] => by simp
  | y :: l => by rw [List.flatMap_cons, List.length_append, hf, flat_len f k hf l, List.length_cons, Nat.add_mul]; omega
theorem flat_take {α : Type} (f : α → List Value) (k : Nat) (hf : ∀ x, (f x).length = k) : ∀ (l : List α) (n : Nat), (l.flatMap f).take (n * k) = (l.take n).flatMap f
  | [], n => by simp
  | y :: l, 0 => by simp
  | y :: l, n + 1 => by
    rw [List.take_succ_cons, List.flatMap_cons, List.flatMap_cons, ← flat_take f k hf l n, List.take_append, List.take_of_length_le (by rw [hf, Nat.add_mul]; omega)]
    congr 2
    rw [hf, Nat.add_mul]; omega
theorem flat_drop {α : Type} (f : α → List Value) (k : Nat) (hf : ∀ x, (f x).length = k) : ∀ (l : List α) (n : Nat), (l.flatMap f).drop (n * k) = (l.drop n).flatMap f
  | [], n => by simp
  | y :: l, 0 => by simp
  | y :: l, n + 1 => by
    rw [List.drop_succ_cons, List.flatMap_cons, ← flat_drop f k hf l n, List.drop_append, List.drop_of_length_le (by rw [hf, Nat.add_mul]; omega)]
    rw [List.nil_append, hf, Nat.add_mul]
    congr 1; omega

/-- The cells of one thing in a row that is read from anywhere. -/
theorem RowR.cell {α : Type} {w : World} {f : α → List Value} {k : Nat} {b o : Nat} {n : Nat} {l : List α} (h : RowR w k (some ⟨b, o, none⟩) n (l.flatMap f)) (hf : ∀ x, (f x).length = k) (i j : Nat) (x : α) (u : Value) (hi : l[i]? = some x) (hj : j < k) (hu : (f x)[j]? = some u) : w.cell? ⟨b, o + (i * k + j), none⟩ = some u := by
  have hc := (h.at' _ rfl).2 (i * k + j) u (by rw [flat_at f k hf l i j x hi hj, hu])
  rwa [add_at _ rfl] at hc

/-- The address of a row that is not empty. -/
theorem RowR.addr {w : World} {size n : Nat} {ao : Option Addr} {xs : List Value} (h : RowR w size ao n xs) (hn : 0 < n) : ∃ g o, ao = some ⟨g, o, none⟩ := by
  cases ao with
  | none => have := h.non rfl; omega
  | some ad =>
    obtain ⟨g, o, sp⟩ := ad
    obtain rfl : sp = none := (h.at' _ rfl).1
    exact ⟨g, o, rfl⟩

/-- A store into a block of another kind leaves a row as it is. -/
theorem own_setCell {w : World} {base : Nat} {e e' : TypeId} {size : Nat} {v : Value} {n : Nat} {xs : List Value} (h : w.ownsRow base e size v n xs) {a : Addr} {cs : Array Value} {fr : Nat × Nat} (hg : w.heap[a.block]? = some (.cells cs e' fr)) (he : e ≠ e') (u : Value) : (w.setCell a u).ownsRow base e size v n xs := by
  obtain ⟨h1, h2⟩ := h
  refine ⟨h1, ?_⟩
  rcases h2 with h2 | ⟨g, cap, cur, hv, hb, hh, r⟩
  · exact Or.inl h2
  · refine Or.inr ⟨g, cap, cur, hv, hb, ?_, r⟩
    rw [Below.heap_setCell _ _ _ _ (fun e0 => by subst e0; rw [hh] at hg; simp at hg; exact he hg.2.1), hh]

end Go.Proofs.YtnlmfoccdmkncaaGreatDoor

/-
  define.Line: the walk.
-/
namespace Go.Proofs.YtnlmfoccdmkncaaGreatDoor
open Go.RowKit
set_option maxRecDepth 100000
set_option linter.unusedVariables false
set_option linter.unusedSimpArgs false

theorem ret_line {p : DefL × Bool} {n u t x : ByteArray} {nt b : Bool} (h : p = (⟨n.data.toList, u.data.toList, t.data.toList, x.data.toList, nt⟩, b)) : Ending.returned (.tuple #[.agg #[.string n, .string u, .string t, .string x, .bool nt], .bool b]) = .returned (.tuple #[p.1.val, .bool p.2]) := by
  rw [h]; unfold DefL.val defV; simp only [Lib.mk_data]

set_option maxHeartbeats 4000000 in
/-- No bracket at the head, or no bracket and colon behind: no definition. -/
theorem line_none (s : ByteArray) (w : World) (hE : Env w) (hs : s.size ≤ 1000000000) (hno : (preAt 91 s.data.toList).2 = false) :
    Calls Tryz.prog 8 #[.string s] w fun e w' => e = .returned (.tuple #[(lineL s.data.toList).1.val, .bool (lineL s.data.toList).2]) ∧ Below w.heap.size w w' := by
  have HL := Lib.hid (show lineL s.data.toList = (DefL.none, false) by unfold lineL; rw [if_pos hno])
  have hp := fun W => pre_any 91 s W
  rw [hno] at hp
  obtain ⟨C, hC⟩ : ∃ C : ByteArray, C = ⟨(preAt 91 s.data.toList).1.toArray⟩ := ⟨_, rfl⟩
  rw [← hC] at hp
  have HP := Lib.hid hp
  clear hp hC hno
  have hb1 : Below w.heap.size w (w.alloc (.cells #[.string ⟨#[]⟩, .string ⟨#[]⟩, .string ⟨#[]⟩, .string ⟨#[]⟩, .bool false] 26)) := (Below.refl _ w).alloc (Nat.le_refl _) _
  go_enter Tryz.func8, Tryz.ntmps8
  go_wp2_with fail
  have hz := zero_def (Below.refl (w.heap.size + 1) (w.alloc (.cells #[.string ⟨#[]⟩, .string ⟨#[]⟩, .string ⟨#[]⟩, .string ⟨#[]⟩, .bool false] 26))) rfl
  obtain ⟨W1, hW1⟩ : ∃ W1, w.alloc (.cells #[.string ⟨#[]⟩, .string ⟨#[]⟩, .string ⟨#[]⟩, .string ⟨#[]⟩, .bool false] 26) = W1 := ⟨_, rfl⟩
  rw [hW1] at hz hb1
  rw [hW1]
  clear hW1
  obtain ⟨c0, c1, c2, c3, c4, f0, f1, f2, f3, f4, hsz⟩ := hz
  refine (HP.out _).mono ?_
  rintro e w2 ⟨rfl, rfl⟩
  go_wp2_with fail
  refine bodyPost_ret (v := .tuple #[.agg #[.string ⟨#[]⟩, .string ⟨#[]⟩, .string ⟨#[]⟩, .string ⟨#[]⟩, .bool false], .bool false]) (by simp [results, Tryz.results8, go_sem, c0, c1, c2, c3, c4, f0, f1, f2, f3, f4]) rfl ⟨?_, below_def hb1⟩
  exact ret_line (n := ⟨#[]⟩) (u := ⟨#[]⟩) (t := ⟨#[]⟩) (x := ⟨#[]⟩) HL.out

def zeroDef : Value := .agg #[.string ⟨#[]⟩, .string ⟨#[]⟩, .string ⟨#[]⟩, .string ⟨#[]⟩, .bool false]

set_option maxHeartbeats 4000000 in
/-- A bracket at the head, but no bracket and colon behind: no definition. -/
theorem line_none2 (s C N R R2 : ByteArray) (is colon : Bool) (w : World) (hE : Env w) (hs : s.size ≤ 1000000000)
    (h1 : preAt 91 s.data.toList = (C.data.toList, true)) (hCz : C.size ≤ s.size) (h2 : cutAt 93 C.data.toList = (N.data.toList, R.data.toList, is))
    (h3 : preAt 58 R.data.toList = (R2.data.toList, colon)) (h4 : is = false ∨ (is = true ∧ colon = false)) :
    Calls Tryz.prog 8 #[.string s] w fun e w' => e = .returned (.tuple #[(lineL s.data.toList).1.val, .bool (lineL s.data.toList).2]) ∧ Below w.heap.size w w' := by
  have HL := Lib.hid (show lineL s.data.toList = (DefL.none, false) by
    unfold lineL
    rw [h1]; simp only
    rw [h2]; simp only
    rw [h3]; simp only
    rw [if_neg (by simp), if_neg (by rcases h4 with h | ⟨_, h⟩ <;> simp [h])])
  have hp := fun W => pre_any 91 s W
  rw [h1] at hp
  have hq := fun W hW => cut_any 93 C W hW (by omega)
  rw [h2] at hq
  have hr := fun W => pre_any 58 R W
  rw [h3] at hr
  simp only [Lib.mk_data] at hp hq hr
  have HE := Lib.hid hE
  have HP := Lib.hid hp
  have HQ := Lib.hid hq
  have HR := Lib.hid hr
  clear hp hq hr h1 h2 h3 hE
  have hb1 : Below w.heap.size w (w.alloc (.cells #[.string ⟨#[]⟩, .string ⟨#[]⟩, .string ⟨#[]⟩, .string ⟨#[]⟩, .bool false] 26)) := (Below.refl _ w).alloc (Nat.le_refl _) _
  rcases h4 with rfl | ⟨rfl, rfl⟩
  all_goals
    go_enter Tryz.func8, Tryz.ntmps8
    go_wp2_with fail
    refine (HP.out _).mono ?_
    rintro e w2 ⟨rfl, rfl⟩
    go_wp2_with fail
    refine (HQ.out _ (HE.out.below hb1)).mono ?_
    rintro e w3 ⟨rfl, b3⟩
    obtain ⟨c0, c1, c2, c3, c4, f0, f1, f2, f3, f4, hsz⟩ := zero_def b3
    have hb3 := below_step hb1 b3
    clear hb1 b3
    go_wp2_with fail
    refine (HR.out _).mono ?_
    rintro e w4 ⟨rfl, rfl⟩
    go_wp2_with fail
    refine bodyPost_ret (v := .tuple #[.agg #[.string ⟨#[]⟩, .string ⟨#[]⟩, .string ⟨#[]⟩, .string ⟨#[]⟩, .bool false], .bool false]) (by simp [results, Tryz.results8, go_sem, c0, c1, c2, c3, c4, f0, f1, f2, f3, f4]) rfl ⟨?_, below_def hb3⟩
    exact ret_line (n := ⟨#[]⟩) (u := ⟨#[]⟩) (t := ⟨#[]⟩) (x := ⟨#[]⟩) HL.out

end Go.Proofs.YtnlmfoccdmkncaaGreatDoor

/-
  Five stores into one block: what the world then holds.
-/
namespace Go.Proofs.YtnlmfoccdmkncaaGreatDoor
open Go.RowKit
set_option linter.unusedVariables false
set_option linter.unusedSimpArgs false

/-- The five cells of a definition at a block, and that it may be written. -/
def DefAt (w : World) (k : Nat) (u0 u1 u2 u3 u4 : Value) : Prop :=
  w.cell? ⟨k, 0, none⟩ = some u0 ∧ w.cell? ⟨k, 1, none⟩ = some u1 ∧ w.cell? ⟨k, 2, none⟩ = some u2 ∧ w.cell? ⟨k, 3, none⟩ = some u3 ∧ w.cell? ⟨k, 4, none⟩ = some u4 ∧
    w.frozen? ⟨k, 0, none⟩ = false ∧ w.frozen? ⟨k, 1, none⟩ = false ∧ w.frozen? ⟨k, 2, none⟩ = false ∧ w.frozen? ⟨k, 3, none⟩ = false ∧ w.frozen? ⟨k, 4, none⟩ = false

theorem DefAt.below {w w' : World} {k n : Nat} {u0 u1 u2 u3 u4 : Value} (h : DefAt w k u0 u1 u2 u3 u4) (hb : Below n w w') (hk : k < n) : DefAt w' k u0 u1 u2 u3 u4 := by
  obtain ⟨c0, c1, c2, c3, c4, f0, f1, f2, f3, f4⟩ := h
  exact ⟨(hb.cell (p := ⟨k, 0, none⟩) hk).trans c0, (hb.cell (p := ⟨k, 1, none⟩) hk).trans c1, (hb.cell (p := ⟨k, 2, none⟩) hk).trans c2, (hb.cell (p := ⟨k, 3, none⟩) hk).trans c3, (hb.cell (p := ⟨k, 4, none⟩) hk).trans c4,
    (hb.frozen (p := ⟨k, 0, none⟩) hk).trans f0, (hb.frozen (p := ⟨k, 1, none⟩) hk).trans f1, (hb.frozen (p := ⟨k, 2, none⟩) hk).trans f2, (hb.frozen (p := ⟨k, 3, none⟩) hk).trans f3, (hb.frozen (p := ⟨k, 4, none⟩) hk).trans f4⟩

/-- The world after the five stores. -/
def World.setDef (w : World) (k : Nat) (u0 u1 u2 u3 u4 : Value) : World := ((((w.setCell ⟨k, 0, none⟩ u0).setCell ⟨k, 1, none⟩ u1).setCell ⟨k, 2, none⟩ u2).setCell ⟨k, 3, none⟩ u3).setCell ⟨k, 4, none⟩ u4

theorem setDef_at {w : World} {k : Nat} {v0 v1 v2 v3 v4 : Value} (h : DefAt w k v0 v1 v2 v3 v4) (u0 u1 u2 u3 u4 : Value) : DefAt (World.setDef w k u0 u1 u2 u3 u4) k u0 u1 u2 u3 u4 := by
  obtain ⟨c0, c1, c2, c3, c4, f0, f1, f2, f3, f4⟩ := h
  unfold World.setDef DefAt
  simp [go_sem, c0, c1, c2, c3, c4, f0, f1, f2, f3, f4]

theorem setDef_below (w : World) (k : Nat) (u0 u1 u2 u3 u4 : Value) : Below k w (World.setDef w k u0 u1 u2 u3 u4) := by
  unfold World.setDef
  have h0 : k ≤ k := Nat.le_refl k
  have b1 : Below k w (w.setCell ⟨k, 0, none⟩ u0) := (Below.refl k w).setCell h0 u0
  have b2 := b1.setCell (p := ⟨k, 1, none⟩) h0 u1
  have b3 := b2.setCell (p := ⟨k, 2, none⟩) h0 u2
  have b4 := b3.setCell (p := ⟨k, 3, none⟩) h0 u3
  exact b4.setCell (p := ⟨k, 4, none⟩) h0 u4

theorem setDef_other {w : World} {k j : Nat} {v0 v1 v2 v3 v4 : Value} (h : DefAt w j v0 v1 v2 v3 v4) (hk : j < k) (u0 u1 u2 u3 u4 : Value) : DefAt (World.setDef w k u0 u1 u2 u3 u4) j v0 v1 v2 v3 v4 :=
  h.below (setDef_below w k u0 u1 u2 u3 u4) hk

end Go.Proofs.YtnlmfoccdmkncaaGreatDoor

/-
  define.Line: its ways with a definition; the whole contract.
-/
namespace Go.Proofs.YtnlmfoccdmkncaaGreatDoor
open Go.RowKit
set_option maxRecDepth 100000
set_option linter.unusedVariables false
set_option linter.unusedSimpArgs false


theorem setDef_size (w : World) (k : Nat) (u0 u1 u2 u3 u4 : Value) : (World.setDef w k u0 u1 u2 u3 u4).heap.size = w.heap.size := by
  unfold World.setDef
  simp only [World.size_setCell]

theorem zeroAt (w : World) : DefAt (w.alloc (.cells #[.string ⟨#[]⟩, .string ⟨#[]⟩, .string ⟨#[]⟩, .string ⟨#[]⟩, .bool false] 26)) w.heap.size (.string ⟨#[]⟩) (.string ⟨#[]⟩) (.string ⟨#[]⟩) (.string ⟨#[]⟩) (.bool false) := by
  unfold DefAt; simp

theorem setDef_belowAt {w W : World} {n k : Nat} (h : Below n w W) (hk : n ≤ k) (u0 u1 u2 u3 u4 : Value) : Below n w (World.setDef W k u0 u1 u2 u3 u4) :=
  h.trans ((setDef_below W k u0 u1 u2 u3 u4).mono hk)

set_option maxHeartbeats 4000000 in
theorem line_note (s C N X R R2 R3 T F : ByteArray) (may : Bool) (w : World) (hE : Env w) (hs : s.size ≤ 1000000000)
    (h1 : preAt 91 s.data.toList = (C.data.toList, true)) (hCz : C.size ≤ s.size) (h2 : cutAt 93 C.data.toList = (N.data.toList, R.data.toList, true))
    (h3 : preAt 58 R.data.toList = (R2.data.toList, true)) (g : Bool) (h4 : behindL R2.data.toList = (R3.data.toList, g)) (h5 : preAt 94 N.data.toList = (X.data.toList, true))
    (hXz : X.size ≤ s.size) (hRz : R3.size ≤ s.size) (h6 : plainL R3.data.toList = T.data.toList) (h7 : nameL X.data.toList = (F.data.toList, may)) :
    Calls Tryz.prog 8 #[.string s] w fun e w' => e = .returned (.tuple #[(lineL s.data.toList).1.val, .bool (lineL s.data.toList).2]) ∧ Below w.heap.size w w' := by
  have HL := Lib.hid (show lineL s.data.toList = if T.data.toList ≠ [] ∧ may = true then (⟨F.data.toList, [], [], T.data.toList, true⟩, true) else (DefL.none, false) by
    unfold lineL
    rw [h1]; simp only
    rw [h2]; simp only
    rw [h3]; simp only
    rw [if_neg (by simp), if_pos (by simp)]
    rw [h4]; simp only
    unfold lineOf
    rw [h5]; simp only
    rw [h6, h7]; simp only
    rw [if_pos trivial])
  have hp := fun W => pre_any 91 s W
  rw [h1] at hp
  have hq := fun W hW => cut_any 93 C W hW (by omega)
  rw [h2] at hq
  have hr := fun W => pre_any 58 R W
  rw [h3] at hr
  have hb := fun W => behind_any R2 W
  rw [h4] at hb
  have hc := fun W => pre_any 94 N W
  rw [h5] at hc
  have ht := fun W => plain_any R3 W (by omega)
  rw [h6] at ht
  have hn := fun W hW => name_any X W hW (by omega)
  rw [h7] at hn
  simp only [Lib.mk_data] at hp hq hr hb hc ht hn
  have HE := Lib.hid hE
  have HP := Lib.hid hp
  have HQ := Lib.hid hq
  have HR := Lib.hid hr
  have HB := Lib.hid hb
  have HC := Lib.hid hc
  have HT := Lib.hid ht
  have HN := Lib.hid hn
  clear hp hq hr hb hc ht hn h1 h2 h3 h4 h5 h6 h7 hE
  have hb1 : Below w.heap.size w (w.alloc (.cells #[.string ⟨#[]⟩, .string ⟨#[]⟩, .string ⟨#[]⟩, .string ⟨#[]⟩, .bool false] 26)) := (Below.refl _ w).alloc (Nat.le_refl _) _
  have hz0 := zeroAt w
  go_enter Tryz.func8, Tryz.ntmps8
  go_wp2_with fail
  obtain ⟨W1, hW1⟩ : ∃ W1, w.alloc (.cells #[.string ⟨#[]⟩, .string ⟨#[]⟩, .string ⟨#[]⟩, .string ⟨#[]⟩, .bool false] 26) = W1 := ⟨_, rfl⟩
  have hsz1 : w.heap.size < W1.heap.size := by rw [← hW1, World.size_alloc]; omega
  rw [hW1] at hz0 hb1 ⊢
  clear hW1
  refine (HP.out _).mono ?_
  rintro e _ ⟨rfl, rfl⟩
  go_wp2_with fail
  refine (HQ.out _ (HE.out.below hb1)).mono ?_
  rintro e w3 ⟨rfl, b3⟩
  have hz3 := hz0.below b3 hsz1
  have hsz3 : w.heap.size < w3.heap.size := by have := b3.size; omega
  have hb3 := below_step hb1 b3
  clear hb1 b3 hz0 hsz1
  go_wp2_with fail
  refine (HR.out _).mono ?_
  rintro e _ ⟨rfl, rfl⟩
  go_wp2_with fail
  refine (HB.out _).mono ?_
  rintro e w4 ⟨rfl, b4⟩
  have hz4 := hz3.below b4 hsz3
  have hsz4 : w.heap.size < w4.heap.size := by have := b4.size; omega
  have hb4 := below_step hb3 b4
  clear hb3 b4 hz3 hsz3
  go_wp2_with fail
  have hd5 := zeroAt w4
  have hz5 := hz4.below ((Below.refl w4.heap.size w4).alloc (Nat.le_refl _) (.cells #[.string ⟨#[]⟩, .string ⟨#[]⟩, .string ⟨#[]⟩, .string ⟨#[]⟩, .bool false] 26)) hsz4
  have hb5 := hb4.alloc hb4.size (.cells #[.string ⟨#[]⟩, .string ⟨#[]⟩, .string ⟨#[]⟩, .string ⟨#[]⟩, .bool false] 26)
  obtain ⟨W5, hW5⟩ : ∃ W5, w4.alloc (.cells #[.string ⟨#[]⟩, .string ⟨#[]⟩, .string ⟨#[]⟩, .string ⟨#[]⟩, .bool false] 26) = W5 := ⟨_, rfl⟩
  have hsz5 : w4.heap.size < W5.heap.size := by rw [← hW5, World.size_alloc]; omega
  rw [hW5] at hd5 hz5 hb5 ⊢
  clear hW5 hz4 hb4
  obtain ⟨D, hD⟩ : ∃ D, w4.heap.size = D := ⟨_, rfl⟩
  rw [hD] at hd5 hsz5 hsz4 ⊢
  clear hD
  refine (HC.out _).mono ?_
  rintro e _ ⟨rfl, rfl⟩
  go_wp2_with fail
  refine (HT.out _).mono ?_
  rintro e w6 ⟨rfl, b6⟩
  have hd6 := hd5.below b6 hsz5
  have hz6 := hz5.below b6 (by omega)
  have hsz6 : D < w6.heap.size := by have := b6.size; omega
  have hb6 := below_step hb5 b6
  clear hb5 b6 hd5 hz5 hsz5
  have HZ6 := Lib.hid hz6
  have HD6 := Lib.hid hd6
  obtain ⟨c0, c1, c2, c3, c4, f0, f1, f2, f3, f4⟩ := hd6
  go_wp2_with fail
  clear c0 c1 c2 c3 c4 f0 f1 f2 f3 f4
  obtain ⟨W7, hW7⟩ : ∃ W7, World.setDef w6 D (.string ⟨#[]⟩) (.string ⟨#[]⟩) (.string ⟨#[]⟩) (.string T) (.bool true) = W7 := ⟨_, rfl⟩
  have hd7 := setDef_at HD6.out (.string ⟨#[]⟩) (.string ⟨#[]⟩) (.string ⟨#[]⟩) (.string T) (.bool true)
  have hz7 := setDef_other HZ6.out hsz4 (.string ⟨#[]⟩) (.string ⟨#[]⟩) (.string ⟨#[]⟩) (.string T) (.bool true)
  have hb7 := setDef_belowAt hb6 (Nat.le_of_lt hsz4) (.string ⟨#[]⟩) (.string ⟨#[]⟩) (.string ⟨#[]⟩) (.string T) (.bool true)
  have hsz7 := setDef_size w6 D (.string ⟨#[]⟩) (.string ⟨#[]⟩) (.string ⟨#[]⟩) (.string T) (.bool true)
  rw [hW7] at hd7 hz7 hb7 hsz7
  unfold World.setDef at hW7
  rw [hW7]
  clear hW7 HZ6 HD6 hb6
  refine (HN.out _ (HE.out.below hb7)).mono ?_
  rintro e w8 ⟨rfl, b8⟩
  have hd8 := hd7.below b8 (by omega)
  have hz8 := hz7.below b8 (by omega)
  have hb8 := below_step hb7 b8
  clear hd7 hz7 hb7 b8 hsz7 hsz6
  by_cases hT0 : 0 < T.size
  · have he := empty_no hT0
    have hne : T.data.toList ≠ [] := by intro h; rw [Lib.size_eq, h] at hT0; exact absurd hT0 (by simp)
    have he2 : (!T.toList.isEmpty) = true := by rw [he]; rfl
    cases may
    · have HL2 := Lib.hid (HL.out.trans (if_neg (by simp)))
      clear hne
      clear hd8
      obtain ⟨c0, c1, c2, c3, c4, f0, f1, f2, f3, f4⟩ := hz8
      go_wp2_with fail
      refine bodyPost_ret (v := .tuple #[.agg #[.string ⟨#[]⟩, .string ⟨#[]⟩, .string ⟨#[]⟩, .string ⟨#[]⟩, .bool false], .bool false]) (by simp [results, Tryz.results8, go_sem, c0, c1, c2, c3, c4, f0, f1, f2, f3, f4]) rfl ⟨?_, below_def hb8⟩
      exact ret_line (n := ⟨#[]⟩) (u := ⟨#[]⟩) (t := ⟨#[]⟩) (x := ⟨#[]⟩) HL2.out
    · have HL2 := Lib.hid (HL.out.trans (if_pos ⟨hne, rfl⟩))
      clear hne
      obtain ⟨c0, c1, c2, c3, c4, f0, f1, f2, f3, f4⟩ := hz8
      obtain ⟨d0, d1, d2, d3, d4, g0, g1, g2, g3, g4⟩ := hd8
      have hne1 : w.heap.size ≠ D := by omega
      have hne2 : D ≠ w.heap.size := by omega
      go_wp2_with fail
      refine bodyPost_ret (v := .tuple #[.agg #[.string F, .string ⟨#[]⟩, .string ⟨#[]⟩, .string T, .bool true], .bool true]) (by simp [results, Tryz.results8, go_sem, c0, c1, c2, c3, c4, f0, f1, f2, f3, f4, d0, d1, d2, d3, d4, g0, g1, g2, g3, g4, hne1, hne2]) rfl ⟨?_, ?_⟩
      · exact ret_line (n := F) (u := ⟨#[]⟩) (t := ⟨#[]⟩) (x := T) HL2.out
      · exact below_def (hb8.setCell (p := ⟨D, 0, none⟩) (by simp; omega) _)
  · have he := empty_yes (s := T) (by omega)
    have hnil : T.data.toList = [] := List.eq_nil_of_length_eq_zero (by rw [← Lib.size_eq]; omega)
    have he2 : (!T.toList.isEmpty) = false := by rw [he]; rfl
    have HL2 := Lib.hid (HL.out.trans (if_neg (by simp [hnil])))
    clear hnil
    clear hd8
    obtain ⟨c0, c1, c2, c3, c4, f0, f1, f2, f3, f4⟩ := hz8
    go_wp2_with fail
    refine bodyPost_ret (v := .tuple #[.agg #[.string ⟨#[]⟩, .string ⟨#[]⟩, .string ⟨#[]⟩, .string ⟨#[]⟩, .bool false], .bool false]) (by simp [results, Tryz.results8, go_sem, c0, c1, c2, c3, c4, f0, f1, f2, f3, f4]) rfl ⟨?_, below_def hb8⟩
    exact ret_line (n := ⟨#[]⟩) (u := ⟨#[]⟩) (t := ⟨#[]⟩) (x := ⟨#[]⟩) HL2.out

set_option maxHeartbeats 4000000 in
theorem line_link (s C N R R2 R3 U V F : ByteArray) (is may : Bool) (w : World) (hE : Env w) (hs : s.size ≤ 1000000000)
    (h1 : preAt 91 s.data.toList = (C.data.toList, true)) (hCz : C.size ≤ s.size) (h2 : cutAt 93 C.data.toList = (N.data.toList, R.data.toList, true))
    (h3 : preAt 58 R.data.toList = (R2.data.toList, true)) (g : Bool) (h4 : behindL R2.data.toList = (R3.data.toList, g)) (h5 : preAt 94 N.data.toList = (N.data.toList, false))
    (hNz : N.size ≤ s.size) (hRz : R3.size ≤ s.size) (h6 : linkL R3.data.toList = (U.data.toList, V.data.toList, is)) (h7 : nameL N.data.toList = (F.data.toList, may)) :
    Calls Tryz.prog 8 #[.string s] w fun e w' => e = .returned (.tuple #[(lineL s.data.toList).1.val, .bool (lineL s.data.toList).2]) ∧ Below w.heap.size w w' := by
  have HL := Lib.hid (show lineL s.data.toList = if is = true ∧ may = true then (⟨F.data.toList, U.data.toList, V.data.toList, [], false⟩, true) else (DefL.none, false) by
    unfold lineL
    rw [h1]; simp only
    rw [h2]; simp only
    rw [h3]; simp only
    rw [if_neg (by simp), if_pos (by simp)]
    rw [h4]; simp only
    unfold lineOf
    rw [h5]; simp only
    rw [h6, h7]; simp only
    rw [if_neg (by simp)])
  have hp := fun W => pre_any 91 s W
  rw [h1] at hp
  have hq := fun W hW => cut_any 93 C W hW (by omega)
  rw [h2] at hq
  have hr := fun W => pre_any 58 R W
  rw [h3] at hr
  have hb := fun W => behind_any R2 W
  rw [h4] at hb
  have hc := fun W => pre_any 94 N W
  rw [h5] at hc
  have ht := fun W hW => link_any R3 W hW (by omega)
  rw [h6] at ht
  have hn := fun W hW => name_any N W hW (by omega)
  rw [h7] at hn
  simp only [Lib.mk_data, defV] at hp hq hr hb hc ht hn
  have HE := Lib.hid hE
  have HP := Lib.hid hp
  have HQ := Lib.hid hq
  have HR := Lib.hid hr
  have HB := Lib.hid hb
  have HC := Lib.hid hc
  have HT := Lib.hid ht
  have HN := Lib.hid hn
  clear hp hq hr hb hc ht hn h1 h2 h3 h4 h5 h6 h7 hE
  have hb1 : Below w.heap.size w (w.alloc (.cells #[.string ⟨#[]⟩, .string ⟨#[]⟩, .string ⟨#[]⟩, .string ⟨#[]⟩, .bool false] 26)) := (Below.refl _ w).alloc (Nat.le_refl _) _
  have hz0 := zeroAt w
  go_enter Tryz.func8, Tryz.ntmps8
  go_wp2_with fail
  obtain ⟨W1, hW1⟩ : ∃ W1, w.alloc (.cells #[.string ⟨#[]⟩, .string ⟨#[]⟩, .string ⟨#[]⟩, .string ⟨#[]⟩, .bool false] 26) = W1 := ⟨_, rfl⟩
  have hsz1 : w.heap.size < W1.heap.size := by rw [← hW1, World.size_alloc]; omega
  rw [hW1] at hz0 hb1 ⊢
  clear hW1
  refine (HP.out _).mono ?_
  rintro e _ ⟨rfl, rfl⟩
  go_wp2_with fail
  refine (HQ.out _ (HE.out.below hb1)).mono ?_
  rintro e w3 ⟨rfl, b3⟩
  have hz3 := hz0.below b3 hsz1
  have hsz3 : w.heap.size < w3.heap.size := by have := b3.size; omega
  have hb3 := below_step hb1 b3
  clear hb1 b3 hz0 hsz1
  go_wp2_with fail
  refine (HR.out _).mono ?_
  rintro e _ ⟨rfl, rfl⟩
  go_wp2_with fail
  refine (HB.out _).mono ?_
  rintro e w4 ⟨rfl, b4⟩
  have hz4 := hz3.below b4 hsz3
  have hsz4 : w.heap.size < w4.heap.size := by have := b4.size; omega
  have hb4 := below_step hb3 b4
  clear hb3 b4 hz3 hsz3
  go_wp2_with fail
  have hd5 := zeroAt w4
  have hz5 := hz4.below ((Below.refl w4.heap.size w4).alloc (Nat.le_refl _) (.cells #[.string ⟨#[]⟩, .string ⟨#[]⟩, .string ⟨#[]⟩, .string ⟨#[]⟩, .bool false] 26)) hsz4
  have hb5 := hb4.alloc hb4.size (.cells #[.string ⟨#[]⟩, .string ⟨#[]⟩, .string ⟨#[]⟩, .string ⟨#[]⟩, .bool false] 26)
  obtain ⟨W5, hW5⟩ : ∃ W5, w4.alloc (.cells #[.string ⟨#[]⟩, .string ⟨#[]⟩, .string ⟨#[]⟩, .string ⟨#[]⟩, .bool false] 26) = W5 := ⟨_, rfl⟩
  have hsz5 : w4.heap.size < W5.heap.size := by rw [← hW5, World.size_alloc]; omega
  rw [hW5] at hd5 hz5 hb5 ⊢
  clear hW5 hz4 hb4
  obtain ⟨D, hD⟩ : ∃ D, w4.heap.size = D := ⟨_, rfl⟩
  rw [hD] at hd5 hsz5 hsz4 ⊢
  clear hD
  refine (HC.out _).mono ?_
  rintro e _ ⟨rfl, rfl⟩
  go_wp2_with fail
  refine (HT.out _ (HE.out.below hb5)).mono ?_
  rintro e w6 ⟨rfl, b6⟩
  have hd6 := hd5.below b6 hsz5
  have hz6 := hz5.below b6 (by omega)
  have hsz6 : D < w6.heap.size := by have := b6.size; omega
  have hb6 := below_step hb5 b6
  clear hb5 b6 hd5 hz5 hsz5
  have HZ6 := Lib.hid hz6
  have HD6 := Lib.hid hd6
  obtain ⟨c0, c1, c2, c3, c4, f0, f1, f2, f3, f4⟩ := hd6
  go_wp2_with fail
  clear c0 c1 c2 c3 c4 f0 f1 f2 f3 f4
  obtain ⟨W7, hW7⟩ : ∃ W7, World.setDef w6 D (.string ⟨#[]⟩) (.string U) (.string V) (.string ⟨#[]⟩) (.bool false) = W7 := ⟨_, rfl⟩
  have hd7 := setDef_at HD6.out (.string ⟨#[]⟩) (.string U) (.string V) (.string ⟨#[]⟩) (.bool false)
  have hz7 := setDef_other HZ6.out hsz4 (.string ⟨#[]⟩) (.string U) (.string V) (.string ⟨#[]⟩) (.bool false)
  have hb7 := setDef_belowAt hb6 (Nat.le_of_lt hsz4) (.string ⟨#[]⟩) (.string U) (.string V) (.string ⟨#[]⟩) (.bool false)
  have hsz7 := setDef_size w6 D (.string ⟨#[]⟩) (.string U) (.string V) (.string ⟨#[]⟩) (.bool false)
  rw [hW7] at hd7 hz7 hb7 hsz7
  unfold World.setDef at hW7
  rw [hW7]
  clear hW7 HZ6 HD6 hb6
  refine (HN.out _ (HE.out.below hb7)).mono ?_
  rintro e w8 ⟨rfl, b8⟩
  have hd8 := hd7.below b8 (by omega)
  have hz8 := hz7.below b8 (by omega)
  have hb8 := below_step hb7 b8
  clear hd7 hz7 hb7 b8 hsz7 hsz6
  cases is
  · have HL2 := Lib.hid (HL.out.trans (if_neg (by simp)))
    clear hd8
    obtain ⟨c0, c1, c2, c3, c4, f0, f1, f2, f3, f4⟩ := hz8
    go_wp2_with fail
    refine bodyPost_ret (v := .tuple #[.agg #[.string ⟨#[]⟩, .string ⟨#[]⟩, .string ⟨#[]⟩, .string ⟨#[]⟩, .bool false], .bool false]) (by simp [results, Tryz.results8, go_sem, c0, c1, c2, c3, c4, f0, f1, f2, f3, f4]) rfl ⟨?_, below_def hb8⟩
    exact ret_line (n := ⟨#[]⟩) (u := ⟨#[]⟩) (t := ⟨#[]⟩) (x := ⟨#[]⟩) HL2.out
  · cases may
    · have HL2 := Lib.hid (HL.out.trans (if_neg (by simp)))
      clear hd8
      obtain ⟨c0, c1, c2, c3, c4, f0, f1, f2, f3, f4⟩ := hz8
      go_wp2_with fail
      refine bodyPost_ret (v := .tuple #[.agg #[.string ⟨#[]⟩, .string ⟨#[]⟩, .string ⟨#[]⟩, .string ⟨#[]⟩, .bool false], .bool false]) (by simp [results, Tryz.results8, go_sem, c0, c1, c2, c3, c4, f0, f1, f2, f3, f4]) rfl ⟨?_, below_def hb8⟩
      exact ret_line (n := ⟨#[]⟩) (u := ⟨#[]⟩) (t := ⟨#[]⟩) (x := ⟨#[]⟩) HL2.out
    · have HL2 := Lib.hid (HL.out.trans (if_pos ⟨rfl, rfl⟩))
      obtain ⟨c0, c1, c2, c3, c4, f0, f1, f2, f3, f4⟩ := hz8
      obtain ⟨d0, d1, d2, d3, d4, g0, g1, g2, g3, g4⟩ := hd8
      have hne1 : w.heap.size ≠ D := by omega
      have hne2 : D ≠ w.heap.size := by omega
      go_wp2_with fail
      refine bodyPost_ret (v := .tuple #[.agg #[.string F, .string U, .string V, .string ⟨#[]⟩, .bool false], .bool true]) (by simp [results, Tryz.results8, go_sem, c0, c1, c2, c3, c4, f0, f1, f2, f3, f4, d0, d1, d2, d3, d4, g0, g1, g2, g3, g4, hne1, hne2]) rfl ⟨?_, ?_⟩
      · exact ret_line (n := F) (u := U) (t := V) (x := ⟨#[]⟩) HL2.out
      · exact below_def (hb8.setCell (p := ⟨D, 0, none⟩) (by simp; omega) _)

theorem cut_len (c : UInt8) (l : List UInt8) : (cutAt c l).1.length ≤ l.length ∧ (cutAt c l).2.1.length ≤ l.length := by
  unfold cutAt Lib.cut
  split
  · simp only [List.length_take, List.length_drop]; omega
  · simp
theorem preAt_len (c : UInt8) (l : List UInt8) : (preAt c l).1.length ≤ l.length := by
  unfold preAt Lib.trimPrefix
  simp only
  split <;> simp

theorem ba_at (l : List UInt8) : ∃ X : ByteArray, X.data.toList = l ∧ X.size = l.length := ⟨⟨l.toArray⟩, rfl, by rw [Lib.size_eq]⟩

theorem preAt_false {c : UInt8} {l : List UInt8} (h : (preAt c l).2 = false) : (preAt c l).1 = l := by
  unfold preAt at h ⊢
  simp only at h ⊢
  unfold Lib.trimPrefix
  rw [h, if_neg (by simp)]

/-- THE DEFINITION THAT A LINE IS. -/
theorem line_any (s : ByteArray) (w : World) (hE : Env w) (hs : s.size ≤ 1000000000) :
    Calls Tryz.prog 8 #[.string s] w fun e w' => e = .returned (.tuple #[(lineL s.data.toList).1.val, .bool (lineL s.data.toList).2]) ∧ Below w.heap.size w w' := by
  cases hb : (preAt 91 s.data.toList).2 with
  | false => exact line_none s w hE hs hb
  | true =>
    obtain ⟨C, hC, hCz⟩ := ba_at (preAt 91 s.data.toList).1
    have hCl := preAt_len 91 s.data.toList
    rw [← hCz, ← Lib.size_eq] at hCl
    obtain ⟨N, hN, hNz⟩ := ba_at (cutAt 93 C.data.toList).1
    obtain ⟨R, hR, hRz⟩ := ba_at (cutAt 93 C.data.toList).2.1
    have hcl := cut_len 93 C.data.toList
    rw [← hNz, ← hRz, ← Lib.size_eq] at hcl
    obtain ⟨R2, hR2, hR2z⟩ := ba_at (preAt 58 R.data.toList).1
    have hR2l := preAt_len 58 R.data.toList
    rw [← hR2z, ← Lib.size_eq] at hR2l
    have e1 : preAt 91 s.data.toList = (C.data.toList, true) := by rw [hC, ← hb]
    have e2 : cutAt 93 C.data.toList = (N.data.toList, R.data.toList, (cutAt 93 C.data.toList).2.2) := by rw [hN, hR]
    have e3 : preAt 58 R.data.toList = (R2.data.toList, (preAt 58 R.data.toList).2) := by rw [hR2]
    cases h2 : (cutAt 93 C.data.toList).2.2 with
    | false => exact line_none2 s C N R R2 false _ w hE hs e1 hCl (by rw [← h2]; exact e2) e3 (Or.inl rfl)
    | true =>
      cases h3 : (preAt 58 R.data.toList).2 with
      | false => exact line_none2 s C N R R2 true false w hE hs e1 hCl (by rw [← h2]; exact e2) (by rw [← h3]; exact e3) (Or.inr ⟨rfl, rfl⟩)
      | true =>
        rw [h2] at e2
        rw [h3] at e3
        obtain ⟨R3, hR3, hR3z⟩ := ba_at (behindL R2.data.toList).1
        have hR3l := behind_le R2.data.toList
        rw [← hR3z, ← Lib.size_eq] at hR3l
        have e4 : behindL R2.data.toList = (R3.data.toList, (behindL R2.data.toList).2) := by rw [hR3]
        cases h5 : (preAt 94 N.data.toList).2 with
        | true =>
          obtain ⟨X, hX, hXz⟩ := ba_at (preAt 94 N.data.toList).1
          have hXl := preAt_len 94 N.data.toList
          rw [← hXz, ← Lib.size_eq] at hXl
          obtain ⟨T, hT, _⟩ := ba_at (plainL R3.data.toList)
          obtain ⟨F, hF, _⟩ := ba_at (nameL X.data.toList).1
          exact line_note s C N X R R2 R3 T F (nameL X.data.toList).2 w hE hs e1 hCl e2 e3 _ e4 (by rw [hX, ← h5]) (by omega) (by omega) hT.symm (by rw [hF])
        | false =>
          have e5 := preAt_false h5
          obtain ⟨U, hU, _⟩ := ba_at (linkL R3.data.toList).1
          obtain ⟨V, hV, _⟩ := ba_at (linkL R3.data.toList).2.1
          obtain ⟨F, hF, _⟩ := ba_at (nameL N.data.toList).1
          exact line_link s C N R R2 R3 U V F (linkL R3.data.toList).2.2 (nameL N.data.toList).2 w hE hs e1 hCl e2 e3 _ e4 (Prod.ext e5 h5) (by omega) (by omega) (by rw [hU, hV]) (by rw [hF])

end Go.Proofs.YtnlmfoccdmkncaaGreatDoor

/-
  What define's readers make of plain text: plain facts, no program in sight.
-/
namespace Go.Proofs.YtnlmfoccdmkncaaGreatDoor
open Go.RowKit
set_option maxRecDepth 100000
set_option linter.unusedVariables false
set_option linter.unusedSimpArgs false

/-! ### one sign -/
theorem index_hit (c : UInt8) : ∀ (a b : List UInt8), c ∉ a → Lib.index (a ++ c :: b) [c] = (a.length : Int)
  | [], b, _ => by simp [Lib.index]
  | x :: a, b, h => by
    have hx : c ≠ x := fun e => h (by rw [e]; exact List.mem_cons_self ..)
    have ih := index_hit c a b (fun e => h (List.mem_cons_of_mem _ e))
    show (if ([c] : List UInt8).isPrefixOf (x :: (a ++ c :: b)) then (0 : Int) else if Lib.index (a ++ c :: b) [c] == -1 then -1 else Lib.index (a ++ c :: b) [c] + 1) = _
    rw [ih, if_neg (by simp [List.isPrefixOf, hx]), if_neg (by simp), List.length_cons]
    omega
theorem index_miss (c : UInt8) : ∀ (a : List UInt8), c ∉ a → Lib.index a [c] = -1
  | [], _ => rfl
  | x :: a, h => by
    have hx : c ≠ x := fun e => h (by rw [e]; exact List.mem_cons_self ..)
    have ih := index_miss c a (fun e => h (List.mem_cons_of_mem _ e))
    show (if ([c] : List UInt8).isPrefixOf (x :: a) then (0 : Int) else if Lib.index a [c] == -1 then -1 else Lib.index a [c] + 1) = _
    rw [ih, if_neg (by simp [List.isPrefixOf, hx])]
    rfl

theorem cut_hit (c : UInt8) (a b : List UInt8) (h : c ∉ a) : cutAt c (a ++ c :: b) = (a, b, true) := by
  unfold cutAt Lib.cut
  rw [index_hit c a b h, if_pos (by omega), show ((a.length : Int)).toNat = a.length by omega, List.take_left' rfl]
  congr 1
  rw [show a ++ c :: b = (a ++ [c]) ++ b by simp, List.drop_left' (by simp)]
theorem cut_miss (c : UInt8) (a : List UInt8) (h : c ∉ a) : cutAt c a = (a, [], false) := by
  unfold cutAt Lib.cut
  rw [index_miss c a h, if_neg (by omega)]
theorem preAt_yes (c : UInt8) (l : List UInt8) : preAt c (c :: l) = (l, true) := by
  unfold preAt Lib.trimPrefix
  rw [pre_one]
  simp
theorem preAt_no (c : UInt8) (l : List UInt8) (h : l.head? ≠ some c) : preAt c l = (l, false) := by
  unfold preAt Lib.trimPrefix
  rw [pre_one]
  simp [h]

theorem Letters.not_mem {l : List UInt8} (h : Letters l) {c : UInt8} (hc : c.toNat < 97) : c ∉ l := fun e => by have := h c e; omega
theorem Letters.cons {c : UInt8} {l : List UInt8} (hc : 97 ≤ c.toNat ∧ c.toNat ≤ 122) (h : Letters l) : Letters (c :: l) := fun b hb => by
  rcases List.mem_cons.1 hb with e | e
  · rw [e]; exact hc
  · exact h b e
theorem Letters.nil : Letters [] := fun b hb => by cases hb
theorem Letters.ascii {l : List UInt8} (h : Letters l) : ∀ b ∈ l, b.toNat < 128 := fun b hb => by have := h b hb; omega

/-! ### names -/
theorem hasBad_letters : ∀ (l : List UInt8) (n : Nat), Letters l → hasBad n l = false
  | [], n, _ => hasBad_nil n
  | c :: l, 0, _ => rfl
  | c :: l, n + 1, h => by
    have hc := h.head
    rw [hasBad, if_neg (by simp), Lib.decodeL_ascii c l (by omega)]
    simp only [List.drop_succ_cons, List.drop_zero]
    rw [hasBad_letters l n h.tail, Bool.or_false]
    simp [badSigns]
    omega
theorem inSps_letter (n : Nat) (h1 : 97 ≤ n) (h2 : n ≤ 122) : inSps (n : Int) spaceSps = false ∧ inSps (n : Int) upSps = false := by
  unfold inSps inSp spaceSps upSps
  constructor <;> (simp; omega)
theorem foldGo_letters : ∀ (l : List UInt8) (n : Nat) (acc : List UInt8), Letters l → l.length ≤ n → foldGo n l false acc = acc ++ l
  | [], n, acc, _, _ => by rw [foldGo_nil]; simp
  | c :: l, 0, acc, _, h => by simp at h
  | c :: l, n + 1, acc, h, hn => by
    have hc := h.head
    obtain ⟨k1, k2⟩ := inSps_letter c.toNat hc.1 hc.2
    rw [foldGo, if_neg (by simp), Lib.decodeL_ascii c l (by omega)]
    simp only [List.drop_succ_cons, List.drop_zero]
    rw [k1, k2]
    simp only [Bool.false_eq_true, if_false, Bool.false_and, List.take_succ_cons, List.take_zero]
    rw [foldGo_letters l n _ h.tail (by simp at hn; omega)]
    simp
theorem fold_letters (l : List UInt8) (h : Letters l) : fold l = l := by unfold fold; rw [foldGo_letters l _ [] h (Nat.le_refl _)]; rfl
theorem name_letters (l : List UInt8) (h : Letters l) (h0 : l ≠ []) (h1 : l.length ≤ 60) : nameL l = (l, true) := by
  unfold nameL
  rw [hasBad_letters l _ h, fold_letters l h, if_neg (by simp), if_neg (by rintro (h | h); exact h0 h; omega)]

/-! ### blanks -/
theorem trim_black {c : UInt8} {l : List UInt8} (h : blanks.contains c = false) : Lib.trimLeftS (c :: l) blanks = c :: l := plain_stop h
theorem letter_no_blank {c : UInt8} (h : 97 ≤ c.toNat) : blanks.contains c = false := by
  simp [blanks]
  exact ⟨ne_of_toNat (by simp; omega), ne_of_toNat (by simp; omega)⟩
theorem behind_blank1 (c : UInt8) (l : List UInt8) (h : blanks.contains c = false) : (behindL (32 :: c :: l)).1 = c :: l := by
  unfold behindL
  rw [plain_skip (by decide), trim_black h]
theorem trimLeft_letters (l : List UInt8) (h : Letters l) : Lib.trimLeftS l blanks = l := by
  cases l with
  | nil => rfl
  | cons c l => exact trim_black (letter_no_blank h.head.1)
theorem plain_letters (l : List UInt8) (h : Letters l) : plainL l = l := by
  unfold plainL
  rw [trimLeft_letters l h]
  unfold Lib.trimRightS
  have : Lib.trimLeftS l.reverse blanks = l.reverse := trimLeft_letters _ (fun b hb => h b (List.mem_reverse.1 hb))
  unfold Lib.trimLeftS at this
  rw [this, List.reverse_reverse]

/-! ### links -/
theorem dest_angle (url l : List UInt8) (hu : Letters url) : dest (60 :: (url ++ 62 :: l)) = (url, url.length + 2, true) := by
  unfold dest
  rw [if_pos (by simp)]
  have hs : scanTo 62 angBad (60 :: (url ++ 62 :: l)).length ((60 :: (url ++ 62 :: l)).drop 1) 1 = some (url.length + 1) := by
    rw [show (60 :: (url ++ 62 :: l)).length = url.length + ((l.length + 1) + 1) by simp; omega, show (60 :: (url ++ 62 :: l)).drop 1 = url ++ 62 :: l from rfl]
    rw [scan_plain 62 angBad url _ _ (62 :: l) (letters_scan hu _ _ (by decide) (fun b hb => by
      unfold angBad
      simp only [Bool.or_eq_false_iff, beq_eq_false_iff_ne]
      exact ⟨ne_of_toNat (by simp; omega), ne_of_toNat (by simp; omega)⟩)), scan_hit _ _ _ _ _ (by decide)]
    congr 1; omega
  rw [angled_some hs]
  rw [List.take_cons (by omega), List.tail_cons, show url.length + 1 - 1 = url.length by omega, List.take_left' rfl, unesc_plain _ hu.plain]

theorem title_quote (q : UInt8) (t r : List UInt8) (hq : IsQuote q) (ht : Letters t) : title (q :: (t ++ endOf q :: r)) = (t, t.length + 2, true) := by
  obtain ⟨f1, f2, f3, f4⟩ := hq.facts
  rw [title_eq q _ hq]
  have hs : scanTo (endOf q) (fun d => d == 40 && endOf q == 41) (t ++ endOf q :: r).length (t ++ endOf q :: r) 1 = some (t.length + 1) := by
    rw [show (t ++ endOf q :: r).length = t.length + (r.length + 1) by simp, scan_plain _ _ t _ _ _ (letters_scan ht _ _ f1 (not_bad _)), scan_hit _ _ _ _ _ f2]
    congr 1; omega
  rw [hs]
  simp only
  rw [List.take_cons (by omega), List.drop_succ_cons, List.drop_zero, show t.length + 1 - 1 = t.length by omega, List.take_left' rfl, unesc_plain _ ht.plain]

/-! ### lines -/
/-- A name between brackets, and a colon: what is behind them decides. -/
theorem line_open (name rest : List UInt8) (h : (93 : UInt8) ∉ name) : lineL (91 :: (name ++ 93 :: 58 :: rest)) = lineOf name (behindL rest).1 := by
  unfold lineL
  rw [preAt_yes]
  simp only
  rw [cut_hit 93 name _ h]
  simp only
  rw [preAt_yes]
  simp
theorem line_head (l : List UInt8) (h : l.head? ≠ some 91) : lineL l = (DefL.none, false) := by
  unfold lineL
  rw [preAt_no _ _ h]
  simp
theorem line_shut (l : List UInt8) (h : (93 : UInt8) ∉ l) : lineL (91 :: l) = (DefL.none, false) := by
  unfold lineL
  rw [preAt_yes]
  simp only
  rw [cut_miss 93 l h]
  simp
theorem line_colon (name rest : List UInt8) (h : (93 : UInt8) ∉ name) (h2 : rest.head? ≠ some 58) : lineL (91 :: (name ++ 93 :: rest)) = (DefL.none, false) := by
  unfold lineL
  rw [preAt_yes]
  simp only
  rw [cut_hit 93 name _ h]
  simp only
  rw [preAt_no _ _ h2]
  simp

theorem lineOf_note (name rest : List UInt8) : lineOf (94 :: name) rest = if plainL rest ≠ [] ∧ (nameL name).2 = true then (⟨(nameL name).1, [], [], plainL rest, true⟩, true) else (DefL.none, false) := by
  unfold lineOf
  rw [preAt_yes]
  simp
theorem lineOf_link (name rest : List UInt8) (h : name.head? ≠ some 94) : lineOf name rest = if (linkL rest).2.2 = true ∧ (nameL name).2 = true then (⟨(nameL name).1, (linkL rest).1, (linkL rest).2.1, [], false⟩, true) else (DefL.none, false) := by
  unfold lineOf
  rw [preAt_no _ _ h]
  simp

theorem Letters.head_ne {l : List UInt8} (h : Letters l) {c : UInt8} (hc : c.toNat < 97) : l.head? ≠ some c := by
  cases l with
  | nil => simp
  | cons x l => simp; exact ne_of_toNat (by have := h.head; omega)

/-! ### DefineBack -/
theorem back_note (name url : List UInt8) (hn : Letters name) (hu : Letters url) (h0 : name ≠ []) (h1 : url ≠ []) (hl : name.length ≤ 30) :
    lineL (91 :: 94 :: (name ++ 93 :: 58 :: 32 :: url)) = (⟨name, [], [], url, true⟩, true) := by
  rw [show 91 :: 94 :: (name ++ 93 :: 58 :: 32 :: url) = 91 :: ((94 :: name) ++ 93 :: 58 :: (32 :: url)) by simp]
  rw [line_open _ _ (by
    intro e
    rcases List.mem_cons.1 e with e | e
    · cases e
    · exact hn.not_mem (by decide) e)]
  obtain ⟨u, us, rfl⟩ : ∃ u us, url = u :: us := by cases url with | nil => exact absurd rfl h1 | cons u us => exact ⟨u, us, rfl⟩
  rw [behind_blank1 _ _ (letter_no_blank hu.head.1), lineOf_note, plain_letters _ hu, name_letters name hn h0 (by omega)]
  simp

theorem link_bare (url : List UInt8) (hu : Letters url) : linkL (60 :: (url ++ [62])) = (url, [], true) := by
  unfold linkL
  rw [dest_angle url [] hu]
  simp only
  rw [show (60 :: (url ++ [62])).drop (url.length + 2) = [] by rw [List.drop_eq_nil_of_le]; simp]
  simp [behindL, Lib.trimLeftS]
theorem link_titled (url t : List UInt8) (hu : Letters url) (ht : Letters t) : linkL (60 :: (url ++ 62 :: 32 :: 39 :: (t ++ [39, 32]))) = (url, t, true) := by
  unfold linkL
  rw [dest_angle url _ hu]
  simp only
  have e1 : (60 :: (url ++ 62 :: 32 :: 39 :: (t ++ [39, 32]))).drop (url.length + 2) = 32 :: 39 :: (t ++ [39, 32]) := by
    rw [show 60 :: (url ++ 62 :: 32 :: 39 :: (t ++ [39, 32])) = (60 :: (url ++ [62])) ++ (32 :: 39 :: (t ++ [39, 32])) by simp, List.drop_left' (by simp)]
  rw [e1]
  have e2 : behindL (32 :: 39 :: (t ++ [39, 32])) = (39 :: (t ++ [39, 32]), true) := by
    unfold behindL
    rw [plain_skip (by decide), trim_black (by decide)]
    simp
  rw [e2]
  simp only
  have e3 : title (39 :: (t ++ [39, 32])) = (t, t.length + 2, true) := title_quote 39 t [32] (Or.inr (Or.inl rfl)) ht
  rw [e3]
  simp only
  have e4 : (39 :: (t ++ [39, 32])).drop (t.length + 2) = [32] := by
    rw [show 39 :: (t ++ [39, 32]) = (39 :: (t ++ [39])) ++ [32] by simp, List.drop_left' (by simp)]
  rw [e4]
  simp [plainL, Lib.trimLeftS, Lib.trimRightS, blanks]

/-- The line that the law writes. -/
def backLine (name url t : List UInt8) : List UInt8 := 91 :: (name ++ 93 :: 58 :: 32 :: 32 :: 60 :: (url ++ 62 :: (if t = [] then [] else 32 :: 39 :: (t ++ [39, 32]))))
theorem behind_blank2 (c : UInt8) (l : List UInt8) (h : blanks.contains c = false) : (behindL (32 :: 32 :: c :: l)).1 = c :: l := by
  unfold behindL
  rw [plain_skip (by decide), plain_skip (by decide), trim_black h]
theorem back_link (name url t : List UInt8) (hn : Letters name) (hu : Letters url) (ht : Letters t) (h0 : name ≠ []) (hl : name.length ≤ 30) :
    lineL (backLine name url t) = (⟨name, url, t, [], false⟩, true) := by
  unfold backLine
  rw [line_open _ _ (hn.not_mem (by decide)), behind_blank2 60 _ (by decide), lineOf_link _ _ (hn.head_ne (by decide)), name_letters name hn h0 (by omega)]
  by_cases h : t = []
  · subst h
    rw [if_pos rfl, link_bare url hu]
    simp
  · rw [if_neg h, link_titled url t hu ht]
    simp

theorem take_none (f : Nat) (l : List UInt8) (out : List DefL) (h : l.head? ≠ some 91) (hx : l ≠ []) : takeL (f + 1) l out = (out, l) := by
  rw [takeL, if_neg hx, line_head, if_neg (by simp)]
  unfold cutAt Lib.cut
  cases l with
  | nil => exact absurd rfl hx
  | cons c l =>
    split
    · intro e
      apply h
      cases hk : (Lib.index (c :: l) [10]).toNat with
      | zero => rw [hk] at e; simp at e
      | succ k => rw [hk] at e; simpa using e
    · exact h
theorem take_one (f : Nat) (l r : List UInt8) (d : DefL) (out : List DefL) (h : (10 : UInt8) ∉ l) (hd : lineL l = (d, true)) : takeL (f + 1) (l ++ 10 :: r) out = takeL f r (out ++ [d]) := by
  rw [takeL, if_neg (by simp), cut_hit 10 l r h]
  simp only
  rw [hd]
  simp

theorem backLine_lf (name url t : List UInt8) (hn : Letters name) (hu : Letters url) (ht : Letters t) : (10 : UInt8) ∉ backLine name url t := by
  unfold backLine
  have a := hn.not_mem (c := 10) (by decide)
  have b := hu.not_mem (c := 10) (by decide)
  have c := ht.not_mem (c := 10) (by decide)
  split <;> simp [a, b, c]

theorem back_take (f : Nat) (name url t : List UInt8) (hn : Letters name) (hu : Letters url) (ht : Letters t) (h0 : name ≠ []) (hl : name.length ≤ 30) :
    takeL (f + 2) (backLine name url t ++ 10 :: [109, 111, 114, 101]) [] = ([⟨name, url, t, [], false⟩], [109, 111, 114, 101]) := by
  rw [take_one (f + 1) _ _ _ _ (backLine_lf name url t hn hu ht) (back_link name url t hn hu ht h0 hl)]
  exact take_none f _ _ (by simp) (by simp)

/-! ### DefineTakes -/
def takeLine (n : List UInt8) (i : Nat) : List UInt8 := 91 :: (n ++ [93, 58, 32, 47, 117, UInt8.ofNat (97 + i)])
theorem link_u (i : Nat) (hi : i < 12) : linkL [47, 117, UInt8.ofNat (97 + i)] = ([47, 117, UInt8.ofNat (97 + i)], [], true) :=
  (by decide +kernel : ∀ i : Fin 12, linkL [47, 117, UInt8.ofNat (97 + i.val)] = ([47, 117, UInt8.ofNat (97 + i.val)], [], true)) ⟨i, hi⟩
theorem takeLine_def (n : List UInt8) (i : Nat) (hn : Letters n) (h0 : n ≠ []) (hl : n.length ≤ 20) (hi : i < 12) : lineL (takeLine n i) = (⟨n, [47, 117, UInt8.ofNat (97 + i)], [], [], false⟩, true) := by
  unfold takeLine
  rw [show n ++ [93, 58, 32, 47, 117, UInt8.ofNat (97 + i)] = n ++ 93 :: 58 :: [32, 47, 117, UInt8.ofNat (97 + i)] by simp]
  rw [line_open _ _ (hn.not_mem (by decide)), behind_blank1 47 _ (by decide), lineOf_link _ _ (hn.head_ne (by decide)), name_letters n hn h0 (by omega), link_u i hi]
  simp
theorem takeLine_lf (n : List UInt8) (i : Nat) (hn : Letters n) (hi : i < 12) : (10 : UInt8) ∉ takeLine n i := by
  unfold takeLine
  have a := hn.not_mem (c := 10) (by decide)
  obtain ⟨x, hx⟩ : ∃ x, UInt8.ofNat (97 + i) = x := ⟨_, rfl⟩
  have b : (10 : UInt8) ≠ x := by
    rw [← hx]
    refine ne_of_toNat ?_
    rw [UInt8.toNat_ofNat']
    have : (10 : UInt8).toNat = 10 := rfl
    omega
  rw [hx]
  simp [a, b]
/-- The text of the law: a line a name, from the i-th on. -/
def takeText : List (List UInt8) → Nat → List UInt8
  | [], _ => []
  | n :: ns, i => takeLine n i ++ 10 :: takeText ns (i + 1)
def takeDefs : List (List UInt8) → Nat → List DefL
  | [], _ => []
  | n :: ns, i => ⟨n, [47, 117, UInt8.ofNat (97 + i)], [], [], false⟩ :: takeDefs ns (i + 1)
theorem takes_all : ∀ (ns : List (List UInt8)) (i f : Nat) (rest : List UInt8) (out : List DefL), (∀ n ∈ ns, Letters n ∧ n ≠ [] ∧ n.length ≤ 20) → i + ns.length ≤ 12 →
    takeL (ns.length + (f + 1)) (takeText ns i ++ 120 :: rest) out = (out ++ takeDefs ns i, 120 :: rest)
  | [], i, f, rest, out, _, _ => by
    simp only [takeText, takeDefs, List.nil_append, List.append_nil, List.length_nil, Nat.zero_add]
    exact take_none f _ _ (by simp) (by simp)
  | n :: ns, i, f, rest, out, h, hi => by
    obtain ⟨a, b, c⟩ := h n (List.mem_cons_self ..)
    have hi' : i < 12 := by simp at hi; omega
    rw [show (n :: ns).length + (f + 1) = (ns.length + (f + 1)) + 1 by simp; omega]
    simp only [takeText, takeDefs]
    rw [show takeLine n i ++ 10 :: takeText ns (i + 1) ++ 120 :: rest = takeLine n i ++ 10 :: (takeText ns (i + 1) ++ 120 :: rest) by simp]
    rw [take_one _ _ _ _ _ (takeLine_lf n i a hi') (takeLine_def n i a b c hi')]
    rw [takes_all ns (i + 1) f rest _ (fun m hm => h m (List.mem_cons_of_mem _ hm)) (by simp at hi; omega)]
    simp
theorem takeDefs_length : ∀ (ns : List (List UInt8)) (i : Nat), (takeDefs ns i).length = ns.length
  | [], _ => rfl
  | n :: ns, i => by simp [takeDefs, takeDefs_length ns]
theorem takeDefs_at : ∀ (ns : List (List UInt8)) (i j : Nat), j < ns.length → (takeDefs ns i)[j]? = some ⟨ns.getD j [], [47, 117, UInt8.ofNat (97 + (i + j))], [], [], false⟩
  | [], _, j, h => by simp at h
  | n :: ns, i, 0, h => by simp [takeDefs]
  | n :: ns, i, j + 1, h => by
    simp only [takeDefs, List.getElem?_cons_succ]
    rw [takeDefs_at ns (i + 1) j (by simpa using h)]
    simp only [List.getD_cons_succ]
    rw [show i + 1 + j = i + (j + 1) by omega]

/-! ### DefineNone -/
/-- The lines of the law that define nothing. -/
def badLine (k : Nat) (m : List UInt8) : List UInt8 :=
  match k with
  | 0 => 120 :: m
  | 1 => 91 :: 120 :: m
  | 2 => 91 :: 120 :: (m ++ [93])
  | 3 => 91 :: 120 :: (m ++ [93, 32, 58, 32, 47, 117])
  | 4 => [91, 93, 58, 32, 47, 117]
  | 5 => [91, 32, 93, 58, 32, 47, 117]
  | 6 => [91, 94, 93, 58, 32, 116]
  | 7 => 91 :: 94 :: 120 :: (m ++ [93, 58, 32])
  | 8 => 91 :: 120 :: (m ++ [93, 58, 32])
  | 9 => 91 :: 120 :: (m ++ [93, 58, 32, 47, 117, 32, 39, 116])
  | 10 => 91 :: 120 :: (m ++ [93, 58, 32, 47, 117, 32, 39, 116, 39, 32, 122])
  | 11 => [32, 91, 120, 93, 58, 32, 47, 117]
  | _ => 91 :: 120 :: (m ++ [93, 58, 32, 47, 117, 32, 122])

theorem link_8 : linkL (behindL [32]).1 = ([], [], false) := by decide +kernel
theorem link_9 : linkL (behindL [32, 47, 117, 32, 39, 116]).1 = ([], [], false) := by decide +kernel
theorem link_10 : linkL (behindL [32, 47, 117, 32, 39, 116, 39, 32, 122]).1 = ([], [], false) := by decide +kernel
theorem link_12 : linkL (behindL [32, 47, 117, 32, 122]).1 = ([], [], false) := by decide +kernel
theorem bad_4 : lineL [91, 93, 58, 32, 47, 117] = (DefL.none, false) := by decide +kernel
theorem bad_5 : lineL [91, 32, 93, 58, 32, 47, 117] = (DefL.none, false) := by decide +kernel
theorem bad_6 : lineL [91, 94, 93, 58, 32, 116] = (DefL.none, false) := by decide +kernel

theorem bad_link (m tl : List UInt8) (hm : Letters m) (h : linkL (behindL tl).1 = ([], [], false)) : lineL (91 :: 120 :: (m ++ 93 :: 58 :: tl)) = (DefL.none, false) := by
  have hx : Letters (120 :: m) := hm.cons (by decide)
  rw [show 91 :: 120 :: (m ++ 93 :: 58 :: tl) = 91 :: ((120 :: m) ++ 93 :: 58 :: tl) by simp, line_open _ _ (hx.not_mem (by decide)), lineOf_link _ _ (hx.head_ne (by decide)), h]
  simp

theorem bad_none (k : Nat) (m : List UInt8) (hm : Letters m) (hk : k < 13) : lineL (badLine k m) = (DefL.none, false) := by
  have hx : Letters (120 :: m) := hm.cons (by decide)
  have : k = 0 ∨ k = 1 ∨ k = 2 ∨ k = 3 ∨ k = 4 ∨ k = 5 ∨ k = 6 ∨ k = 7 ∨ k = 8 ∨ k = 9 ∨ k = 10 ∨ k = 11 ∨ k = 12 := by omega
  rcases this with rfl | rfl | rfl | rfl | rfl | rfl | rfl | rfl | rfl | rfl | rfl | rfl | rfl
  · exact line_head _ (by simp [badLine])
  · exact line_shut _ (hx.not_mem (by decide))
  · exact line_colon (120 :: m) [] (hx.not_mem (by decide)) (by simp)
  · exact line_colon (120 :: m) [32, 58, 32, 47, 117] (hx.not_mem (by decide)) (by simp)
  · exact bad_4
  · exact bad_5
  · exact bad_6
  · show lineL (91 :: 94 :: 120 :: (m ++ [93, 58, 32])) = _
    rw [show 91 :: 94 :: 120 :: (m ++ [93, 58, 32]) = 91 :: ((94 :: 120 :: m) ++ 93 :: 58 :: [32]) by simp, line_open _ _ (by
      intro e
      rcases List.mem_cons.1 e with e | e
      · cases e
      · exact hx.not_mem (by decide) e), lineOf_note]
    rw [if_neg (by rintro ⟨h, _⟩; exact h (by decide))]
  · exact bad_link m [32] hm link_8
  · exact bad_link m [32, 47, 117, 32, 39, 116] hm link_9
  · exact bad_link m [32, 47, 117, 32, 39, 116, 39, 32, 122] hm link_10
  · exact line_head _ (by simp [badLine])
  · exact bad_link m [32, 47, 117, 32, 122] hm link_12

end Go.Proofs.YtnlmfoccdmkncaaGreatDoor

/-
  define.Take: the definitions with which a text begins, and the rest.
-/
namespace Go.Proofs.YtnlmfoccdmkncaaGreatDoor
open Go.RowKit
set_option maxRecDepth 100000
set_option linter.unusedVariables false
set_option linter.unusedSimpArgs false

theorem infoDef : (Tryz.prog.info? 26).map (fun i => (i.zero, i.size, i.bytes)) = some (some (.agg #[.string ⟨#[]⟩, .string ⟨#[]⟩, .string ⟨#[]⟩, .string ⟨#[]⟩, .bool false]), 5, 72) := by kernel_rfl

def strSize : Value → Nat
  | .string s => s.size
  | _ => 0

def DefL.cells (d : DefL) : List Value := [.string ⟨d.name.toArray⟩, .string ⟨d.url.toArray⟩, .string ⟨d.title.toArray⟩, .string ⟨d.text.toArray⟩, .bool d.note]
def defCells (l : List DefL) : List Value := l.flatMap DefL.cells
theorem defCells_snoc (l : List DefL) (d : DefL) : defCells (l ++ [d]) = defCells l ++ d.cells := by simp [defCells]
theorem defCells_at : ∀ (l : List DefL) (i j : Nat) (d : DefL), l[i]? = some d → j < 5 → (defCells l)[i * 5 + j]? = d.cells[j]?
  | [], i, j, d, h, _ => by simp at h
  | x :: l, 0, j, d, h, hj => by
    simp at h; subst h
    unfold defCells
    rw [List.flatMap_cons, List.getElem?_append_left (by simp [DefL.cells]; omega)]
    congr 1; omega
  | x :: l, i + 1, j, d, h, hj => by
    have ih := defCells_at l i j d (by simpa using h) hj
    unfold defCells at ih ⊢
    rw [List.flatMap_cons, List.getElem?_append_right (by simp [DefL.cells]; omega), ← ih]
    congr 1
    simp [DefL.cells]; omega

theorem cut_less (c : UInt8) (l : List UInt8) (h : l ≠ []) : (cutAt c l).2.1.length < l.length := by
  have hp := List.length_pos_iff.2 h
  unfold cutAt Lib.cut
  split
  · simp only [List.length_drop, List.length_cons, List.length_nil]; omega
  · simp; omega

set_option maxHeartbeats 4000000 in
theorem take_any (s : ByteArray) (w : World) (hE : Env w) (hs : s.size ≤ 1000000) :
    Calls Tryz.prog 10 #[.string s] w fun e w' => ∃ v, e = .returned (.tuple #[v, .string ⟨(takeL (s.size + 1) s.data.toList []).2.toArray⟩]) ∧
      w'.ownsRow w.heap.size 26 5 v (takeL (s.size + 1) s.data.toList []).1.length (defCells (takeL (s.size + 1) s.data.toList []).1) ∧ Below w.heap.size w w' := by
  obtain ⟨i0, hi, hz0, hz1, hz2⟩ := info_parts infoDef
  have HE := Lib.hid hE
  clear hE
  go_enter Tryz.func10, Tryz.ntmps10
  go_wp2_with fail
  go_loopw [0, 4] (fun u0 u4 wr => ∃ (S : ByteArray) (out : List DefL) (f : Nat), u0 = .string S ∧ wr.ownsRow w.heap.size 26 5 u4 out.length (defCells out) ∧ Below w.heap.size w wr ∧
    takeL f S.data.toList out = takeL (s.size + 1) s.data.toList [] ∧ S.size < f ∧ out.length + S.size ≤ s.size) (fun u0 _ _ => strSize u0)
  case atStart => exact ⟨s, [], s.size + 1, rfl, World.ownsRow_nil _ _ _ _, Below.refl _ _, rfl, by omega, by simp⟩
  case round =>
    obtain ⟨S, out, f, rfl, hown, hB, hT, hf, hol⟩ := hrel
    obtain ⟨f, rfl⟩ : ∃ g, f = g + 1 := ⟨f - 1, by omega⟩
    have HT := Lib.hid hT
    clear hT
    by_cases hS0 : 0 < S.size
    · have he := empty_no hS0
      have hne : S.data.toList ≠ [] := by intro h; rw [Lib.size_eq, h] at hS0; exact absurd hS0 (by simp)
      obtain ⟨A, hA, hAz⟩ := ba_at (cutAt 10 S.data.toList).1
      obtain ⟨R, hR, hRz⟩ := ba_at (cutAt 10 S.data.toList).2.1
      have hcl := cut_len 10 S.data.toList
      have hcs := cut_less 10 S.data.toList hne
      rw [← hAz, ← hRz, ← Lib.size_eq] at hcl
      rw [← hRz, ← Lib.size_eq] at hcs
      have e2 : cutAt 10 S.data.toList = (A.data.toList, R.data.toList, (cutAt 10 S.data.toList).2.2) := by rw [hA, hR]
      obtain ⟨b, hb⟩ : ∃ b, (cutAt 10 S.data.toList).2.2 = b := ⟨_, rfl⟩
      rw [hb] at e2
      have hc := fun W hW => cut_any 10 S W hW (by omega)
      rw [e2] at hc
      have hln := fun W hW => line_any A W hW (by omega)
      have hT := HT.out
      rw [takeL, if_neg hne, e2] at hT
      simp only at hT
      obtain ⟨d, is, hd⟩ : ∃ d is, lineL A.data.toList = (d, is) := ⟨_, _, rfl⟩
      rw [hd] at hln hT
      simp only [Lib.mk_data, DefL.val, defV] at hc hln hT
      have HC := Lib.hid hc
      have HL := Lib.hid hln
      have HT2 := Lib.hid hT
      clear hc hln hT HT hA hR hAz hRz e2 hb hne hd
      go_wp2_with fail
      refine (HC.out _ (HE.out.below hB)).mono ?_
      rintro e w2 ⟨rfl, b2⟩
      have hB2 := below_step hB b2
      have hown2 := own_below hown b2
      clear b2 hown hB
      go_wp2_with fail
      refine (HL.out _ (HE.out.below hB2)).mono ?_
      rintro e w3 ⟨rfl, b3⟩
      have hB3 := below_step hB2 b3
      have hown3 := own_below hown2 b3
      clear b3 hown2 hB2
      cases is
      · have HT3 := Lib.hid (HT2.out.symm.trans (if_neg (by simp)))
        clear HT2
        go_wp2_with fail
        go_ret2
        refine ⟨u4, ?_, ?_, hB3.alloc hB3.size _⟩
        · rw [HT3.out]; show Ending.returned (.tuple #[u4, .string S]) = _; simp only [Lib.mk_data]
        · rw [HT3.out]; exact hown3.alloc _
      · have HT3 := Lib.hid ((if_pos rfl).symm.trans HT2.out)
        clear HT2
        go_wp2_with (first
          | (at_builtin; refine wpList_append_own _ rfl _ _ 40 rfl w.heap.size 26 i0 (.agg #[.string ⟨#[]⟩, .string ⟨#[]⟩, .string ⟨#[]⟩, .string ⟨#[]⟩, .bool false]) 5 72 Tryz.underlying40 hi hz0 hz1 hz2 rfl (by decide) _ _ _ rfl ((hown3.alloc _).alloc _) ⟨w3.heap.size + 1, 0, none⟩ 1 1 [.string ⟨d.name.toArray⟩, .string ⟨d.url.toArray⟩, .string ⟨d.title.toArray⟩, .string ⟨d.text.toArray⟩, .bool d.note] rfl rfl ?c1 ?c2 ?c3 ?c4 ?c5 ?_))
        case c1 => exact cells_new _ _ _ _ (by simp)
        case c2 => intro u hu; simp at hu; rcases hu with rfl | rfl | rfl | rfl | rfl <;> rfl
        case c3 => unfold maxLen; omega
        case c4 => omega
        case c5 => have := hB3.size; simp; omega
        intro v' w4 hown4 hgrow _
        have hB4 := ((hB3.alloc hB3.size (.cells #[.string ⟨d.name.toArray⟩, .string ⟨d.url.toArray⟩, .string ⟨d.title.toArray⟩, .string ⟨d.text.toArray⟩, .bool d.note] 26)).alloc (by have := hB3.size; simp; omega) (.cells #[.string ⟨d.name.toArray⟩, .string ⟨d.url.toArray⟩, .string ⟨d.title.toArray⟩, .string ⟨d.text.toArray⟩, .bool d.note] 26)).grown hgrow (by have := hB3.size; simp; omega) (fun j hj => (hown3.lt j hj).1)
        clear hgrow hown3 hB3
        go_wp2_with fail
        go_roundw
        case rel => exact ⟨R, out ++ [d], f, rfl, by rw [defCells_snoc, List.length_append]; exact hown4, hB4, HT3.out, by omega, by simp; omega⟩
        case measure => simp only [strSize]; omega
    · have he := empty_yes (s := S) (by omega)
      have hnil : S.data.toList = [] := List.eq_nil_of_length_eq_zero (by rw [← Lib.size_eq]; omega)
      have HT3 := Lib.hid (show takeL (s.size + 1) s.data.toList [] = (out, S.data.toList) by rw [← HT.out, takeL, if_pos hnil])
      clear HT hnil
      go_wp2_with fail
      go_ret2
      refine ⟨u4, ?_, ?_, hB⟩
      · rw [HT3.out]; show Ending.returned (.tuple #[u4, .string S]) = _; simp only [Lib.mk_data]
      · rw [HT3.out]; exact hown

end Go.Proofs.YtnlmfoccdmkncaaGreatDoor

/-
  define.Table: find, Find: a table's definition of a name.
-/
namespace Go.Proofs.YtnlmfoccdmkncaaGreatDoor
open Go.RowKit
set_option maxRecDepth 100000
set_option linter.unusedVariables false
set_option linter.unusedSimpArgs false

/-- A table in memory; 'none': the nil one. -/
def TabAt (w : World) (tv : Value) : Option (List DefL) → Prop
  | none => tv = .pointer none
  | some ds => ∃ b sv, tv = .pointer (some ⟨b, 0, none⟩) ∧ w.heap[b]? = some (.cells #[sv] 48 (0, 0)) ∧ w.ownsRow 0 26 5 sv ds.length (defCells ds)
theorem TabAt.below {w w' : World} {tv : Value} {t : Option (List DefL)} (h : TabAt w tv t) (hb : Below w.heap.size w w') : TabAt w' tv t := by
  cases t with
  | none => exact h
  | some ds =>
    obtain ⟨b, sv, h1, h2, h3⟩ := h
    exact ⟨b, sv, h1, (hb.block b (Array.getElem?_eq_some_iff.1 h2).1).trans h2, own_below h3 hb⟩
theorem TabAt.cell {w : World} {b : Nat} {sv : Value} {T : TypeId} (h : w.heap[b]? = some (.cells #[sv] T (0, 0))) : w.cell? ⟨b, 0, none⟩ = some sv := by
  rw [cell_of_row w b 0 _ _ _ h]; rfl

theorem def_len (d : DefL) : (DefL.cells d).length = 5 := rfl
theorem RowR.dfn {w : World} {g o n : Nat} {l : List DefL} (h : RowR w 5 (some ⟨g, o, none⟩) n (defCells l)) (k : Nat) (d : DefL) (hk : l[k]? = some d) :
    w.cell? ⟨g, o + k * 5, none⟩ = some (.string ⟨d.name.toArray⟩) ∧ w.cell? ⟨g, o + k * 5 + 1, none⟩ = some (.string ⟨d.url.toArray⟩) ∧ w.cell? ⟨g, o + k * 5 + 2, none⟩ = some (.string ⟨d.title.toArray⟩) ∧ w.cell? ⟨g, o + k * 5 + 3, none⟩ = some (.string ⟨d.text.toArray⟩) ∧ w.cell? ⟨g, o + k * 5 + 4, none⟩ = some (.bool d.note) :=
  ⟨h.cell def_len k 0 d _ hk (by omega) rfl, h.cell def_len k 1 d _ hk (by omega) rfl, h.cell def_len k 2 d _ hk (by omega) rfl, h.cell def_len k 3 d _ hk (by omega) rfl, h.cell def_len k 4 d _ hk (by omega) rfl⟩

/-- What find answers: a place and what stands there, or -1. -/
def FindPost (ds : List DefL) (x : List UInt8) (note : Bool) (n : Int) : Prop := (n = (-1 : Int) ∧ lookL ds x note = none) ∨ ∃ (k : Nat) (d : DefL), n = (k : Int) ∧ k < ds.length ∧ ds[k]? = some d ∧ lookL ds x note = some d

theorem look_cons (d : DefL) (ds : List DefL) (x : List UInt8) (note : Bool) : lookL (d :: ds) x note = if (d.name == x && d.note == note) = true then some d else lookL ds x note := by
  unfold lookL
  rw [List.find?_cons]
  cases (d.name == x && d.note == note) <;> rfl
set_option maxHeartbeats 4000000 in
theorem find_at (b : Nat) (sv : Value) (ds : List DefL) (x : List UInt8) (note : Bool) (w : World) (hb : w.heap[b]? = some (.cells #[sv] 48 (0, 0))) (ho : w.ownsRow 0 26 5 sv ds.length (defCells ds)) (hl : ds.length ≤ 1000000000) :
    Calls Tryz.prog 66 #[.pointer (some ⟨b, 0, none⟩), .string ⟨x.toArray⟩, .bool note] w fun e w' => ∃ n, e = .returned (.int .i64 n) ∧ FindPost ds x note n ∧ Below w.heap.size w w' := by
  have hc := TabAt.cell hb
  obtain ⟨ao, c, hsv, hR, _⟩ := own_slice ho
  subst hsv
  have HR := Lib.hid hR
  clear hR ho hb
  go_enter Tryz.func66, Tryz.ntmps66
  go_wp2_with fail
  go_loopw [14] (fun u14 wr => ∃ k : Nat, k ≤ ds.length ∧ u14 = .int .i64 k ∧ Below w.heap.size w wr ∧ lookL (ds.drop k) x note = lookL ds x note) (fun u14 _ => ds.length - (intOf u14).toNat)
  case atStart => exact ⟨0, Nat.zero_le _, rfl, Below.refl _ _, rfl⟩
  case round =>
    obtain ⟨k, hk, rfl, hB, hlk⟩ := hrel
    by_cases hlt : k < ds.length
    · obtain ⟨d, hd⟩ : ∃ d, ds[k]? = some d := ⟨ds[k], by simp [hlt]⟩
      obtain ⟨g, o, rfl⟩ : ∃ g o, ao = some ⟨g, o, none⟩ := by
        cases hao : ao with
        | none => have := HR.out.non hao; omega
        | some ad =>
          obtain ⟨g, o, sp⟩ := ad
          obtain rfl : sp = none := (HR.out.at' _ hao).1
          exact ⟨g, o, rfl⟩
      obtain ⟨c0, c1, c2, c3, c4⟩ := (HR.out.below hB).dfn k d hd
      have hdr : ds.drop k = d :: ds.drop (k + 1) := by
        obtain ⟨h1, h2⟩ := List.getElem?_eq_some_iff.1 hd
        rw [← h2, List.getElem_cons_drop]
      rw [hdr, look_cons] at hlk
      have HLK := Lib.hid hlk
      have HD := Lib.hid hd
      clear hlk hd hdr
      have hB2 := hB.alloc hB.size (.cells #[.string ⟨d.name.toArray⟩, .string ⟨d.url.toArray⟩, .string ⟨d.title.toArray⟩, .string ⟨d.text.toArray⟩, .bool d.note] 26)
      by_cases hq : d.name = x
      · subst hq
        cases hnn : (d.note == note)
        · have HN := Lib.hid (show lookL (ds.drop (k + 1)) d.name note = lookL ds d.name note by have := HLK.out; rwa [hnn, Bool.and_false, if_neg (by simp)] at this)
          go_wp2_with fail
          go_roundw
          case rel => exact ⟨k + 1, by omega, by go_num, hB2, HN.out⟩
          case measure => simp [intOf]; omega
        · have HN := Lib.hid (show lookL ds d.name note = some d by have := HLK.out; rw [hnn, Bool.and_true, if_pos (by simp)] at this; exact this.symm)
          go_wp2_with fail
          go_ret
          exact ⟨k, rfl, Or.inr ⟨k, d, rfl, hlt, HD.out, HN.out⟩, hB2⟩
      · have HN := Lib.hid (show lookL (ds.drop (k + 1)) x note = lookL ds x note by have := HLK.out; rwa [show (d.name == x) = false by simpa using hq, Bool.false_and, if_neg (by simp)] at this)
        go_wp2_with fail
        go_roundw
        case rel => exact ⟨k + 1, by omega, by go_num, hB2, HN.out⟩
        case measure => simp [intOf]; omega
    · obtain rfl : k = ds.length := by omega
      have HN := Lib.hid (show lookL ds x note = none by rw [← hlk, List.drop_length]; rfl)
      clear hlk
      go_wp2_with fail
      go_ret
      exact ⟨-1, rfl, Or.inl ⟨rfl, HN.out⟩, hB⟩

end Go.Proofs.YtnlmfoccdmkncaaGreatDoor

/-
  define.Table.Find: a table's definition of a name.
-/
namespace Go.Proofs.YtnlmfoccdmkncaaGreatDoor
open Go.RowKit
set_option maxRecDepth 100000
set_option linter.unusedVariables false
set_option linter.unusedSimpArgs false

set_option maxHeartbeats 4000000 in
theorem find_any (tv : Value) (t : Option (List DefL)) (s : ByteArray) (note : Bool) (w : World) (hE : Env w) (hT : TabAt w tv t) (hl : ∀ ds, t = some ds → ds.length ≤ 1000000000) (hs : s.size ≤ 1000000000) :
    Calls Tryz.prog 17 #[tv, .string s, .bool note] w fun e w' => e = .returned (.tuple #[(findL t s.data.toList note).1.val, .bool (findL t s.data.toList note).2]) ∧ Below w.heap.size w w' := by
  have HE := Lib.hid hE
  have hb1 : Below w.heap.size w (w.alloc (.cells #[.string ⟨#[]⟩, .string ⟨#[]⟩, .string ⟨#[]⟩, .string ⟨#[]⟩, .bool false] 26)) := (Below.refl _ w).alloc (Nat.le_refl _) _
  have hnm := name_any s _ (hE.below hb1) hs
  obtain ⟨r, hr⟩ : ∃ r, findL t s.data.toList note = r := ⟨_, rfl⟩
  rw [hr]
  have hr' := hr
  unfold findL at hr'
  obtain ⟨x, is, hx⟩ : ∃ x is, nameL s.data.toList = (x, is) := ⟨_, _, rfl⟩
  rw [hx] at hnm hr'
  simp only at hnm
  have HNM := Lib.hid hnm
  clear hnm hx hr hE
  cases t with
  | none =>
    obtain rfl : tv = .pointer none := hT
    have HQ := Lib.hid (show r = (DefL.none, false) from hr'.symm)
    clear hr' hl
    go_enter Tryz.func17, Tryz.ntmps17
    go_wp2_with fail
    refine HNM.out.mono ?_
    rintro e w2 ⟨rfl, b2⟩
    obtain ⟨c0, c1, c2, c3, c4, f0, f1, f2, f3, f4, hsz⟩ := zero_def b2
    have hB := below_step hb1 b2
    clear hb1 b2
    go_wp2_with fail
    refine bodyPost_ret (v := .tuple #[.agg #[.string ⟨#[]⟩, .string ⟨#[]⟩, .string ⟨#[]⟩, .string ⟨#[]⟩, .bool false], .bool false]) (by simp [results, Tryz.results17, go_sem, c0, c1, c2, c3, c4, f0, f1, f2, f3, f4]) rfl ⟨?_, below_def hB⟩
    rw [HQ.out]
    rfl
  | some ds =>
    obtain ⟨b, sv, rfl, hb, ho⟩ := hT
    have hdl := hl ds rfl
    simp only at hr'
    cases is
    · have HQ := Lib.hid (show r = (DefL.none, false) by rw [← hr', if_pos rfl])
      clear hr' hl hb ho
      go_enter Tryz.func17, Tryz.ntmps17
      go_wp2_with fail
      refine HNM.out.mono ?_
      rintro e w2 ⟨rfl, b2⟩
      obtain ⟨c0, c1, c2, c3, c4, f0, f1, f2, f3, f4, hsz⟩ := zero_def b2
      have hB := below_step hb1 b2
      clear hb1 b2
      go_wp2_with fail
      refine bodyPost_ret (v := .tuple #[.agg #[.string ⟨#[]⟩, .string ⟨#[]⟩, .string ⟨#[]⟩, .string ⟨#[]⟩, .bool false], .bool false]) (by simp [results, Tryz.results17, go_sem, c0, c1, c2, c3, c4, f0, f1, f2, f3, f4]) rfl ⟨?_, below_def hB⟩
      rw [HQ.out]
      rfl
    · rw [if_neg (by simp)] at hr'
      have HR := Lib.hid hr'
      have HTB := Lib.hid (And.intro hb ho)
      clear hr' hl hb ho
      go_enter Tryz.func17, Tryz.ntmps17
      go_wp2_with fail
      refine HNM.out.mono ?_
      rintro e w2 ⟨rfl, b2⟩
      have hB2 := below_step hb1 b2
      obtain ⟨sao, scap, hsv, _⟩ := own_slice HTB.out.2
      have hb2 := (hB2.block b (Array.getElem?_eq_some_iff.1 HTB.out.1).1).trans HTB.out.1
      have ho2 := own_below HTB.out.2 hB2
      have hfa := find_at b sv ds x note w2 hb2 ho2 hdl
      have HFA := Lib.hid hfa
      obtain ⟨c0, c1, c2, c3, c4, f0, f1, f2, f3, f4, hsz⟩ := zero_def b2
      clear hfa hb1
      go_wp2_with fail
      refine HFA.out.mono ?_
      rintro e w3 ⟨n, rfl, hpost, b3⟩
      have hB := below_step hB2 b3
      obtain ⟨c0, c1, c2, c3, c4, f0, f1, f2, f3, f4, hsz⟩ := zero_def (below_step b2 b3)
      rcases hpost with ⟨rfl, hlk⟩ | ⟨k, d, rfl, hk, hd, hlk⟩
      · have HQ := Lib.hid (show r = (DefL.none, false) by rw [← HR.out, hlk])
        clear hlk hb2 ho2 b2 b3 hB2
        go_wp2_with fail
        refine bodyPost_ret (v := .tuple #[.agg #[.string ⟨#[]⟩, .string ⟨#[]⟩, .string ⟨#[]⟩, .string ⟨#[]⟩, .bool false], .bool false]) (by simp [results, Tryz.results17, go_sem, c0, c1, c2, c3, c4, f0, f1, f2, f3, f4]) rfl ⟨?_, below_def hB⟩
        rw [HQ.out]
        rfl
      · have HQ := Lib.hid (show r = (d, true) by rw [← HR.out, hlk])
        have hb3 := (b3.block b (Array.getElem?_eq_some_iff.1 hb2).1).trans hb2
        have ho3 := own_below ho2 b3
        have hc3 := TabAt.cell hb3
        obtain ⟨ao, cp, hsv3, hR3, _⟩ := own_slice ho3
        rw [hsv3] at hc3
        obtain ⟨g, o, rfl⟩ : ∃ g o, ao = some ⟨g, o, none⟩ := by
          cases hao : ao with
          | none => have := hR3.non hao; omega
          | some ad =>
            obtain ⟨g, o, sp⟩ := ad
            obtain rfl : sp = none := (hR3.at' _ hao).1
            exact ⟨g, o, rfl⟩
        obtain ⟨e0, e1, e2, e3, e4⟩ := hR3.dfn k d hd
        have hki : (k : Int) < (ds.length : Int) := by omega
        have hk0 : ¬ (k : Int) < 0 := by omega
        clear hlk hb2 ho2 b2 b3 hB2 hb3 ho3 hR3 hd hsv3 hsv HTB HFA
        go_wp2_with fail
        refine bodyPost_ret (v := .tuple #[.agg #[.string ⟨d.name.toArray⟩, .string ⟨d.url.toArray⟩, .string ⟨d.title.toArray⟩, .string ⟨d.text.toArray⟩, .bool d.note], .bool true]) (by simp [results, Tryz.results17, go_sem, c0, c1, c2, c3, c4, f0, f1, f2, f3, f4]) rfl ⟨?_, below_def hB⟩
        rw [HQ.out]
        rfl

end Go.Proofs.YtnlmfoccdmkncaaGreatDoor

/-
  define.Table.Add: a definition is added, if there is none of its name.
-/
namespace Go.Proofs.YtnlmfoccdmkncaaGreatDoor
open Go.RowKit
set_option maxRecDepth 100000
set_option linter.unusedVariables false
set_option linter.unusedSimpArgs false

/-- A table of the call's own. -/
def TabOwn (B : Nat) (w : World) (b : Nat) (ds : List DefL) : Prop := B ≤ b ∧ ∃ sv, w.heap[b]? = some (.cells #[sv] 48 (0, 0)) ∧ w.ownsRow B 26 5 sv ds.length (defCells ds)
theorem TabOwn.below {B : Nat} {w w' : World} {b : Nat} {ds : List DefL} (h : TabOwn B w b ds) (hb : Below w.heap.size w w') : TabOwn B w' b ds := by
  obtain ⟨h0, sv, h1, h2⟩ := h
  exact ⟨h0, sv, (hb.block b (Array.getElem?_eq_some_iff.1 h1).1).trans h1, own_below h2 hb⟩
theorem TabOwn.at' {B : Nat} {w : World} {b : Nat} {ds : List DefL} (h : TabOwn B w b ds) : TabAt w (.pointer (some ⟨b, 0, none⟩)) (some ds) := by
  obtain ⟨h0, sv, h1, h2⟩ := h
  exact ⟨b, sv, rfl, h1, own_mono h2 (Nat.zero_le _)⟩
def addL (ds : List DefL) (d : DefL) : List DefL × Bool := if (lookL ds d.name d.note).isSome then (ds, false) else (ds ++ [d], true)

theorem def_oneCell (d : DefL) : ∀ u ∈ [Value.string ⟨d.name.toArray⟩, .string ⟨d.url.toArray⟩, .string ⟨d.title.toArray⟩, .string ⟨d.text.toArray⟩, .bool d.note], u.oneCell' = true := by
  intro u hu; simp at hu; rcases hu with rfl | rfl | rfl | rfl | rfl <;> rfl

/-- A block of another kind is not the row's own. -/
theorem own_other {w : World} {base : Nat} {e T : TypeId} {size n P : Nat} {v : Value} {xs : List Value} {cs : Array Value} (h : w.ownsRow base e size v n xs) (hP : w.heap[P]? = some (.cells cs T (0, 0))) (he : e ≠ T) : some P ≠ v.ownBlock := by
  intro h0
  rcases h.2 with ⟨rfl, _⟩ | ⟨g, cap, cur, rfl, _, hg, _⟩
  · simp [Value.ownBlock] at h0
  · simp [Value.ownBlock] at h0
    subst h0
    rw [hg] at hP
    simp at hP
    exact he hP.2
theorem heap_cell {w w' : World} {k j : Nat} {u : Value} (h : w.cell? ⟨k, j, none⟩ = some u) (hk : w'.heap[k]? = w.heap[k]?) : w'.cell? ⟨k, j, none⟩ = some u := by
  rw [← h]; unfold World.cell?; rw [hk]
set_option maxHeartbeats 8000000 in
theorem add_any (B b : Nat) (ds : List DefL) (d : DefL) (w : World) (hT : TabOwn B w b ds) (hl : ds.length ≤ 1000000000) :
    Calls Tryz.prog 15 #[.pointer (some ⟨b, 0, none⟩), d.val] w fun e w' => e = .returned (.bool (addL ds d).2) ∧ TabOwn B w' b (addL ds d).1 ∧ Below B w w' := by
  obtain ⟨i0, hi, hz0, hz1, hz2⟩ := info_parts infoDef
  obtain ⟨hBb, sv, hb, ho⟩ := hT
  have hbl : b < w.heap.size := (Array.getElem?_eq_some_iff.1 hb).1
  have hb1 : Below w.heap.size w (w.alloc (.cells #[.string ⟨d.name.toArray⟩, .string ⟨d.url.toArray⟩, .string ⟨d.title.toArray⟩, .string ⟨d.text.toArray⟩, .bool d.note] 26)) := (Below.refl _ w).alloc (Nat.le_refl _) _
  have hh1 := (hb1.block b hbl).trans hb
  have ho1 := own_below ho hb1
  have hf := find_at b sv ds d.name d.note _ hh1 (own_mono ho1 (Nat.zero_le _)) hl
  have hk0 : (w.alloc (.cells #[.string ⟨d.name.toArray⟩, .string ⟨d.url.toArray⟩, .string ⟨d.title.toArray⟩, .string ⟨d.text.toArray⟩, .bool d.note] 26)).heap[w.heap.size]? = some (.cells #[.string ⟨d.name.toArray⟩, .string ⟨d.url.toArray⟩, .string ⟨d.title.toArray⟩, .string ⟨d.text.toArray⟩, .bool d.note] 26 (0, 0)) := heap_alloc_new w _
  have HF := Lib.hid hf
  have HX := Lib.hid (And.intro hb1 (And.intro hh1 (And.intro ho1 hk0)))
  have hnr : (some w.heap.size : Option Nat) ≠ sv.ownBlock := fun h => by have := (World.ownsRow.lt ho w.heap.size h.symm).2; omega
  clear hf hb1 hh1 ho1 hk0 ho hb
  show Calls Tryz.prog _ #[_, .agg #[.string ⟨d.name.toArray⟩, .string ⟨d.url.toArray⟩, .string ⟨d.title.toArray⟩, .string ⟨d.text.toArray⟩, .bool d.note]] w _
  go_enter Tryz.func15, Tryz.ntmps15
  go_wp2_with fail
  refine HF.out.mono ?_
  rintro e w2 ⟨n, rfl, hpost, b2⟩
  obtain ⟨hb1, hh1, ho1, hk0⟩ := HX.out
  have hB2 := below_step hb1 b2
  have hh2 := (b2.block b (by have := hb1.size; omega)).trans hh1
  have ho2 := own_below ho1 b2
  have hk2 := (b2.block _ (Array.getElem?_eq_some_iff.1 hk0).1).trans hk0
  clear HF HX hb1 hh1 ho1 hk0 b2
  rcases hpost with ⟨rfl, hlk⟩ | ⟨k, d2, rfl, hk, hd, hlk⟩
  · have HA := Lib.hid (show addL ds d = (ds ++ [d], true) by unfold addL; rw [hlk]; rfl)
    obtain ⟨sao, scap, hsv, _⟩ := own_slice ho2
    subst hsv
    have p0 := TabAt.cell hh2
    have hbl2 : b < w2.heap.size := (Array.getElem?_eq_some_iff.1 hh2).1
    have hdl2 : w.heap.size < w2.heap.size := (Array.getElem?_eq_some_iff.1 hk2).1
    obtain ⟨c0, c1, c2, c3, c4⟩ : w2.cell? ⟨w.heap.size, 0, none⟩ = some (.string ⟨d.name.toArray⟩) ∧ w2.cell? ⟨w.heap.size, 1, none⟩ = some (.string ⟨d.url.toArray⟩) ∧ w2.cell? ⟨w.heap.size, 2, none⟩ = some (.string ⟨d.title.toArray⟩) ∧ w2.cell? ⟨w.heap.size, 3, none⟩ = some (.string ⟨d.text.toArray⟩) ∧ w2.cell? ⟨w.heap.size, 4, none⟩ = some (.bool d.note) := by
      refine ⟨?_, ?_, ?_, ?_, ?_⟩ <;> (rw [cell_of_row w2 w.heap.size _ _ _ _ hk2]; rfl)
    have b2a := (Below.refl w2.heap.size w2).alloc (Nat.le_refl _) (.cells #[.string ⟨d.name.toArray⟩, .string ⟨d.url.toArray⟩, .string ⟨d.title.toArray⟩, .string ⟨d.text.toArray⟩, .bool d.note] 26)
    have p0a := (b2a.cell (p := ⟨b, 0, none⟩) hbl2).trans p0
    have a0 := (b2a.cell (p := ⟨w.heap.size, 0, none⟩) hdl2).trans c0
    have a1 := (b2a.cell (p := ⟨w.heap.size, 1, none⟩) hdl2).trans c1
    have a2 := (b2a.cell (p := ⟨w.heap.size, 2, none⟩) hdl2).trans c2
    have a3 := (b2a.cell (p := ⟨w.heap.size, 3, none⟩) hdl2).trans c3
    have a4 := (b2a.cell (p := ⟨w.heap.size, 4, none⟩) hdl2).trans c4
    have hoA := own_below ho2 b2a
    have hhA := (b2a.block b hbl2).trans hh2
    have hkA := (b2a.block w.heap.size hdl2).trans hk2
    have hBA := (hB2.mono (show B ≤ w.heap.size by omega)).trans (b2a.mono (show B ≤ w2.heap.size by omega))
    have hlA : w2.heap.size < (w2.alloc (.cells #[.string ⟨d.name.toArray⟩, .string ⟨d.url.toArray⟩, .string ⟨d.title.toArray⟩, .string ⟨d.text.toArray⟩, .bool d.note] 26)).heap.size := by simp
    have hnews := cells_new w2 [.string ⟨d.name.toArray⟩, .string ⟨d.url.toArray⟩, .string ⟨d.title.toArray⟩, .string ⟨d.text.toArray⟩, .bool d.note] 26 w2.heap.size rfl
    have hob : (some b : Option Nat) ≠ (Value.slice sao ds.length scap).ownBlock := own_other hoA hhA (by decide)
    have hbne : ¬ w.heap.size = b := by omega
    obtain ⟨WA, hWA⟩ : ∃ W, w2.alloc (.cells #[.string ⟨d.name.toArray⟩, .string ⟨d.url.toArray⟩, .string ⟨d.title.toArray⟩, .string ⟨d.text.toArray⟩, .bool d.note] 26) = W := ⟨_, rfl⟩
    have HA2 := Lib.hid (And.intro hoA (And.intro hhA (And.intro hkA (And.intro hBA (And.intro hnews hob)))))
    clear hlk hoA hhA hkA hBA hnews hob hWA WA b2a
    go_wp2_with fail
    go_region_law
      ((refine step_append_lies _ rfl (.tmp 20) (.tmp 22) 40 rfl B 26 i0 (.agg #[.string ⟨#[]⟩, .string ⟨#[]⟩, .string ⟨#[]⟩, .string ⟨#[]⟩, .bool false]) 5 72 Tryz.underlying40 hi hz0 hz1 hz2 rfl (by decide) (.slice sao ds.length scap) ds.length (defCells ds) rfl HA2.out.1 ⟨w2.heap.size, 0, none⟩ 1 1 [.string ⟨d.name.toArray⟩, .string ⟨d.url.toArray⟩, .string ⟨d.title.toArray⟩, .string ⟨d.text.toArray⟩, .bool d.note] rfl rfl HA2.out.2.2.2.2.1 (def_oneCell d) (by decide) (by unfold maxLen; omega) (by omega) ?_ _ rfl ?_
        · exact Nat.le_of_lt (Nat.lt_of_le_of_lt (show B ≤ w2.heap.size by omega) hlA)
        intro g cap w5 hown5 hgrow5 hat5 hlt5
        have hk5 := (hgrow5.block w.heap.size (Nat.lt_trans hdl2 hlA) hnr).trans HA2.out.2.2.1
        have hh5 := (hgrow5.block b (Nat.lt_trans hbl2 hlA) HA2.out.2.2.2.2.2).trans HA2.out.2.1
        have g0 := heap_cell a0 (hk5.trans HA2.out.2.2.1.symm)
        have g1 := heap_cell a1 (hk5.trans HA2.out.2.2.1.symm)
        have g2 := heap_cell a2 (hk5.trans HA2.out.2.2.1.symm)
        have g3 := heap_cell a3 (hk5.trans HA2.out.2.2.1.symm)
        have g4 := heap_cell a4 (hk5.trans HA2.out.2.2.1.symm)
        have p5 := TabAt.cell hh5
        have f5 := frozen_of_row w5 b 0 _ _ hh5
        have kk := Below.heap_setCell w5 ⟨b, 0, none⟩ (.slice (some ⟨g, 0, none⟩) (ds.length + 1) cap) w.heap.size hbne
        have k0 := heap_cell g0 kk
        have k1 := heap_cell g1 kk
        have k2 := heap_cell g2 kk
        have k3 := heap_cell g3 kk
        have k4 := heap_cell g4 kk))
    all_goals
      go_wp2_with fail
      go_ret
      refine ⟨by rw [HA.out]; rfl, ?_, (HA2.out.2.2.2.1.drew.grown hgrow5 (Nat.le_of_lt (Nat.lt_of_le_of_lt (show B ≤ w2.heap.size by omega) hlA)) (fun j hj => (HA2.out.1.lt j hj).1)).setCell (p := ⟨b, 0, none⟩) hBb _⟩
      rw [HA.out]
      refine ⟨hBb, .slice (some ⟨g, 0, none⟩) (ds.length + 1) cap, heap_setCell_same w5 b 0 _ _ _ hh5, ?_⟩
      rw [show (ds ++ [d]).length = ds.length + 1 by simp, defCells_snoc]
      exact own_setCell (a := ⟨b, 0, none⟩) hown5 hh5 (by decide) _
  · have HA := Lib.hid (show addL ds d = (ds, false) by unfold addL; rw [hlk]; rfl)
    have hk0 : (0 : Int) ≤ (k : Int) := by omega
    clear hlk hd
    go_wp2_with fail
    go_ret
    exact ⟨by rw [HA.out]; rfl, by rw [HA.out]; exact ⟨hBb, sv, hh2, ho2⟩, hB2.mono (by omega)⟩

end Go.Proofs.YtnlmfoccdmkncaaGreatDoor
