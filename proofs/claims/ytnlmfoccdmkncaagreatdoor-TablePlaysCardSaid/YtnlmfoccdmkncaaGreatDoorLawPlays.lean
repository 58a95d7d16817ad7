/-
  TablePlays: every definitions that are added, in every order: the first of a name counts; all of them; lists kept, marked, grown: the walk of the law.
-/
import Derived.Test.YtnlmfoccdmkncaaGreatDoorDefD
namespace Go.Proofs.YtnlmfoccdmkncaaGreatDoor
open Go.RowKit
set_option maxRecDepth 100000
set_option linter.unusedVariables false
set_option linter.unusedSimpArgs false

/-- The state at a round's head. -/
def PlayRel (w0 wr : World) (ds : List DefL) (tb kb i : Nat) (hv : Value) : Prop :=
  ∃ (L : List KeptV) (sv : Value), Plays wr w0.heap.size tb kb (tabTo (ds.take i)) (tabTo (ds.take i)) L sv hv ∧ L.length = i ∧ Below w0.heap.size w0 wr

def CutRel (w0 wc : World) (tb kb db : Nat) (H2 : List DefL) (L : List KeptV) (d : DefL) (hv : Value) : Prop :=
  ∃ sv : Value, Plays wc w0.heap.size tb kb H2 H2 L sv hv ∧ wc.heap[db]? = some (.cells #[.string ⟨d.name.toArray⟩, .string ⟨d.url.toArray⟩, .string ⟨d.title.toArray⟩, .string ⟨d.text.toArray⟩, .bool d.note] 26 (0, 0)) ∧ Below w0.heap.size w0 wc
/-- A definition's five cells at a block. -/
abbrev D5 (w : World) (k : Nat) (d : DefL) : Prop := w.cell? ⟨k, 0, none⟩ = some (.string ⟨d.name.toArray⟩) ∧ w.cell? ⟨k, 1, none⟩ = some (.string ⟨d.url.toArray⟩) ∧ w.cell? ⟨k, 2, none⟩ = some (.string ⟨d.title.toArray⟩) ∧ w.cell? ⟨k, 3, none⟩ = some (.string ⟨d.text.toArray⟩) ∧ w.cell? ⟨k, 4, none⟩ = some (.bool d.note)
theorem not_add (H : List DefL) (d : DefL) (b : Bool) (h : hasDef H d = b) : (addL H d).2 = !b := by
  rw [addL_eq, h]; cases b <;> rfl

theorem tabTo_succ (ds : List DefL) (i : Nat) (d : DefL) (h : ds[i]? = some d) : tabTo (ds.take (i + 1)) = (addL (tabTo (ds.take i)) d).1 := by
  obtain ⟨hl, he⟩ := List.getElem?_eq_some_iff.1 h
  unfold tabTo
  rw [List.take_succ_eq_append_getElem hl, he, List.foldl_append]
  rfl
theorem tabTo_len (ds : List DefL) : ∀ i, (tabTo (ds.take i)).length ≤ i
  | 0 => by simp [tabTo]
  | i + 1 => by
    by_cases h : i < ds.length
    · rw [tabTo_succ ds i _ (List.getElem?_eq_getElem h)]
      have := tabTo_len ds i
      have := add_len (tabTo (ds.take i)) ds[i]
      omega
    · have e : ds.take (i + 1) = ds.take i := by rw [List.take_of_length_le (by omega), List.take_of_length_le (by omega)]
      rw [e]
      have := tabTo_len ds i
      omega

set_option maxHeartbeats 16000000 in
theorem law_plays (a : Option Addr) (len cap : Nat) (ask : ByteArray) (w : World) (ds : List DefL) (hD : IsDefs w a len ds) (hE : Env w) :
    Calls Tryz.prog 4 #[.slice a len cap, .string ask] w fun e w' => e = .returned (.bool true) ∧ Below w.heap.size w w' := by
  by_cases hr : len ≤ 60 ∧ ask.size ≤ 100
  · obtain ⟨h1, h2⟩ := hr
    have h1' : ¬ (60 : Int) < (len : Int) := by omega
    have h2' : ¬ (100 : Int) < (ask.size : Int) := by omega
    have HE := Lib.hid hE
    have HD := Lib.hid hD
    clear hE hD
    go_enter Tryz.func4, Tryz.ntmps4
    go_wp2_with fail
    refine (alive11 _ HE.out).mono ?_
    rintro e w1 ⟨rfl, b1⟩
    obtain ⟨tb, htb⟩ : ∃ tb, w1.heap.size = tb := ⟨_, rfl⟩
    have hb2 := b1.alloc b1.size (.cells #[.slice none 0 0] 48)
    have ht2 : (w1.alloc (.cells #[.slice none 0 0] 48)).heap[tb]? = some (.cells #[.slice none 0 0] 48 (0, 0)) := by rw [← htb]; exact heap_alloc_new w1 _
    obtain ⟨w2, hw2⟩ : ∃ w2, w1.alloc (.cells #[.slice none 0 0] 48) = w2 := ⟨_, rfl⟩
    have hz2 : w2.heap.size = tb + 1 := by rw [← hw2, ← htb]; simp
    rw [hw2] at hb2 ht2
    have hb3 := hb2.alloc hb2.size (.cells (bookCells (.slice none 0 0) (.slice none 0 0)) 39)
    have hk3 : BookAt (w2.alloc (.cells (bookCells (.slice none 0 0) (.slice none 0 0)) 39)) (tb + 1) (.slice none 0 0) (.slice none 0 0) := by rw [← hz2]; exact heap_alloc_new w2 _
    have ht3 := ((Below.refl w2.heap.size w2).alloc (Nat.le_refl _) (.cells (bookCells (.slice none 0 0) (.slice none 0 0)) 39)).block tb (by omega) |>.trans ht2
    obtain ⟨W3, hW3⟩ : ∃ W3, w2.alloc (.cells #[.slice none 0 0, .slice none 0 0, .slice none 0 0, .slice none 0 0, .slice none 0 0, .slice none 0 0, .slice none 0 0, .slice none 0 0, .slice none 0 0, .slice none 0 0, .slice none 0 0, .slice none 0 0, .slice none 0 0, .slice none 0 0, .slice none 0 0, .slice none 0 0] 39) = W3 := ⟨_, rfl⟩
    have hrel0 : PlayRel w W3 ds tb (tb + 1) 0 (.slice none 0 0) := by
      have e3 : w2.alloc (.cells (bookCells (.slice none 0 0) (.slice none 0 0)) 39) = W3 := hW3
      rw [e3] at hb3 hk3 ht3
      have hsz := b1.size
      refine ⟨[], .slice none 0 0, ⟨by omega, ht3, World.ownsRow_nil _ _ _ _, World.ownsRow_nil _ _ _ _, KeptB.new (by omega) hk3, .inl rfl, (fun x hx => by cases hx), (fun x hx => by cases hx)⟩, rfl, hb3⟩
    have HR0 := Lib.hid hrel0
    have htw : w.heap.size ≤ tb := by have := b1.size; omega
    clear hb2 ht2 hb3 hk3 ht3 hrel0 b1
    go_wp2_with fail
    clear hW3 hw2 hz2 htb
    go_loopw [6, 42] (fun u6 u42 wr => ∃ i : Nat, i ≤ len ∧ u42 = .int .i64 i ∧ PlayRel w wr ds tb (tb + 1) i u6) (fun _ u42 _ => len - (intOf u42).toNat)
    case atStart => exact ⟨0, Nat.zero_le _, rfl, HR0.out⟩
    case round =>
      obtain ⟨i, hi, rfl, hP⟩ := hrel
      by_cases hlt : i < len
      · have hltI : (i : Int) < (len : Int) := by omega
        obtain ⟨hDl, hDr, hDb⟩ := HD.out
        obtain ⟨d, hd⟩ : ∃ d, ds[i]? = some d := ⟨ds[i]'(by omega), List.getElem?_eq_getElem _⟩
        obtain ⟨L, sv, hPl, hLl, hbel⟩ := hP
        obtain ⟨g, o, rfl⟩ := RowR.addr (hDr (by omega)) (by omega)
        obtain ⟨e0, e1, e2, e3, e4⟩ := ((hDr (by omega)).below hbel).dfn i d hd
        have hHl := tabTo_len ds i
        have hsucc := tabTo_succ ds i d hd
        obtain ⟨H, hH⟩ : ∃ H, tabTo (ds.take i) = H := ⟨_, rfl⟩
        rw [hH] at hPl hHl hsucc
        have HS := Lib.hid hsucc
        obtain ⟨hao, hc, rfl, _⟩ := own_slice hPl.hrow
        obtain ⟨db, hdb⟩ : ∃ db, wr.heap.size = db := ⟨_, rfl⟩
        obtain ⟨W1, hW1⟩ : ∃ W1, wr.alloc (.cells #[.string ⟨d.name.toArray⟩, .string ⟨d.url.toArray⟩, .string ⟨d.title.toArray⟩, .string ⟨d.text.toArray⟩, .bool d.note] 26) = W1 := ⟨_, rfl⟩
        have hb4 : Below wr.heap.size wr W1 := by rw [← hW1]; exact (Below.refl wr.heap.size wr).alloc (Nat.le_refl _) _
        have hd4 : W1.heap[db]? = some (.cells #[.string ⟨d.name.toArray⟩, .string ⟨d.url.toArray⟩, .string ⟨d.title.toArray⟩, .string ⟨d.text.toArray⟩, .bool d.note] 26 (0, 0)) := by rw [← hW1, ← hdb]; exact heap_alloc_new wr _
        have hP4 := hPl.below hb4
        have hdsv : ∀ q, sv.ownBlock = some q → q < db := fun q hq => by rw [← hdb]; exact (hPl.srow.lt q hq).2
        have hB4 : Below w.heap.size w W1 := hbel.trans (hb4.mono hbel.size)
        have hdw : w.heap.size ≤ db := by have := hbel.size; omega
        have n0 : W1.cell? ⟨db, 0, none⟩ = some (.string ⟨d.name.toArray⟩) := by rw [cell_of_row W1 db _ _ _ _ hd4]; rfl
        have HX := Lib.hid (And.intro hP4 (And.intro hd4 (And.intro hdsv (And.intro hB4 (And.intro hLl hd)))))
        obtain ⟨N, hN⟩ : ∃ N, H.length = N := ⟨_, rfl⟩
        rw [hN] at hHl ⊢
        have HN := Lib.hid hN
        clear hPl hb4 hd4 hP4 hdsv hB4 hLl hd hDl hDr hDb hbel hH hsucc hN
        by_cases tn : (100 : Int) < (d.name.length : Int)
        · go_wp2_with fail
          go_ret
          exact ⟨rfl, HX.out.2.2.2.1⟩
        go_wp2_with fail
        clear hW1 e0 e1 e2 e3 e4 hdb n0
        go_loopw [10, 52] (fun u10 u52 wr => ∃ (j : Nat) (b : Bool), j ≤ N ∧ u52 = .int .i64 j ∧ u10 = .bool b ∧ hasDef (H.take j) d = b ∧ Below W1.heap.size W1 wr) (fun _ u52 _ => N - (intOf u52).toNat)
        case atStart => exact ⟨0, false, Nat.zero_le _, rfl, rfl, rfl, Below.refl _ _⟩
        case round =>
          obtain ⟨j, b, hj, rfl, rfl, hb, hbW⟩ := hrel
          have hPw := HX.out.1.below hbW
          have hdk := (hbW.block db (Array.getElem?_eq_some_iff.1 HX.out.2.1).1).trans HX.out.2.1
          obtain ⟨c0, c1, c2, c3, c4⟩ : wr.cell? ⟨db, 0, none⟩ = some (.string ⟨d.name.toArray⟩) ∧ wr.cell? ⟨db, 1, none⟩ = some (.string ⟨d.url.toArray⟩) ∧ wr.cell? ⟨db, 2, none⟩ = some (.string ⟨d.title.toArray⟩) ∧ wr.cell? ⟨db, 3, none⟩ = some (.string ⟨d.text.toArray⟩) ∧ wr.cell? ⟨db, 4, none⟩ = some (.bool d.note) := by
            refine ⟨?_, ?_, ?_, ?_, ?_⟩ <;> (rw [cell_of_row wr db _ _ _ _ hdk]; rfl)
          by_cases hjN : j < N
          · have hjI : (j : Int) < (N : Int) := by omega
            obtain ⟨x, hx⟩ : ∃ x, H[j]? = some x := ⟨H[j]'(by have := HN.out; omega), List.getElem?_eq_getElem _⟩
            have hrr := (own_rowR hPw.hrow).2.1
            obtain ⟨gh, oh, rfl⟩ := RowR.addr hrr (by have := HN.out; omega)
            obtain ⟨q0, q1, q2, q3, q4⟩ := hrr.dfn j x hx
            have hsn := hasDef_snoc H j x d hx
            rw [hb] at hsn
            have HSN := Lib.hid hsn
            have hdl := (Array.getElem?_eq_some_iff.1 hdk).1
            have a0 : ∀ ob, (wr.alloc ob).cell? ⟨db, 0, none⟩ = some (.string ⟨d.name.toArray⟩) := fun ob => (((Below.refl wr.heap.size wr).alloc (Nat.le_refl _) ob).cell (p := ⟨db, 0, none⟩) hdl).trans c0
            have a4 : ∀ ob, (wr.alloc ob).cell? ⟨db, 4, none⟩ = some (.bool d.note) := fun ob => (((Below.refl wr.heap.size wr).alloc (Nat.le_refl _) ob).cell (p := ⟨db, 4, none⟩) hdl).trans c4
            have HBW := Lib.hid (hbW.alloc hbW.size (.cells #[.string ⟨x.name.toArray⟩, .string ⟨x.url.toArray⟩, .string ⟨x.title.toArray⟩, .string ⟨x.text.toArray⟩, .bool x.note] 26))
            clear hrr hPw hdk hx hb hbW hsn
            cases b
            · by_cases hq : x.name = d.name
              · obtain ⟨v, hv⟩ : ∃ v, (x.note == d.note) = v := ⟨_, rfl⟩
                have HF := Lib.hid (show hasDef (H.take (j + 1)) d = v by rw [HSN.out, hv, show (x.name == d.name) = true by simpa using hq]; simp)
                go_wp2_with fail
                go_roundw
                case rel => exact ⟨j + 1, v, by omega, by go_num, (by first | rfl | simp_all), HF.out, (by have := HBW.out; rwa [hq] at this)⟩
                case measure => simp [intOf]; omega
              · have HF := Lib.hid (show hasDef (H.take (j + 1)) d = false by rw [HSN.out, show (x.name == d.name) = false by simpa using hq]; simp)
                go_wp2_with fail
                go_roundw
                case rel => exact ⟨j + 1, false, by omega, by go_num, rfl, HF.out, HBW.out⟩
                case measure => simp [intOf]; omega
            · have HF := Lib.hid (show hasDef (H.take (j + 1)) d = true by rw [HSN.out]; rfl)
              go_wp2_with fail
              go_roundw
              case rel => exact ⟨j + 1, true, by omega, by go_num, rfl, HF.out, HBW.out⟩
              case measure => simp [intOf]; omega
          · obtain rfl : j = N := by omega
            have hbH : hasDef H d = b := by rw [← hb, List.take_of_length_le (by rw [HN.out]; exact Nat.le_refl _)]
            have hadd : Calls Tryz.prog 15 #[.pointer (some ⟨tb, 0, none⟩), .agg #[.string ⟨d.name.toArray⟩, .string ⟨d.url.toArray⟩, .string ⟨d.title.toArray⟩, .string ⟨d.text.toArray⟩, .bool d.note]] wr fun e w' => e = .returned (.bool (!b)) ∧ ∃ sv', w'.heap[tb]? = some (.cells #[sv'] 48 (0, 0)) ∧ w'.ownsRow w.heap.size 26 5 sv' (addL H d).1.length (defCells (addL H d).1) ∧ Below w.heap.size wr w' ∧ (∀ k, k < wr.heap.size → k ≠ tb → some k ≠ sv.ownBlock → w'.heap[k]? = wr.heap[k]?) ∧ (sv'.ownBlock = sv.ownBlock ∨ ∃ g, sv'.ownBlock = some g ∧ wr.heap.size ≤ g) := by
              have := add_keep w.heap.size tb sv H d wr hPw.le hPw.tab hPw.srow (by rw [HN.out]; omega)
              rw [not_add H d b hbH] at this
              exact this
            have HADD := Lib.hid hadd
            have HY := Lib.hid (And.intro hPw (And.intro hdk (And.intro hbW hbH)))
            clear hadd hPw hdk hbW hbH hb
            obtain ⟨wo, rfl⟩ : ∃ wo : World, wo = wr := ⟨_, rfl⟩
            go_wp2_with fail
            refine HADD.out.mono ?_
            rintro e w5 ⟨rfl, sv', t5, s5, b5, k5, l5⟩
            have hP5 := HY.out.1.add t5 s5 k5 l5
            have hne : db ≠ tb := fun e => by
              have := HY.out.1.tab
              rw [← e, HY.out.2.1] at this
              simp at this
            have hdk5 := (k5 db (Array.getElem?_eq_some_iff.1 HY.out.2.1).1 hne (fun e => by have := HX.out.2.2.1 db e.symm; omega)).trans HY.out.2.1
            have hB5 : Below w.heap.size w w5 := (HX.out.2.2.2.1.trans (HY.out.2.2.1.mono HX.out.2.2.2.1.size)).trans b5
            have HZ := Lib.hid (And.intro hP5 (And.intro hdk5 hB5))
            have HBH := Lib.hid HY.out.2.2.2
            clear t5 s5 b5 k5 l5 hP5 hdk5 hB5 hne c0 c1 c2 c3 c4 HADD HY
            go_upto_if 78 with (fail)
            go_cut [6] (fun u6 wc => CutRel w wc tb (tb + 1) db (addL H d).1 L d u6)
            case first =>
              cases b
              · obtain ⟨i0, hinf, hz0, hz1, hz2⟩ := info_parts infoDef
                have HA := Lib.hid (show addL H d = (H ++ [d], true) by rw [addL_eq, if_neg (by rw [HBH.out]; simp)])
                have hrow5 := own_rowR HZ.out.1.hrow
                have hdr := (Below.refl w5.heap.size w5).drew
                have dl5 := (Array.getElem?_eq_some_iff.1 HZ.out.2.1).1
                have cells5 : ∀ W' : World, W'.heap[db]? = w5.heap[db]? → D5 W' db d := by
                  intro W' hW'
                  have hk := hW'.trans HZ.out.2.1
                  refine ⟨?_, ?_, ?_, ?_, ?_⟩ <;> (rw [cell_of_row W' db _ _ _ _ hk]; rfl)
                obtain ⟨k0, k1, k2, k3, k4⟩ := cells5 w5.drew rfl
                have hrr5 := hrow5.2.1.below hdr
                rw [HN.out] at hrr5
                have HR5 := Lib.hid (And.intro hrr5 hrow5.2.2)
                have HC5 := Lib.hid cells5
                have done5 : ∀ (v7 : Value) (w7 : World), w7.ownsRow w5.heap.size 26 5 v7 (j + 1) (defCells H ++ d.cells) → Below w5.heap.size w5 w7 → CutRel w w7 tb (tb + 1) db (addL H d).1 L d v7 := by
                  intro v7 w7 ho hb7
                  have hP := HZ.out.1
                  rw [HA.out] at hP ⊢
                  refine ⟨sv', hP.have' hb7 (by have := HZ.out.2.2.size; omega) (by rw [List.length_append, HN.out, defCells_snoc]; exact ho), (hb7.block db dl5).trans HZ.out.2.1, HZ.out.2.2.trans (hb7.mono (by have := HZ.out.2.2.size; omega))⟩
                have HDN := Lib.hid done5
                have hone : ∀ u ∈ d.cells, u.oneCell' = true := def_oneCell d
                clear hrow5 cells5 done5 hrr5
                go_wp2_with fail
                refine wp_region_I (S := fun q W' => ([1].contains q = true) → D5 W' db d) (by kernel_rfl) ?_
                refine wpAnyI_take (S0 := fun _ => True) (i := 0) (v := ?_) rfl (by kernel_rfl) (by kernel_rfl) (by kernel_rfl) (by kernel_rfl) (List.range 6) (by kernel_rfl) (fun _ _ _ h => h) (fun _ _ h => absurd h (by decide)) (fun _ _ _ _ => trivial) (some 79) rfl (Or.inl ⟨by rfl, ?_⟩) trivial ?_
                rotate_left
                · intro w' _; go_simp <;> with_reducible rfl
                try simp only [Act.put, List.setIfInBounds_toArray, List.set_cons_zero, List.set_cons_succ]
                refine wpAnyI_take (S0 := fun W' => D5 W' db d) (i := 2) (v := ?_) rfl (by kernel_rfl) (by kernel_rfl) (by kernel_rfl) (by kernel_rfl) [1] (by kernel_rfl) (fun _ _ _ h => h) (fun _ h _ => h) (fun j hj _ h => h (by simp at hj ⊢ <;> omega)) (some 81) rfl (Or.inl ⟨by rfl, ?_⟩) ⟨k0, k1, k2, k3, k4⟩ ?_
                rotate_left
                · rintro w' ⟨s0, s1, s2, s3, s4⟩; go_simp <;> with_reducible rfl
                try simp only [Act.put, List.setIfInBounds_toArray, List.set_cons_zero, List.set_cons_succ]
                refine wpAnyI_two (i := 1) (j := 3) (by kernel_rfl) rfl rfl (fun K' hK => ?_) (fun K' hK => ?_)
                · have HKK := Lib.hid hK
                  clear hK
                  refine step_append_row w5.drew rfl (.const (.slice none 0 0)) (.tmp 79) 40 rfl w5.heap.size 26 i0 (.agg #[.string ⟨#[]⟩, .string ⟨#[]⟩, .string ⟨#[]⟩, .string ⟨#[]⟩, .bool false]) 5 72 Tryz.underlying40 hinf hz0 hz1 hz2 rfl (by decide) (.slice none 0 0) 0 [] rfl (World.ownsRow_nil _ _ _ _) hao j hc (defCells H) rfl HR5.out.1 HR5.out.2 (defCells_one H) (by unfold maxLen; omega) (by omega) (by simp) ?_
                  intro v6 w6 hown6 hgrow6 hlie6
                  have hown6' : w6.ownsRow w5.heap.size 26 5 v6 j (defCells H) := by simpa using hown6
                  have hb6 : Below w5.heap.size w5 w6 := hdr.grown hgrow6 (by simp) (fun q hq => by simp [Value.ownBlock] at hq)
                  have h66 := hb6.size
                  refine HKK.out _ _ ⟨fun _ => HC5.out w6 (hb6.block db dl5), ?_⟩
                  clear HKK K'
                  try simp only [Act.put, List.setIfInBounds_toArray, List.set_cons_zero, List.set_cons_succ, List.getElem_toArray, List.getElem_cons_zero, List.getElem_cons_succ]
                  refine wpAnyI_one (i := 3) (by kernel_rfl) rfl (fun K' hK => ?_)
                  have HKK := Lib.hid hK
                  clear hK
                  go_simp
                  refine HKK.out _ _ ⟨fun h => absurd h (by decide), ?_⟩
                  clear HKK K'
                  try simp only [Act.put, List.setIfInBounds_toArray, List.set_cons_zero, List.set_cons_succ, List.getElem_toArray, List.getElem_cons_zero, List.getElem_cons_succ]
                  refine wpAnyI_one (i := 4) (by kernel_rfl) rfl (fun K' hK => ?_)
                  have HKK := Lib.hid hK
                  clear hK
                  have hnews := cells_new w6 d.cells 26 w6.heap.size rfl
                  refine step_append_row _ rfl (.tmp 80) (.tmp 82) 40 rfl w5.heap.size 26 i0 (.agg #[.string ⟨#[]⟩, .string ⟨#[]⟩, .string ⟨#[]⟩, .string ⟨#[]⟩, .bool false]) 5 72 Tryz.underlying40 hinf hz0 hz1 hz2 rfl (by decide) v6 j (defCells H) rfl (hown6'.alloc _) (some ⟨w6.heap.size, 0, none⟩) 1 1 d.cells rfl ⟨rfl, (fun h => by cases h), (fun ad had => by obtain rfl := Option.some.inj had; exact ⟨rfl, hnews⟩)⟩ (fun h => by cases h) hone (by unfold maxLen; omega) (by omega) (by simp; omega) ?_
                  intro v7 w7 hown7 hgrow7 hlie7
                  have hb7 : Below w5.heap.size w5 w7 := (hb6.alloc hb6.size _).grown hgrow7 (by simp; omega) (fun q hq => (hown6'.lt q hq).1)
                  have HF := Lib.hid (HDN.out v7 w7 hown7 hb7)
                  refine HKK.out _ _ ⟨fun h => absurd h (by decide), ?_⟩
                  clear HKK K'
                  try simp only [Act.put, List.setIfInBounds_toArray, List.set_cons_zero, List.set_cons_succ, List.getElem_toArray, List.getElem_cons_zero, List.getElem_cons_succ]
                  refine wpAnyI_take (S0 := fun _ => True) (i := 5) (v := ?_) rfl (by kernel_rfl) (by kernel_rfl) (by kernel_rfl) (by kernel_rfl) (List.range 6) (by kernel_rfl) (fun _ _ _ h => h) (fun _ _ h => absurd h (by decide)) (fun _ _ _ _ => trivial) (some 6) rfl (Or.inl ⟨by rfl, ?_⟩) trivial ?_
                  rotate_left
                  · intro w' _; go_simp <;> with_reducible rfl
                  try simp only [Act.put, List.setIfInBounds_toArray, List.set_cons_zero, List.set_cons_succ]
                  refine wpAnyI_done (by kernel_rfl) ?_ _
                  go_wp2_with fail
                  go_meet
                  case rel => exact HF.out
                · have HKK := Lib.hid hK
                  clear hK
                  go_simp
                  refine HKK.out _ _ ⟨fun h => absurd h (by decide), ?_⟩
                  clear HKK K'
                  try simp only [Act.put, List.setIfInBounds_toArray, List.set_cons_zero, List.set_cons_succ, List.getElem_toArray, List.getElem_cons_zero, List.getElem_cons_succ]
                  have hb5a := hdr.alloc hdr.size (.cells #[.string ⟨d.name.toArray⟩, .string ⟨d.url.toArray⟩, .string ⟨d.title.toArray⟩, .string ⟨d.text.toArray⟩, .bool d.note] 26)
                  have hnews5 := cells_new w5.drew d.cells 26 w5.heap.size rfl
                  have hnl : w5.heap.size < (w5.drew.alloc (.cells #[.string ⟨d.name.toArray⟩, .string ⟨d.url.toArray⟩, .string ⟨d.title.toArray⟩, .string ⟨d.text.toArray⟩, .bool d.note] 26)).heap.size := by simp
                  refine wpAnyI_one (i := 1) (by kernel_rfl) rfl (fun K' hK => ?_)
                  have HKK := Lib.hid hK
                  clear hK
                  refine step_append_row _ rfl (.const (.slice none 0 0)) (.tmp 79) 40 rfl w5.heap.size 26 i0 (.agg #[.string ⟨#[]⟩, .string ⟨#[]⟩, .string ⟨#[]⟩, .string ⟨#[]⟩, .bool false]) 5 72 Tryz.underlying40 hinf hz0 hz1 hz2 rfl (by decide) (.slice none 0 0) 0 [] rfl (World.ownsRow_nil _ _ _ _) hao j hc (defCells H) rfl (HR5.out.1.below ((Below.refl w5.drew.heap.size w5.drew).alloc (Nat.le_refl _) _)) HR5.out.2 (defCells_one H) (by unfold maxLen; omega) (by omega) (by simp) ?_
                  intro v6 w6 hown6 hgrow6 hlie6
                  have hown6' : w6.ownsRow w5.heap.size 26 5 v6 j (defCells H) := by simpa using hown6
                  have hb6 : Below w5.heap.size w5 w6 := hb5a.grown hgrow6 (by simp) (fun q hq => by simp [Value.ownBlock] at hq)
                  have h66 := hb6.size
                  have hnews6 : ∀ q u, d.cells[q]? = some u → w6.cell? ((⟨w5.heap.size, 0, none⟩ : Addr).add q) = some u := by
                    intro q u hq
                    have h0 := hnews5 q u hq
                    rw [add_at _ rfl] at h0 ⊢
                    exact (World.cell?_of_block (hgrow6.block w5.heap.size hnl (by simp [Value.ownBlock]))).trans h0
                  refine HKK.out _ _ ⟨fun _ => HC5.out w6 (hb6.block db dl5), ?_⟩
                  clear HKK K'
                  try simp only [Act.put, List.setIfInBounds_toArray, List.set_cons_zero, List.set_cons_succ, List.getElem_toArray, List.getElem_cons_zero, List.getElem_cons_succ]
                  refine wpAnyI_one (i := 4) (by kernel_rfl) rfl (fun K' hK => ?_)
                  have HKK := Lib.hid hK
                  clear hK
                  refine step_append_row _ rfl (.tmp 80) (.tmp 82) 40 rfl w5.heap.size 26 i0 (.agg #[.string ⟨#[]⟩, .string ⟨#[]⟩, .string ⟨#[]⟩, .string ⟨#[]⟩, .bool false]) 5 72 Tryz.underlying40 hinf hz0 hz1 hz2 rfl (by decide) v6 j (defCells H) rfl hown6' (some ⟨w5.heap.size, 0, none⟩) 1 1 d.cells rfl ⟨rfl, (fun h => by cases h), (fun ad had => by obtain rfl := Option.some.inj had; exact ⟨rfl, hnews6⟩)⟩ (fun h => by cases h) hone (by unfold maxLen; omega) (by omega) hb6.size ?_
                  intro v7 w7 hown7 hgrow7 hlie7
                  have hb7 : Below w5.heap.size w5 w7 := hb6.grown hgrow7 hb6.size (fun q hq => (hown6'.lt q hq).1)
                  have HF := Lib.hid (HDN.out v7 w7 hown7 hb7)
                  refine HKK.out _ _ ⟨fun h => absurd h (by decide), ?_⟩
                  clear HKK K'
                  try simp only [Act.put, List.setIfInBounds_toArray, List.set_cons_zero, List.set_cons_succ, List.getElem_toArray, List.getElem_cons_zero, List.getElem_cons_succ]
                  refine wpAnyI_take (S0 := fun _ => True) (i := 5) (v := ?_) rfl (by kernel_rfl) (by kernel_rfl) (by kernel_rfl) (by kernel_rfl) (List.range 6) (by kernel_rfl) (fun _ _ _ h => h) (fun _ _ h => absurd h (by decide)) (fun _ _ _ _ => trivial) (some 6) rfl (Or.inl ⟨by rfl, ?_⟩) trivial ?_
                  rotate_left
                  · intro w' _; go_simp <;> with_reducible rfl
                  try simp only [Act.put, List.setIfInBounds_toArray, List.set_cons_zero, List.set_cons_succ]
                  refine wpAnyI_done (by kernel_rfl) ?_ _
                  go_wp2_with fail
                  go_meet
                  case rel => exact HF.out
              · have HA := Lib.hid (show addL H d = (H, false) by rw [addL_eq, if_pos HBH.out])
                go_wp2_with fail
                go_meet
                case rel => exact ⟨sv', (by have := HZ.out.1; rw [HA.out, HN.out] at this; rw [HA.out]; exact this), HZ.out.2.1, HZ.out.2.2⟩
            case rest =>
            obtain ⟨sv2, hPc, hdc, hBc⟩ := hcut
            have hH2l : (addL H d).1.length ≤ 61 := by have := add_len H d; rw [HN.out] at this; omega
            obtain ⟨H2, hH2⟩ : ∃ H2, (addL H d).1 = H2 := ⟨_, rfl⟩
            rw [hH2] at hPc hH2l
            have hsw : w.heap.size ≤ wc.heap.size := hBc.size
            obtain ⟨hao2, hc2, rfl, _⟩ := own_slice hPc.hrow
            have hall := all_any tb sv2 H2 w.heap.size wc hPc.tab hPc.srow (by omega)
            have HALL := Lib.hid hall
            have HP := Lib.hid (And.intro hPc (And.intro hdc (And.intro hBc hH2)))
            clear hPc hdc hBc hH2 hall HZ HBH
            go_wp2_with fail
            refine HALL.out.mono ?_
            rintro e w6 ⟨v, rfl, hown6, b6⟩
            obtain ⟨vao, vc, rfl, _⟩ := own_slice hown6
            have hP6 := HP.out.1.below b6
            have hdef := defs_any w.heap.size (tb + 1) L H2 (.slice vao H2.length vc) w6 hP6.kept (own_mono hown6 hsw) (fun x hx => ne_of_lt2 (fun q hq => ((HP.out.1.kept.rows x hx).1.lt q hq).2) (fun q hq => (hown6.lt q hq).1)) (by rw [HX.out.2.2.2.2.1]; omega) (by omega) (Nat.le_trans hsw b6.size)
            have HDEF := Lib.hid hdef
            have hdsv6 : Distinct (Value.slice vao H2.length vc).ownBlock sv2.ownBlock := Distinct.symm (ne_of_lt2 (fun q hq => (HP.out.1.srow.lt q hq).2) (fun q hq => (hown6.lt q hq).1))
            have HQ := Lib.hid (And.intro hP6 (And.intro b6 hdsv6))
            clear hP6 hown6 b6 hdef hdsv6 HALL
            go_wp2_with fail
            refine HDEF.out.mono ?_
            rintro e w7 ⟨rfl, v', hK7, hs7, hb7, hf7⟩
            have hP7 := HQ.out.1.defs hK7 hs7 HQ.out.2.2 hf7 (by omega)
            have hdk7 := hs7.block db _ ((HQ.out.2.1.block db (Array.getElem?_eq_some_iff.1 HP.out.2.1).1).trans HP.out.2.1) (fun cs t m ho => by simp only [Obj.cells.injEq] at ho; obtain ⟨_, rfl, _⟩ := ho; decide)
            have hB7 : Below w.heap.size w w7 := (HP.out.2.2.1.trans (HQ.out.2.1.mono hsw)).trans hb7
            have hv7 := (hK7.rows (Value.slice vao H2.length vc, v', H2) (by simp)).1
            have HSAME := Lib.hid (sameDefs_yes H2 (.slice vao H2.length vc) (.slice hao2 H2.length hc2) w7 (reads_own rfl hv7) (reads_own rfl hP7.hrow) (by omega))
            have HR := Lib.hid (And.intro hP7 (And.intro hdk7 hB7))
            clear hK7 hs7 hb7 hf7 hP7 hdk7 hB7 hv7 HDEF
            go_wp2_with fail
            refine HSAME.out.mono ?_
            rintro e w8' ⟨rfl, m, hw8'⟩
            have hb8 : Below w7.heap.size w7 w8' := by rw [hw8']; exact below_drawn (Below.refl _ _) m
            clear hw8' HSAME
            obtain ⟨w8, rfl⟩ : ∃ w8, w8 = w8' := ⟨_, rfl⟩
            have hP8 := HR.out.1.below hb8
            have hdk8 := (hb8.block db (Array.getElem?_eq_some_iff.1 HR.out.2.1).1).trans HR.out.2.1
            have hB8 : Below w.heap.size w w8 := HR.out.2.2.trans (hb8.mono HR.out.2.2.size)
            obtain ⟨nb, hnb⟩ : ∃ nb, w8.heap.size = nb := ⟨_, rfl⟩
            obtain ⟨w9, hw9⟩ : ∃ w9, w8.alloc (.cells #[.string ask, .string ⟨d.name.toArray⟩] 9) = w9 := ⟨_, rfl⟩
            have hb9 : Below w8.heap.size w8 w9 := by rw [← hw9]; exact (Below.refl _ _).alloc (Nat.le_refl _) _
            have hn9 : w9.heap[nb]? = some (.cells #[.string ask, .string ⟨d.name.toArray⟩] 9 (0, 0)) := by rw [← hw9, ← hnb]; exact heap_alloc_new w8 _
            have c0 : w8.cell? ⟨db, 0, none⟩ = some (.string ⟨d.name.toArray⟩) := by rw [cell_of_row w8 db _ _ _ _ hdk8]; rfl
            have HT := Lib.hid (And.intro (hP8.below hb9) (And.intro ((hb9.block db (Array.getElem?_eq_some_iff.1 hdk8).1).trans hdk8) (And.intro (hB8.trans (hb9.mono hB8.size)) hn9)))
            clear hP8 hdk8 hB8 hb9 hn9 hb8 HR HQ
            go_wp2_with fail
            clear hw9 hnb c0
            go_loopw [98] (fun u98 wr => ∃ q : Nat, q ≤ 2 ∧ u98 = .int .i64 q ∧ Below w9.heap.size w9 wr) (fun u98 _ => 2 - (intOf u98).toNat)
            case atStart => exact ⟨0, by omega, rfl, Below.refl _ _⟩
            case round =>
              obtain ⟨q, hq, rfl, hbr⟩ := hrel
              have hPr := HT.out.1.below hbr
              have hdkr := (hbr.block db (Array.getElem?_eq_some_iff.1 HT.out.2.1).1).trans HT.out.2.1
              have hnr := (hbr.block nb (Array.getElem?_eq_some_iff.1 HT.out.2.2.2).1).trans HT.out.2.2.2
              have hBr : Below w.heap.size w wr := HT.out.2.2.1.trans (hbr.mono HT.out.2.2.1.size)
              by_cases hq2 : q < 2
              · obtain ⟨x, hx, hxs⟩ : ∃ x : ByteArray, wr.cell? ⟨nb, q, none⟩ = some (.string x) ∧ x.size ≤ 1000 := by
                  have : q = 0 ∨ q = 1 := by omega
                  rcases this with rfl | rfl
                  · exact ⟨ask, by rw [cell_of_row wr nb _ _ _ _ hnr]; rfl, by omega⟩
                  · refine ⟨⟨d.name.toArray⟩, by rw [cell_of_row wr nb _ _ _ _ hnr]; rfl, ?_⟩
                    rw [Lib.size_eq]
                    simp
                    omega
                have c4 : wr.cell? ⟨db, 4, none⟩ = some (.bool d.note) := by rw [cell_of_row wr db _ _ _ _ hdkr]; rfl
                have hfi := find_any (.pointer (some ⟨tb, 0, none⟩)) (some H2) x d.note wr (HE.out.below hBr) ⟨tb, sv2, rfl, hPr.tab, own_mono hPr.srow (Nat.zero_le _)⟩ (fun ds' hds => by obtain rfl := Option.some.inj hds; omega) (by omega)
                have hrf := fun W (hW : Below wr.heap.size wr W) => rfind_any H2 (.slice hao2 H2.length hc2) x d.note W (HE.out.below (hBr.trans (hW.mono hBr.size))) (reads_own rfl (own_below hPr.hrow hW)) (by omega) (by omega)
                obtain ⟨dd, fb, hr⟩ : ∃ dd fb, findL (some H2) x.data.toList d.note = (dd, fb) := ⟨_, _, rfl⟩
                rw [hr] at hfi hrf
                simp only [DefL.val, defV] at hfi hrf
                have HFI := Lib.hid hfi
                have HRF := Lib.hid hrf
                have HU := Lib.hid (And.intro hdkr (And.intro hbr hBr))
                have hqI : (q : Int) < 2 := by omega
                clear hfi hrf hr hPr hdkr hnr hbr hBr
                go_wp2_with fail
                refine HFI.out.mono ?_
                rintro e w10 ⟨rfl, b10⟩
                obtain ⟨p16, hp16⟩ : ∃ p, w10.heap.size = p := ⟨_, rfl⟩
                obtain ⟨wA, hwA⟩ : ∃ W, w10.alloc (.cells #[.string ⟨dd.name.toArray⟩, .string ⟨dd.url.toArray⟩, .string ⟨dd.title.toArray⟩, .string ⟨dd.text.toArray⟩, .bool dd.note] 26) = W := ⟨_, rfl⟩
                have bA : Below wr.heap.size wr wA := by rw [← hwA]; exact b10.alloc b10.size _
                have hkA : wA.heap[p16]? = some (.cells #[.string ⟨dd.name.toArray⟩, .string ⟨dd.url.toArray⟩, .string ⟨dd.title.toArray⟩, .string ⟨dd.text.toArray⟩, .bool dd.note] 26 (0, 0)) := by rw [← hwA, ← hp16]; exact heap_alloc_new w10 _
                have c4A : wA.cell? ⟨db, 4, none⟩ = some (.bool d.note) := by rw [cell_of_row wA db _ _ _ _ ((bA.block db (Array.getElem?_eq_some_iff.1 HU.out.1).1).trans HU.out.1)]; rfl
                have HRA := Lib.hid (HRF.out wA bA)
                have HV := Lib.hid (And.intro bA hkA)
                clear b10 bA hkA c4 HFI HRF
                go_wp2_with fail
                refine HRA.out.mono ?_
                rintro e w11 ⟨rfl, b11⟩
                have hk11 := (b11.block p16 (Array.getElem?_eq_some_iff.1 HV.out.2).1).trans HV.out.2
                obtain ⟨p18, hp18⟩ : ∃ p, w11.heap.size = p := ⟨_, rfl⟩
                obtain ⟨wB, hwB⟩ : ∃ W, w11.alloc (.cells #[.string ⟨dd.name.toArray⟩, .string ⟨dd.url.toArray⟩, .string ⟨dd.title.toArray⟩, .string ⟨dd.text.toArray⟩, .bool dd.note] 26) = W := ⟨_, rfl⟩
                have bB : Below w11.heap.size w11 wB := by rw [← hwB]; exact (Below.refl _ _).alloc (Nat.le_refl _) _
                have hkB : wB.heap[p18]? = some (.cells #[.string ⟨dd.name.toArray⟩, .string ⟨dd.url.toArray⟩, .string ⟨dd.title.toArray⟩, .string ⟨dd.text.toArray⟩, .bool dd.note] 26 (0, 0)) := by rw [← hwB, ← hp18]; exact heap_alloc_new w11 _
                have hk16 := (bB.block p16 (Array.getElem?_eq_some_iff.1 hk11).1).trans hk11
                obtain ⟨r0, r1, r2, r3, r4⟩ : D5 wB p16 dd := by refine ⟨?_, ?_, ?_, ?_, ?_⟩ <;> (rw [cell_of_row wB p16 _ _ _ _ hk16]; rfl)
                obtain ⟨t0, t1, t2, t3, t4⟩ : D5 wB p18 dd := by refine ⟨?_, ?_, ?_, ?_, ?_⟩ <;> (rw [cell_of_row wB p18 _ _ _ _ hkB]; rfl)
                have HW := Lib.hid (show Below w9.heap.size w9 wB from HU.out.2.1.trans (((HV.out.1.trans (b11.mono HV.out.1.size)).trans (bB.mono (Nat.le_trans HV.out.1.size b11.size))).mono HU.out.2.1.size))
                clear b11 hk11 bB hkB hk16 c4A HRA HV HU hwA hp16
                go_wp2_with fail
                go_roundw
                case rel => exact ⟨q + 1, by omega, by go_num, HW.out⟩
                case measure => simp [intOf]; omega
              · obtain rfl : q = 2 := by omega
                have HF := Lib.hid (show PlayRel w wr ds tb (tb + 1) (i + 1) (.slice hao2 H2.length hc2) from ⟨_, sv2, (by rw [HS.out, HP.out.2.2.2]; exact hPr), (by rw [List.length_append, HX.out.2.2.2.2.1]; rfl), hBr⟩)
                clear hPr hdkr hnr hbr hBr
                go_wp2_with fail
                go_roundw
                case rel => exact ⟨i + 1, by omega, by go_num, HF.out⟩
                case measure => simp [intOf]; omega
      · obtain rfl : i = len := by omega
        obtain ⟨L, sv, hPl, hLl, hbel⟩ := hP
        have hfi : Calls Tryz.prog 17 #[.pointer none, .string ⟨#[97]⟩, .bool false] wr fun e w' => e = .returned (.tuple #[.agg #[.string ⟨#[]⟩, .string ⟨#[]⟩, .string ⟨#[]⟩, .string ⟨#[]⟩, .bool false], .bool false]) ∧ Below wr.heap.size wr w' := find_any (.pointer none) none ⟨#[97]⟩ false wr (HE.out.below hbel) rfl (fun ds' hds => by cases hds) (by decide)
        have had : ∀ W, Calls Tryz.prog 15 #[.pointer none, .agg #[.string ⟨#[97]⟩, .string ⟨#[]⟩, .string ⟨#[]⟩, .string ⟨#[]⟩, .bool false]] W fun e w' => e = .returned (.bool false) ∧ Below W.heap.size W w' := fun W => add_nil ⟨[97], [], [], [], false⟩ W
        have HFI := Lib.hid hfi
        have HAD := Lib.hid had
        have HP := Lib.hid (And.intro hPl (And.intro hLl hbel))
        clear hfi had hPl hLl hbel
        go_wp2_with fail
        refine HFI.out.mono ?_
        rintro e w2 ⟨rfl, b2⟩
        have b3 := b2.alloc b2.size (.cells #[.string ⟨#[]⟩, .string ⟨#[]⟩, .string ⟨#[]⟩, .string ⟨#[]⟩, .bool false] 26)
        go_wp2_with fail
        refine (HAD.out _).mono ?_
        rintro e w4 ⟨rfl, b4⟩
        have b5 := b3.trans (b4.mono b3.size)
        go_wp2_with (first | (go_at_call 16; refine (all_nil _).mono ?_; rintro e w' ⟨rfl, rfl⟩))
        refine (apart_defs w.heap.size (tb + 1) L _ (HP.out.1.kept.below b5) (by rw [HP.out.2.1]; omega) HP.out.1.small (Nat.le_trans HP.out.2.2.size b5.size)).mono ?_
        rintro e w6 ⟨rfl, b6⟩
        have HB := Lib.hid ((HP.out.2.2.trans (b5.mono HP.out.2.2.size)).trans b6)
        clear b2 b3 b4 b5 b6
        go_wp2_with fail
        go_ret
        exact ⟨rfl, HB.out⟩
  · have hcs : (60 : Int) < (len : Int) ∨ (¬ (60 : Int) < (len : Int) ∧ (100 : Int) < (ask.size : Int)) := by omega
    clear hr
    rcases hcs with t1 | ⟨t1, t2⟩
    all_goals
      go_enter Tryz.func4, Tryz.ntmps4
      go_wp2_with fail
      refine (alive11 _ hE).mono ?_
      rintro e w1 ⟨rfl, b1⟩
      go_wp2_with fail
      go_ret
      exact ⟨rfl, b1⟩

end Go.Proofs.YtnlmfoccdmkncaaGreatDoor
