/-
  InlineNotes: a note is asked for just if it is there; a section always may be: the walk of the law.
-/
import Derived.Test.YtjglliicclfkfaaGreatDoorInlG
import Derived.Deep.QuietTactic
import Derived.BigQuiet
namespace Go.Proofs.YtjglliicclfkfaaGreatDoor
open Go.RowKit
set_option maxRecDepth 100000
set_option linter.unusedVariables false
set_option linter.unusedSimpArgs false

/-- A new table. -/
theorem tab_new (w : World) : TabOwn w.heap.size (w.alloc (.cells #[.slice none 0 0] 36)) w.heap.size [] := ⟨Nat.le_refl _, _, heap_alloc_new w _, World.ownsRow_nil _ _ _ _⟩
/-- A text of one node. -/
theorem parse_one (Y : ByteArray) (tv : Value) (t : Option (List DefL)) (x : Inl) (W : World) (hE : Env W) (hT : TabAt W tv t) (hl : ∀ ds, t = some ds → ds.length ≤ 1000000000) (hS : Y.size ≤ 100000) (hp : parse0 t Y.data.toList = [x]) :
    Calls Tryz.prog 10 #[.string Y, .slice none 0 0, tv] W fun e w' => ∃ g cap, e = .returned (.slice (some ⟨g, 0, none⟩) 1 cap) ∧ g < w'.heap.size ∧
      (w'.cell? ⟨g, 0, none⟩ = some (.int .i64 (x.kind : Int)) ∧ w'.cell? ⟨g, 1, none⟩ = some (.int .i64 (x.depth : Int)) ∧ w'.cell? ⟨g, 2, none⟩ = some (.string ⟨x.text.toArray⟩) ∧ w'.cell? ⟨g, 3, none⟩ = some (.string ⟨x.url.toArray⟩) ∧ w'.cell? ⟨g, 4, none⟩ = some (.string ⟨x.title.toArray⟩)) ∧ Below W.heap.size W w' := by
  refine (parse0_any Y tv t W hE hT hl hS).mono ?_
  rintro e w' ⟨v, rfl, hI, hb⟩
  rw [hp] at hI
  obtain ⟨g, cap, rfl, hg, hc⟩ := inls_at hI (by simp)
  exact ⟨g, cap, rfl, hg, hc 0 _ rfl, hb⟩

set_option maxHeartbeats 4000000 in
theorem law_notes (name : ByteArray) (known : Bool) (w : World) (hE : Env w) :
    Calls Tryz.prog 6 #[.string name, .bool known] w fun e w' => e = .returned (.bool true) ∧ Below w.heap.size w w' := by
  by_cases h0 : 0 < name.size
  · have he := empty_no h0
    by_cases h20 : (20 : Int) < (name.size : Int)
    · go_enter Tryz.func6, Tryz.ntmps6
      go_wp2_with fail
      refine (alive15 _ hE).mono ?_
      rintro e w1 ⟨rfl, b1⟩
      go_wp2_with fail
      go_ret
      exact ⟨rfl, b1⟩
    · have HE := Lib.hid hE
      clear hE
      go_enter Tryz.func6, Tryz.ntmps6
      go_wp2_with fail
      refine (alive15 _ HE.out).mono ?_
      rintro e w1 ⟨rfl, b1⟩
      go_wp2_with fail
      go_loop [5] (fun ui => ∃ i : Nat, i ≤ (name).size ∧ ui = .int .i64 i ∧ Letters ((name).data.toList.take i)) (fun ui => (name).size - (intOf ui).toNat)
      case atStart => exact ⟨0, Nat.zero_le _, rfl, fun b hb => by simp at hb⟩
      case round =>
        obtain ⟨i, hi, rfl, hl⟩ := hrel
        have HL := Lib.hid hl
        clear hl
        by_cases hlt : i < (name).size
        · have hg := Lib.data_getElem? name i hlt
          obtain ⟨d, hd⟩ : ∃ d, (name)[i] = d := ⟨_, rfl⟩
          rw [hd] at hg
          have HG := Lib.hid hg
          clear hg
          by_cases t1 : (d.toNat : Int) < 97
          · go_wp2_with fail
            go_ret
            exact ⟨rfl, b1⟩
          · by_cases t2 : (122 : Int) < (d.toNat : Int)
            · go_wp2_with fail
              go_ret
              exact ⟨rfl, b1⟩
            · have HN := Lib.hid (letters_take HL.out HG.out (by omega))
              go_wp2_with fail
              go_round
              case rel => exact ⟨i + 1, by omega, by go_num, HN.out⟩
              case measure => simp [intOf]; omega
        · obtain rfl : i = name.size := by omega
          have hln : Letters name.data.toList := by have := HL.out; rwa [take_all] at this
          have hn0 : name.data.toList ≠ [] := by intro h; rw [Lib.size_eq, h] at h0; exact absurd h0 (by simp)
          have hnz : name.data.toList.length ≤ 20 := by rw [← Lib.size_eq]; omega
          have hbt := b1.alloc b1.size (.cells #[.slice none 0 0] 36)
          have hTN := tab_new w1
          have hsize : ∀ (Y : ByteArray) (a b : UInt8), Y.data.toList = a :: b :: (name.data.toList ++ [93]) → Y.size ≤ 100000 := fun Y a b hY => by
            rw [Lib.size_eq, hY]; simp; omega
          have k2 : ∀ (ds : List DefL) (hds : ds.length ≤ 1000000000) (Y : ByteArray) W', Y.data.toList = 91 :: 35 :: (name.data.toList ++ [93]) → Env W' → TabAt W' (.pointer (some ⟨w1.heap.size, 0, none⟩)) (some ds) → Calls Tryz.prog 10 #[.string Y, .slice none 0 0, .pointer (some ⟨w1.heap.size, 0, none⟩)] W' fun e w' => ∃ g cap, e = .returned (.slice (some ⟨g, 0, none⟩) 1 cap) ∧ g < w'.heap.size ∧
              (w'.cell? ⟨g, 0, none⟩ = some (.int .i64 11) ∧ w'.cell? ⟨g, 1, none⟩ = some (.int .i64 0) ∧ w'.cell? ⟨g, 2, none⟩ = some (.string name) ∧ w'.cell? ⟨g, 3, none⟩ = some (.string ⟨#[]⟩) ∧ w'.cell? ⟨g, 4, none⟩ = some (.string ⟨#[]⟩)) ∧ Below W'.heap.size W' w' := fun ds hds Y W' hY hW' hT' => by
            have := parse_one Y _ (some ds) ⟨11, 0, name.data.toList, [], []⟩ W' hW' hT' (fun d h => by injection h with h; subst h; exact hds) (hsize Y _ _ hY) (by rw [hY]; exact cross_plain (some ds) name.data.toList hln hn0)
            simp only [Lib.mk_data] at this
            exact this
          cases known
          · have k1 : ∀ (Y : ByteArray) W', Y.data.toList = 91 :: 94 :: (name.data.toList ++ [93]) → Env W' → TabAt W' (.pointer (some ⟨w1.heap.size, 0, none⟩)) (some []) → Calls Tryz.prog 10 #[.string Y, .slice none 0 0, .pointer (some ⟨w1.heap.size, 0, none⟩)] W' fun e w' => ∃ g cap, e = .returned (.slice (some ⟨g, 0, none⟩) 1 cap) ∧ g < w'.heap.size ∧
                (w'.cell? ⟨g, 0, none⟩ = some (.int .i64 1) ∧ w'.cell? ⟨g, 1, none⟩ = some (.int .i64 0) ∧ w'.cell? ⟨g, 2, none⟩ = some (.string Y) ∧ w'.cell? ⟨g, 3, none⟩ = some (.string ⟨#[]⟩) ∧ w'.cell? ⟨g, 4, none⟩ = some (.string ⟨#[]⟩)) ∧ Below W'.heap.size W' w' := fun Y W' hY hW' hT' => by
              have hp := notes_plain name.data.toList false hln hn0 hnz
              rw [← hY] at hp
              have := parse_one Y _ (some []) (wordsI Y.data.toList) W' hW' hT' (fun d h => by injection h with h; subst h; simp) (hsize Y _ _ hY) hp
              simp only [wordsI, Lib.mk_data] at this
              exact this
            have K1 := Lib.hid k1
            have K2 := Lib.hid (k2 [] (by simp))
            have HT := Lib.hid (And.intro hbt (show TabOwn w1.heap.size (w1.alloc (.cells #[.slice none 0 0] 36)) w1.heap.size [] from hTN))
            clear k1 k2 hsize hln hn0 hnz hbt hTN HL
            go_wp2_with fail
            refine (K1.out _ _ (by simp only [app_list]; simp) (HE.out.below HT.out.1) HT.out.2.at').mono ?_
            rintro e w2 ⟨g, cap, rfl, hg, ⟨d0, d1, d2, d3, d4⟩, b2⟩
            have hT2 := HT.out.2.below b2
            have hB2 := HT.out.1.trans (b2.mono HT.out.1.size)
            have HT2 := Lib.hid (And.intro hB2 hT2)
            clear hT2 hB2 b2
            go_wp2_with fail
            refine (K2.out _ _ (by simp only [app_list]; simp) (HE.out.below HT2.out.1) HT2.out.2.at').mono ?_
            rintro e w3 ⟨g3, cap3, rfl, hg3, ⟨e0, e1, e2, e3, e4⟩, b3⟩
            have d0 := (b3.cell (p := ⟨g, 0, none⟩) hg).trans d0
            have d1 := (b3.cell (p := ⟨g, 1, none⟩) hg).trans d1
            have d2 := (b3.cell (p := ⟨g, 2, none⟩) hg).trans d2
            have d3 := (b3.cell (p := ⟨g, 3, none⟩) hg).trans d3
            have d4 := (b3.cell (p := ⟨g, 4, none⟩) hg).trans d4
            have hg2 : g < w3.heap.size := Nat.lt_of_lt_of_le hg b3.size
            have hB3 := HT2.out.1.trans (b3.mono HT2.out.1.size)
            clear b3
            go_wp2_with fail
            go_quiet (fail)
            go_wp2_with fail
            go_ret
            exact ⟨rfl, (hB3.alloc hB3.size _).trans ((below_drewN _ _).mono (by have := hB3.size; simp; omega))⟩
          · have k1 : ∀ (Y : ByteArray) W', Y.data.toList = 91 :: 94 :: (name.data.toList ++ [93]) → Env W' → TabAt W' (.pointer (some ⟨w1.heap.size, 0, none⟩)) (some [noteDef name.data.toList]) → Calls Tryz.prog 10 #[.string Y, .slice none 0 0, .pointer (some ⟨w1.heap.size, 0, none⟩)] W' fun e w' => ∃ g cap, e = .returned (.slice (some ⟨g, 0, none⟩) 1 cap) ∧ g < w'.heap.size ∧
                (w'.cell? ⟨g, 0, none⟩ = some (.int .i64 10) ∧ w'.cell? ⟨g, 1, none⟩ = some (.int .i64 0) ∧ w'.cell? ⟨g, 2, none⟩ = some (.string name) ∧ w'.cell? ⟨g, 3, none⟩ = some (.string ⟨#[]⟩) ∧ w'.cell? ⟨g, 4, none⟩ = some (.string ⟨#[]⟩)) ∧ Below W'.heap.size W' w' := fun Y W' hY hW' hT' => by
              have hp := notes_plain name.data.toList true hln hn0 hnz
              rw [← hY] at hp
              have := parse_one Y _ (some [noteDef name.data.toList]) ⟨10, 0, name.data.toList, [], []⟩ W' hW' hT' (fun d h => by injection h with h; subst h; simp) (hsize Y _ _ hY) hp
              simp only [Lib.mk_data] at this
              exact this
            have hadd := add_any w1.heap.size w1.heap.size [] (noteDef name.data.toList) _ hTN (by simp)
            rw [show addL [] (noteDef name.data.toList) = ([noteDef name.data.toList], true) from rfl] at hadd
            simp only [DefL.val, defV, noteDef, Lib.mk_data] at hadd
            have HADD := Lib.hid hadd
            have K1 := Lib.hid k1
            have K2 := Lib.hid (k2 [noteDef name.data.toList] (by simp))
            have HBT := Lib.hid hbt
            clear k1 k2 hsize hln hn0 hnz hbt hTN HL hadd
            go_wp2_with fail
            refine HADD.out.mono ?_
            rintro e wt ⟨rfl, hTN, bt⟩
            have HT := Lib.hid (And.intro (HBT.out.trans (bt.mono b1.size)) (show TabOwn w1.heap.size wt w1.heap.size [noteDef name.data.toList] from hTN))
            clear hTN bt HADD HBT
            go_wp2_with fail
            refine (K1.out _ _ (by simp only [app_list]; simp) (HE.out.below HT.out.1) HT.out.2.at').mono ?_
            rintro e w2 ⟨g, cap, rfl, hg, ⟨d0, d1, d2, d3, d4⟩, b2⟩
            have hT2 := HT.out.2.below b2
            have hB2 := HT.out.1.trans (b2.mono HT.out.1.size)
            have HT2 := Lib.hid (And.intro hB2 hT2)
            clear hT2 hB2 b2
            go_wp2_with fail
            refine (K2.out _ _ (by simp only [app_list]; simp) (HE.out.below HT2.out.1) HT2.out.2.at').mono ?_
            rintro e w3 ⟨g3, cap3, rfl, hg3, ⟨e0, e1, e2, e3, e4⟩, b3⟩
            have d0 := (b3.cell (p := ⟨g, 0, none⟩) hg).trans d0
            have d1 := (b3.cell (p := ⟨g, 1, none⟩) hg).trans d1
            have d2 := (b3.cell (p := ⟨g, 2, none⟩) hg).trans d2
            have d3 := (b3.cell (p := ⟨g, 3, none⟩) hg).trans d3
            have d4 := (b3.cell (p := ⟨g, 4, none⟩) hg).trans d4
            have hg2 : g < w3.heap.size := Nat.lt_of_lt_of_le hg b3.size
            have hB3 := HT2.out.1.trans (b3.mono HT2.out.1.size)
            clear b3
            go_wp2_with fail
            go_quiet (fail)
            go_wp2_with fail
            go_ret
            exact ⟨rfl, (hB3.alloc hB3.size _).trans ((below_drewN _ _).mono (by have := hB3.size; simp; omega))⟩
  · have he := empty_yes (s := name) (by omega)
    go_enter Tryz.func6, Tryz.ntmps6
    go_wp2_with fail
    refine (alive15 _ hE).mono ?_
    rintro e w1 ⟨rfl, b1⟩
    go_wp2_with fail
    go_ret
    exact ⟨rfl, b1⟩

end Go.Proofs.YtjglliicclfkfaaGreatDoor
