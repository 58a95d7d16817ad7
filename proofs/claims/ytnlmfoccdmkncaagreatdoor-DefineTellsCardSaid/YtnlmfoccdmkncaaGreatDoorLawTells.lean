/-
  DefineTells: every name, every line, every text: what is defined, what is left; lists kept, marked, grown: the walk of the law.
-/
import Derived.Test.YtnlmfoccdmkncaaGreatDoorDefD
import Derived.Test.YtnlmfoccdmkncaaGreatDoorRfTake
namespace Go.Proofs.YtnlmfoccdmkncaaGreatDoor
open Go.RowKit
set_option maxRecDepth 100000
set_option linter.unusedVariables false
set_option linter.unusedSimpArgs false

theorem take_len : ∀ (f : Nat) (l : List UInt8) (out : List DefL), (takeL f l out).1.length ≤ out.length + l.length
  | 0, l, out => by simp [takeL]
  | f + 1, l, out => by
    rw [takeL]
    split
    · simp
    · rename_i hl
      split
      · have h1 := take_len f (cutAt 10 l).2.1 (out ++ [(lineL (cutAt 10 l).1).1])
        have h2 := cut_less 10 l hl
        rw [List.length_append] at h1
        simp only [List.length_cons, List.length_nil] at h1
        omega
      · simp

set_option maxHeartbeats 16000000 in
theorem law_tells (name l s : ByteArray) (w : World) (hE : Env w) :
    Calls Tryz.prog 3 #[.string name, .string l, .string s] w fun e w' => e = .returned (.bool true) ∧ Below w.heap.size w w' := by
  by_cases hr : name.size ≤ 100 ∧ l.size ≤ 200 ∧ s.size ≤ 400
  · obtain ⟨h1, h2, h3⟩ := hr
    have h1' : ¬ (100 : Int) < (name.size : Int) := by omega
    have h2' : ¬ (200 : Int) < (l.size : Int) := by omega
    have h3' : ¬ (400 : Int) < (s.size : Int) := by omega
    have HE := Lib.hid hE
    have hn1 := fun W hW => name_any name W hW (by omega)
    have hn2 := fun W hW => rname_any name W hW (by omega)
    obtain ⟨a, ok, hnl⟩ : ∃ a ok, nameL name.data.toList = (a, ok) := ⟨_, _, rfl⟩
    rw [hnl] at hn1 hn2
    simp only at hn1 hn2
    have hl1 := fun W hW => line_any l W hW (by omega)
    have hl2 := fun W hW => rline_any l W hW (by omega)
    unfold LinePost at hl2
    obtain ⟨dd, on, hll⟩ : ∃ d b, lineL l.data.toList = (d, b) := ⟨_, _, rfl⟩
    rw [hll] at hl1 hl2
    simp only [DefL.val, defV] at hl1 hl2
    have HN1 := Lib.hid hn1
    have HN2 := Lib.hid hn2
    have HL1 := Lib.hid hl1
    have HL2 := Lib.hid hl2
    clear hE hn1 hn2 hl1 hl2 hnl hll
    go_enter Tryz.func3, Tryz.ntmps3
    go_wp2_with fail
    refine (alive11 _ HE.out).mono ?_
    rintro e w1 ⟨rfl, b1⟩
    go_wp2_with fail
    refine (HN1.out _ (HE.out.below b1)).mono ?_
    rintro e w2 ⟨rfl, b2⟩
    have hb2 := below_step b1 b2
    clear b1 b2
    go_wp2_with fail
    refine (HN2.out _ (HE.out.below hb2)).mono ?_
    rintro e w3 ⟨rfl, b3⟩
    have hb3 := below_step hb2 b3
    clear hb2 b3
    go_wp2_with fail
    refine (HL1.out _ (HE.out.below hb3)).mono ?_
    rintro e w4 ⟨rfl, b4⟩
    have hb4 := below_step hb3 b4
    clear hb3 b4
    obtain ⟨p1, hp1⟩ : ∃ p, w4.heap.size = p := ⟨_, rfl⟩
    obtain ⟨wA, hwA⟩ : ∃ W, w4.alloc (.cells #[.string ⟨dd.name.toArray⟩, .string ⟨dd.url.toArray⟩, .string ⟨dd.title.toArray⟩, .string ⟨dd.text.toArray⟩, .bool dd.note] 26) = W := ⟨_, rfl⟩
    have hbA : Below w.heap.size w wA := by rw [← hwA]; exact hb4.alloc hb4.size _
    have hkA : wA.heap[p1]? = some (.cells #[.string ⟨dd.name.toArray⟩, .string ⟨dd.url.toArray⟩, .string ⟨dd.title.toArray⟩, .string ⟨dd.text.toArray⟩, .bool dd.note] 26 (0, 0)) := by rw [← hwA, ← hp1]; exact heap_alloc_new w4 _
    have HA := Lib.hid hkA
    clear hb4 hkA
    go_wp2_with fail
    clear hwA hp1
    refine (HL2.out _ (HE.out.below hbA)).mono ?_
    rintro e w5 ⟨rfl, b5⟩
    have hb5 := below_step hbA b5
    have hk5 := (b5.block p1 (Array.getElem?_eq_some_iff.1 HA.out).1).trans HA.out
    clear hbA b5
    obtain ⟨p2, hp2⟩ : ∃ p, w5.heap.size = p := ⟨_, rfl⟩
    obtain ⟨wB, hwB⟩ : ∃ W, w5.alloc (.cells #[.string ⟨dd.name.toArray⟩, .string ⟨dd.url.toArray⟩, .string ⟨dd.title.toArray⟩, .string ⟨dd.text.toArray⟩, .bool dd.note] 26) = W := ⟨_, rfl⟩
    have bB : Below w5.heap.size w5 wB := by rw [← hwB]; exact (Below.refl _ _).alloc (Nat.le_refl _) _
    have hkB : wB.heap[p2]? = some (.cells #[.string ⟨dd.name.toArray⟩, .string ⟨dd.url.toArray⟩, .string ⟨dd.title.toArray⟩, .string ⟨dd.text.toArray⟩, .bool dd.note] 26 (0, 0)) := by rw [← hwB, ← hp2]; exact heap_alloc_new w5 _
    have hkB1 := (bB.block p1 (Array.getElem?_eq_some_iff.1 hk5).1).trans hk5
    have HB := Lib.hid (And.intro hkB1 (And.intro hkB (hb5.trans (bB.mono hb5.size))))
    clear hb5 hk5 bB hkB hkB1
    go_upto_block 0 with (fail)
    clear hwB hp2
    go_cut [15] (fun u15 wc => ∃ b, u15 = .bool b ∧ wc = wB)
    case first =>
      go_wp2_with fail
      go_loop [15, 16] (fun u15 u16 => ∃ (k : Nat) (b : Bool), k ≤ l.size ∧ u15 = .bool b ∧ u16 = .int .i64 k) (fun _ u16 => l.size - (intOf u16).toNat)
      case atStart => exact ⟨0, false, Nat.zero_le _, rfl, rfl⟩
      case round =>
        obtain ⟨k, b, hk, rfl, rfl⟩ := hrel
        by_cases hlt : k < l.size
        · have hltI : (k : Int) < (l.size : Int) := by omega
          obtain ⟨c, hc⟩ : ∃ c, l[k] = c := ⟨_, rfl⟩
          obtain ⟨e, he⟩ : ∃ e, ((c.toNat : Int) == 10) = e := ⟨_, rfl⟩
          cases b
          · go_wp2_with fail
            go_round
            case rel => exact ⟨k + 1, e, by omega, by first | rfl | simp_all, by go_num⟩
            case measure => simp [intOf]; omega
          · go_wp2_with fail
            go_round
            case rel => exact ⟨k + 1, true, by omega, rfl, by go_num⟩
            case measure => simp [intOf]; omega
        · obtain rfl : k = l.size := by omega
          go_wp2_with fail
          go_meet
          case rel => exact ⟨b, rfl, rfl⟩
    case rest =>
    obtain ⟨b, rfl, rfl⟩ := hcut
    go_upto_region 14 with (fail)
    go_cut [94] (fun u94 w' => u94 = .bool false ∧ w' = wc)
    case first =>
      have hx1 := HB.out.1
      have hx2 := HB.out.2.1
      obtain ⟨r0, r1, r2, r3, r4⟩ : wc.cell? ⟨p1, 0, none⟩ = some (.string ⟨dd.name.toArray⟩) ∧ wc.cell? ⟨p1, 1, none⟩ = some (.string ⟨dd.url.toArray⟩) ∧ wc.cell? ⟨p1, 2, none⟩ = some (.string ⟨dd.title.toArray⟩) ∧ wc.cell? ⟨p1, 3, none⟩ = some (.string ⟨dd.text.toArray⟩) ∧ wc.cell? ⟨p1, 4, none⟩ = some (.bool dd.note) := by refine ⟨?_, ?_, ?_, ?_, ?_⟩ <;> (rw [cell_of_row wc p1 _ _ _ _ hx1]; rfl)
      obtain ⟨t0, t1, t2, t3, t4⟩ : wc.cell? ⟨p2, 0, none⟩ = some (.string ⟨dd.name.toArray⟩) ∧ wc.cell? ⟨p2, 1, none⟩ = some (.string ⟨dd.url.toArray⟩) ∧ wc.cell? ⟨p2, 2, none⟩ = some (.string ⟨dd.title.toArray⟩) ∧ wc.cell? ⟨p2, 3, none⟩ = some (.string ⟨dd.text.toArray⟩) ∧ wc.cell? ⟨p2, 4, none⟩ = some (.bool dd.note) := by refine ⟨?_, ?_, ?_, ?_, ?_⟩ <;> (rw [cell_of_row wc p2 _ _ _ _ hx2]; rfl)
      clear hx1 hx2
      cases b
      · go_wp2_with fail
        go_meet
        case rel => exact ⟨rfl, rfl⟩
      · go_wp2_with fail
        go_meet
        case rel => exact ⟨rfl, rfl⟩
    case rest =>
    obtain ⟨rfl, hw'⟩ := hcut
    subst hw'
    obtain ⟨B, hBs⟩ : ∃ B, w.heap.size = B := ⟨_, rfl⟩
    obtain ⟨kb, hkb⟩ : ∃ p, wc.heap.size = p := ⟨_, rfl⟩
    have hBk : B ≤ kb := by have := HB.out.2.2.size; omega
    obtain ⟨W3, hW3⟩ : ∃ W3, wc.alloc (.cells #[.slice none 0 0, .slice none 0 0, .slice none 0 0, .slice none 0 0, .slice none 0 0, .slice none 0 0, .slice none 0 0, .slice none 0 0, .slice none 0 0, .slice none 0 0, .slice none 0 0, .slice none 0 0, .slice none 0 0, .slice none 0 0, .slice none 0 0, .slice none 0 0] 39) = W3 := ⟨_, rfl⟩
    have hb3 : Below w.heap.size w W3 := by rw [← hW3]; exact HB.out.2.2.alloc HB.out.2.2.size _
    have hk3 : BookAt W3 kb (.slice none 0 0) (.slice none 0 0) := by rw [← hW3, ← hkb]; exact heap_alloc_new wc _
    have hK3 := KeptB.new hBk hk3
    obtain ⟨ds, rst, hT⟩ : ∃ ds rst, takeL (s.size + 1) s.data.toList [] = (ds, rst) := ⟨_, _, rfl⟩
    have hdl : ds.length ≤ 400 := by
      have h0 := take_len (s.size + 1) s.data.toList []
      rw [hT, ← Lib.size_eq] at h0
      simp only [List.length_nil] at h0
      omega
    have ht1 := fun W hW => take_any s W hW (by omega)
    have ht2 := fun W hW => rtake_any s W hW (by omega)
    unfold TakePost at ht2
    rw [hT] at ht1 ht2
    simp only at ht1 ht2
    have HT1 := Lib.hid ht1
    have HT2 := Lib.hid ht2
    have HK := Lib.hid (And.intro hb3 hK3)
    clear ht1 ht2 hT hb3 hk3 hK3
    go_wp2_with fail
    clear hW3 hkb
    refine (HT1.out _ (HE.out.below HK.out.1)).mono ?_
    rintro e w6 ⟨x, rfl, hx6, b6⟩
    have hB6 := below_step HK.out.1 b6
    have hK6 := HK.out.2.below b6
    have hx6 := own_mono hx6 (by have := HK.out.1.size; omega : B ≤ W3.heap.size)
    have H6 := Lib.hid (And.intro hB6 (And.intro hK6 hx6))
    clear hB6 hK6 hx6 b6 HK
    go_wp2_with fail
    refine (HT2.out _ (HE.out.below H6.out.1)).mono ?_
    rintro e w7 ⟨y, rfl, hy7, b7⟩
    have hB7 := below_step H6.out.1 b7
    have hK7 := H6.out.2.1.below b7
    have hx7 := own_below H6.out.2.2 b7
    have hy7 := own_mono hy7 (by have := H6.out.1.size; omega : B ≤ w6.heap.size)
    have H7 := Lib.hid (And.intro hB7 (And.intro hK7 (And.intro hx7 hy7)))
    clear hB7 hK7 hx7 hy7 b7 H6
    go_wp2_with fail
    refine (HT1.out _ (HE.out.below H7.out.1)).mono ?_
    rintro e w8 ⟨z, rfl, hz8, b8⟩
    have hB8 := below_step H7.out.1 b8
    have hK8 := H7.out.2.1.below b8
    have hx8 := own_below H7.out.2.2.1 b8
    have hy8 := own_below H7.out.2.2.2 b8
    have hxz : x.ownBlock = none ∨ x.ownBlock ≠ z.ownBlock := ne_of_lt2 (fun q hq => (H7.out.2.2.1.lt q hq).2) (fun q hq => (hz8.lt q hq).1)
    have hz8 := own_mono hz8 (by have := H7.out.1.size; omega : B ≤ w7.heap.size)
    have hd8 := defs_any B kb [] ds x w8 hK8 hx8 (fun x hx => by cases hx) (by decide) (by omega) (by have := hB8.size; omega)
    have HD8 := Lib.hid hd8
    have H8 := Lib.hid (And.intro hB8 (And.intro hy8 (And.intro hz8 hxz)))
    clear hB8 hK8 hx8 hy8 hz8 hxz b8 hd8 H7
    go_wp2_with fail
    refine HD8.out.mono ?_
    rintro e w9 ⟨rfl, x', hK9, hs9, hb9, hf9⟩
    have hy9 := own_sub H8.out.2.1 hs9 (by decide) (by decide)
    have hz9 := own_sub H8.out.2.2.1 hs9 (by decide) (by decide)
    have hB9 : Below w.heap.size w w9 := H8.out.1.trans (by rw [hBs]; exact hb9)
    rw [List.nil_append] at hK9
    have hd9 := defs_any B kb [(x, x', ds)] ds z w9 hK9 hz9 (fun u hu => by rw [List.mem_singleton.1 hu]; exact H8.out.2.2.2) (by simp) (by omega) (by have := hB9.size; omega)
    have HD9 := Lib.hid hd9
    have H9 := Lib.hid (And.intro hB9 hy9)
    clear hB9 hy9 hz9 hK9 hs9 hb9 hf9 hd9 HD8 H8
    go_wp2_with fail
    refine HD9.out.mono ?_
    rintro e wA ⟨rfl, z', hKA, hsA, hbA, hfA⟩
    have hyA := own_sub H9.out.2 hsA (by decide) (by decide)
    have hBA : Below w.heap.size w wA := H9.out.1.trans (by rw [hBs]; exact hbA)
    have hxA := (hKA.rows (x, x', ds) (by simp)).1
    have HS := Lib.hid (sameDefs_yes ds x y wA (reads_own rfl hxA) (reads_own rfl hyA) (by omega))
    have HA := Lib.hid (And.intro hBA hKA)
    clear hyA hBA hxA hKA hsA hbA hfA HD9 H9
    go_wp2_with fail
    refine HS.out.mono ?_
    rintro e wD ⟨rfl, m, hwD⟩
    have bD : Below wA.heap.size wA wD := by rw [hwD]; exact below_drawn (Below.refl _ _) m
    clear hwD HS
    have hBD := below_step HA.out.1 bD
    have hap := apart_defs B kb ([(x, x', ds)] ++ [(z, z', ds)]) wD (HA.out.2.below bD) (by simp) (fun u hu => by
      rcases List.mem_append.1 hu with hu | hu <;> (rw [List.mem_singleton.1 hu]; show ds.length ≤ 50000; omega)) (by have := hBD.size; omega)
    have HAP := Lib.hid hap
    have HBD := Lib.hid hBD
    clear hap hBD bD HA
    go_wp2_with fail
    refine HAP.out.mono ?_
    rintro e wE ⟨rfl, bE⟩
    have HF := Lib.hid (HBD.out.trans (by rw [hBs]; exact bE))
    clear bE HAP HBD
    go_wp2_with fail
    go_ret
    exact ⟨rfl, HF.out⟩
  · have hcs : (100 : Int) < (name.size : Int) ∨ (¬ (100 : Int) < (name.size : Int) ∧ (200 : Int) < (l.size : Int)) ∨ (¬ (100 : Int) < (name.size : Int) ∧ ¬ (200 : Int) < (l.size : Int) ∧ (400 : Int) < (s.size : Int)) := by omega
    clear hr
    rcases hcs with t1 | ⟨t1, t2⟩ | ⟨t1, t2, t3⟩
    all_goals
      go_enter Tryz.func3, Tryz.ntmps3
      go_wp2_with fail
      refine (alive11 _ hE).mono ?_
      rintro e w1 ⟨rfl, b1⟩
      go_wp2_with fail
      go_ret
      exact ⟨rfl, b1⟩

end Go.Proofs.YtnlmfoccdmkncaaGreatDoor
