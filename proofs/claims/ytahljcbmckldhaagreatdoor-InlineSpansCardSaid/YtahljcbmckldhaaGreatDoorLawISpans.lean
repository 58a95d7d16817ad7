/-
  InlineSpans: what stands in a span is paired with nothing outside of it: the walk of the law.
-/
import Derived.Test.YtahljcbmckldhaaGreatDoorInlG
import Derived.Test.YtahljcbmckldhaaGreatDoorSpanLaw
import Derived.Deep.QuietTactic
import Derived.BigQuiet
namespace Go.Proofs.YtahljcbmckldhaaGreatDoor
open Go.RowKit
set_option maxRecDepth 100000
set_option linter.unusedVariables false
set_option linter.unusedSimpArgs false

/-- A literal row of one atom, new. -/
theorem AtomsAt.new (w : World) (x : AtomT) (b : Nat) (hb : b = w.heap.size) : AtomsAt (w.alloc (.cells #[.string ⟨x.label.toArray⟩, .string ⟨x.text.toArray⟩] 34)) (.slice (some ⟨b, 0, none⟩) 1 1) [x] := by
  subst hb
  have h := World.ownsRow_lit (base := 0) (e := 34) (size := 2) w #[.string ⟨x.label.toArray⟩, .string ⟨x.text.toArray⟩] 1 (Nat.zero_le _) (by unfold maxLen; omega) rfl
  obtain ⟨ao, c, hv, hR, _⟩ := own_slice h
  injection hv with h1 _ h2
  subst h1 h2
  exact ⟨_, _, rfl, fun _ => hR⟩

/-- Where the span's node is, and what stands behind it. -/
structure SpanIn (n alone : List Inl) (d I : Nat) : Prop where
  ahead : ∀ k x, k < I → n[k]? = some x → x.kind ≠ 12
  node : n[I]? = some ⟨12, d, [108], [], []⟩
  inner : ∀ k x, alone[k]? = some x → n[I + 1 + k]? = some { x with depth := x.depth + (d + 1) }
  room : I + 1 + alone.length ≤ n.length
  behind : ∀ x, n[I + 1 + alone.length]? = some x → x.depth ≤ d
theorem span_facts {alone n : List Inl} (h : Lies (⟨12, 0, [108], [], []⟩ :: deeperL alone) n) : ∃ d I, SpanIn n alone d I := by
  obtain ⟨d, A, B, rfl, hA, hB, hh⟩ := h
  have hl : (shiftL d (⟨12, 0, [108], [], []⟩ :: deeperL alone)).length = alone.length + 1 := by unfold shiftL deeperL; simp
  refine ⟨d, A.length, ?_, ?_, ?_, ?_, ?_⟩
  · intro k x hk hx
    rw [List.getElem?_append_left hk] at hx
    exact hA x (List.mem_of_getElem? hx)
  · rw [List.getElem?_append_right (Nat.le_refl _), Nat.sub_self]
    show some _ = _
    simp
  · intro k x hx
    have hk := (List.getElem?_eq_some_iff.1 hx).1
    rw [List.getElem?_append_right (by omega), List.getElem?_append_left (by rw [hl]; omega)]
    rw [show A.length + 1 + k - A.length = k + 1 by omega]
    unfold shiftL deeperL
    rw [List.map_cons, List.getElem?_cons_succ, List.map_map, List.getElem?_map, hx]
    simp only [Option.map_some, Function.comp_apply, deep1]
    congr 2
    omega
  · rw [List.length_append, List.length_append, hl]; omega
  · intro x hx
    rw [List.getElem?_append_right (by omega), List.getElem?_append_right (by rw [hl]; omega)] at hx
    rw [hl, show A.length + 1 + alone.length - A.length - (alone.length + 1) = 0 by omega] at hx
    refine hh x ?_
    cases B with
    | nil => simp at hx
    | cons y B => simpa using hx

theorem sign_take {l : List UInt8} {k : Nat} {c : UInt8} (h : ∀ x ∈ l.take k, noSign x = true) (hk : l[k]? = some c) (hc : noSign c = true) : ∀ x ∈ l.take (k + 1), noSign x = true := by
  obtain ⟨hlt, he⟩ := List.getElem?_eq_some_iff.1 hk
  rw [List.take_succ_eq_append_getElem hlt, he]
  intro x hx
  rcases List.mem_append.1 hx with hx | hx
  · exact h x hx
  · rw [List.mem_singleton.1 hx]; exact hc
theorem noSign_of {c : UInt8} (h0 : c.toNat ≠ 0) (h1 : c.toNat ≠ 96) (h2 : c.toNat ≠ 60) (h3 : c.toNat ≠ 91) (h4 : c.toNat ≠ 93) (h5 : c.toNat ≠ 92) : noSign c = true := by
  have ne : ∀ k : UInt8, c.toNat ≠ k.toNat → (c == k) = false := fun k hk => by simp; intro e; exact hk (by rw [e])
  unfold noSign
  rw [ne 0 h0, ne 96 h1, ne 60 h2, ne 91 h3, ne 93 h4, ne 92 h5]
  rfl
def NSg (l : List UInt8) : Prop := ∀ x ∈ l, noSign x = true


set_option maxHeartbeats 16000000 in
theorem law_ispans (ahead inn behind : ByteArray) (w : World) (hE : Env w) :
    Calls Tryz.prog 5 #[.string ahead, .string inn, .string behind] w fun e w' => e = .returned (.bool true) ∧ Below w.heap.size w w' := by
  by_cases t1 : (40 : Int) < (ahead.size : Int)
  · go_enter Tryz.func5, Tryz.ntmps5
    go_wp2_with fail
    refine (alive15 _ hE).mono ?_
    rintro e w1 ⟨rfl, b1⟩
    go_wp2_with fail
    go_ret
    exact ⟨rfl, b1⟩
  · by_cases t2 : (40 : Int) < (inn.size : Int)
    · go_enter Tryz.func5, Tryz.ntmps5
      go_wp2_with fail
      refine (alive15 _ hE).mono ?_
      rintro e w1 ⟨rfl, b1⟩
      go_wp2_with fail
      go_ret
      exact ⟨rfl, b1⟩
    · by_cases t3 : (40 : Int) < (behind.size : Int)
      · go_enter Tryz.func5, Tryz.ntmps5
        go_wp2_with fail
        refine (alive15 _ hE).mono ?_
        rintro e w1 ⟨rfl, b1⟩
        go_wp2_with fail
        go_ret
        exact ⟨rfl, b1⟩
      · have HE := Lib.hid hE
        clear hE
        go_enter Tryz.func5, Tryz.ntmps5
        go_wp2_with fail
        refine (alive15 _ HE.out).mono ?_
        rintro e w1 ⟨rfl, b1⟩
        go_wp2_with fail
        obtain ⟨W2, hW2⟩ : ∃ W2, W2 = w1.alloc (.cells #[.string ahead, .string inn, .string behind] 9) := ⟨_, rfl⟩
        rw [← hW2]
        have c0 : W2.cell? ⟨w1.heap.size, 0, none⟩ = some (.string ahead) := by rw [hW2]; simp
        have c1 : W2.cell? ⟨w1.heap.size, 1, none⟩ = some (.string inn) := by rw [hW2]; simp
        have c2 : W2.cell? ⟨w1.heap.size, 2, none⟩ = some (.string behind) := by rw [hW2]; simp
        have hB2 : Below w.heap.size w W2 := by rw [hW2]; exact b1.alloc b1.size _
        clear hW2
        go_loop [39] (fun uo => ∃ j : Nat, j ≤ 3 ∧ uo = .int .i64 j ∧ (0 < j → NSg ahead.data.toList) ∧ (1 < j → NSg inn.data.toList) ∧ (2 < j → NSg behind.data.toList)) (fun uo => 3 - (intOf uo).toNat)
        case atStart => exact ⟨0, by omega, rfl, fun h => absurd h (by omega), fun h => absurd h (by omega), fun h => absurd h (by omega)⟩
        case round =>
          obtain ⟨j, hj, rfl, hla, hlb, hlc⟩ := hrel
          have HLA := Lib.hid hla
          have HLB := Lib.hid hlb
          have HLC := Lib.hid hlc
          clear hla hlb hlc
          by_cases hjt : j < 3
          · obtain ⟨x, hx, hxz, hxl⟩ : ∃ x : ByteArray, W2.cell? ⟨w1.heap.size, j, none⟩ = some (.string x) ∧ x.size ≤ 40 ∧ (NSg x.data.toList → (0 < j + 1 → NSg ahead.data.toList) ∧ (1 < j + 1 → NSg inn.data.toList) ∧ (2 < j + 1 → NSg behind.data.toList)) := by
              have : j = 0 ∨ j = 1 ∨ j = 2 := by omega
              rcases this with rfl | rfl | rfl
              · exact ⟨ahead, c0, by omega, fun h => ⟨fun _ => h, fun h => absurd h (by omega), fun h => absurd h (by omega)⟩⟩
              · exact ⟨inn, c1, by omega, fun h => ⟨fun _ => HLA.out (by omega), fun _ => h, fun h => absurd h (by omega)⟩⟩
              · exact ⟨behind, c2, by omega, fun h => ⟨fun _ => HLA.out (by omega), fun _ => HLB.out (by omega), fun _ => h⟩⟩
            have HXL := Lib.hid hxl
            clear hxl
            go_wp2_with fail
            go_loop [9] (fun ui => ∃ i : Nat, i ≤ x.size ∧ ui = .int .i64 i ∧ NSg (x.data.toList.take i)) (fun ui => x.size - (intOf ui).toNat)
            case atStart => exact ⟨0, Nat.zero_le _, rfl, fun b hb => by simp at hb⟩
            case round =>
              obtain ⟨i, hi, rfl, hl⟩ := hrel
              have HL := Lib.hid hl
              clear hl
              by_cases hlt : i < x.size
              · have hg := Lib.data_getElem? x i hlt
                obtain ⟨d, hd⟩ : ∃ d, x[i] = d := ⟨_, rfl⟩
                rw [hd] at hg
                have HG := Lib.hid hg
                clear hg
                by_cases u0 : d.toNat = 0
                · have v0 : ((d.toNat : Int) == 0) = true := by simp; omega
                  go_wp2_with fail
                  go_ret
                  exact ⟨rfl, hB2⟩
                · have v0 : ((d.toNat : Int) == 0) = false := by simp; omega
                  by_cases u1 : d.toNat = 96
                  · have v1 : ((d.toNat : Int) == 96) = true := by simp; omega
                    go_wp2_with fail
                    go_ret
                    exact ⟨rfl, hB2⟩
                  · have v1 : ((d.toNat : Int) == 96) = false := by simp; omega
                    by_cases u2 : d.toNat = 60
                    · have v2 : ((d.toNat : Int) == 60) = true := by simp; omega
                      go_wp2_with fail
                      go_ret
                      exact ⟨rfl, hB2⟩
                    · have v2 : ((d.toNat : Int) == 60) = false := by simp; omega
                      by_cases u3 : d.toNat = 91
                      · have v3 : ((d.toNat : Int) == 91) = true := by simp; omega
                        go_wp2_with fail
                        go_ret
                        exact ⟨rfl, hB2⟩
                      · have v3 : ((d.toNat : Int) == 91) = false := by simp; omega
                        by_cases u4 : d.toNat = 93
                        · have v4 : ((d.toNat : Int) == 93) = true := by simp; omega
                          go_wp2_with fail
                          go_ret
                          exact ⟨rfl, hB2⟩
                        · have v4 : ((d.toNat : Int) == 93) = false := by simp; omega
                          by_cases u5 : d.toNat = 92
                          · have v5 : ((d.toNat : Int) == 92) = true := by simp; omega
                            go_wp2_with fail
                            go_ret
                            exact ⟨rfl, hB2⟩
                          · have v5 : ((d.toNat : Int) == 92) = false := by simp; omega
                            have HN := Lib.hid (sign_take HL.out HG.out (noSign_of u0 u1 u2 u3 u4 u5))
                            go_wp2_with fail
                            go_round
                            case rel => exact ⟨i + 1, by omega, by go_num, HN.out⟩
                            case measure => simp [intOf]; omega
              · obtain rfl : i = x.size := by omega
                have HN := Lib.hid (HXL.out (by have := HL.out; rwa [take_all] at this))
                go_wp2_with fail
                go_round
                case rel => exact ⟨j + 1, by omega, by go_num, HN.out.1, HN.out.2.1, HN.out.2.2⟩
                case measure => simp [intOf]; omega
          · obtain rfl : j = 3 := by omega
            obtain ⟨hlies, hnest⟩ := spans_plain ahead.data.toList behind.data.toList [108] inn.data.toList (HLA.out (by omega)) (HLC.out (by omega))
            have hwn := parseA_any (S := 83) (T := 40)
            have haz : ahead.data.toList.length ≤ 40 := by rw [← Lib.size_eq]; omega
            have hbz : behind.data.toList.length ≤ 40 := by rw [← Lib.size_eq]; omega
            have hiz : inn.data.toList.length ≤ 40 := by rw [← Lib.size_eq]; omega
            obtain ⟨n, hn⟩ : ∃ n, parseL none (spanText ahead.data.toList behind.data.toList) [⟨[108], inn.data.toList⟩] = n := ⟨_, rfl⟩
            obtain ⟨al, hal⟩ : ∃ l, parse0 none inn.data.toList = l := ⟨_, rfl⟩
            have halw := parse0_wtT none inn.data.toList 40 hiz
            have haln := (parse0_nest none inn.data.toList).2
            have hnw : wtL n ≤ 10000000 := by
              rw [← hn]
              unfold parseL
              have h1 := parse_wt (S := 83) (T := 40) (A := 40 * tokB 40 0 0) none (spanText ahead.data.toList behind.data.toList) [⟨[108], inn.data.toList⟩] (parse0 none) (by unfold spanText; simp; omega) (fun a ha => by rw [List.mem_singleton.1 ha]; exact ⟨hiz, (by show (1 : Nat) ≤ 40; omega)⟩) (fun a ha => by rw [List.mem_singleton.1 ha]; exact ⟨halw, haln⟩)
              have h2 : (spanText ahead.data.toList behind.data.toList).length ≤ 83 := by unfold spanText; simp; omega
              have h3 : tokB 83 40 (40 * tokB 40 0 0) ≤ 100000 := by decide
              have h4 := Nat.mul_le_mul h2 h3
              omega
            rw [hal] at halw haln hlies
            rw [hn] at hlies hnest
            obtain ⟨D, I, hsp⟩ := span_facts hlies
            have hnl := wtL_len n
            have hall := wtL_len al
            have halb : al.length ≤ 1000000 := by have h3 : 40 * tokB 40 0 0 ≤ 1000000 := by decide
                                                  omega
            have hald := nest_depth haln
            have hnd := nest_depth hnest
            have hDb : D ≤ 10000000 := by have := hnd _ (List.mem_of_getElem? hsp.node); simp at this; omega
            have hroom := hsp.room
            obtain ⟨ln, hln⟩ : ∃ k, n.length = k := ⟨_, rfl⟩
            obtain ⟨la, hla⟩ : ∃ k, al.length = k := ⟨_, rfl⟩
            have k1 : ∀ (Y : ByteArray) av W', Y.data.toList = spanText ahead.data.toList behind.data.toList → AtomsAt W' av [⟨[108], inn.data.toList⟩] → Env W' → Calls Tryz.prog 13 #[.string Y, av, .pointer none] W' fun e w' => ∃ g c, e = .returned (.slice (some ⟨g, 0, none⟩) ln c) ∧ g < w'.heap.size ∧
                (∀ k x, n[k]? = some x → NodeAt w' g k (x.kind : Int) (x.depth : Int) ⟨x.text.toArray⟩ ⟨x.url.toArray⟩ ⟨x.title.toArray⟩) ∧ Below W'.heap.size W' w' := fun Y av W' hY hA hW' => by
              refine (hwn Y av (.pointer none) none _ W' hW' rfl hA (fun ds h => by cases h) (by rw [Lib.size_eq, hY]; unfold spanText; simp; omega) (fun a ha => by rw [List.mem_singleton.1 ha]; exact ⟨hiz, (by show (1 : Nat) ≤ 40; omega)⟩) (by omega) (by omega) (by decide) (by decide)).mono ?_
              rintro e w' ⟨v, rfl, hI, hb⟩
              rw [hY, hn] at hI
              obtain ⟨g, c, rfl, hg, hc⟩ := inls_at hI (by omega)
              exact ⟨g, c, by rw [hln], hg, hc, hb⟩
            have k2 : ∀ W', Env W' → Calls Tryz.prog 11 #[.string inn] W' fun e w' => ∃ ao c, e = .returned (.slice ao la c) ∧ RowR w' 5 ao la (inlCells al) ∧ Below W'.heap.size W' w' := fun W' hW' => by
              refine (raw_any inn W' hW' (by omega)).mono ?_
              rintro e w' ⟨v, rfl, hI, hb⟩
              rw [hal] at hI
              obtain ⟨ao, c, rfl, hR, _⟩ := own_slice hI
              rw [hla] at hR ⊢
              exact ⟨ao, c, rfl, hR, hb⟩
            rw [hla, hln] at hroom
            rw [hla] at halb
            have hlnb : ln ≤ 10000000 := by omega
            have K1 := Lib.hid k1
            have K2 := Lib.hid k2
            have HSP := Lib.hid hsp
            have HALD := Lib.hid (show ∀ x ∈ al, x.depth ≤ 1000000 from fun x hx => by have := hald x hx; omega)
            have HLNS := Lib.hid (And.intro hln hla)
            clear k1 k2 hsp hald hnd hnl hall hln hla hlies hnest hnw halw haln hal hn haz hbz hiz hwn c0 c1 c2 HLA HLB HLC
            have hb3 := (Below.refl W2.heap.size W2).alloc (Nat.le_refl _) (.cells #[.string ⟨#[108]⟩, .string inn] 34)
            have hA3 : AtomsAt (W2.alloc (.cells #[.string ⟨#[108]⟩, .string inn] 34)) (.slice (some ⟨W2.heap.size, 0, none⟩) 1 1) [⟨[108], inn.data.toList⟩] := AtomsAt.new W2 ⟨[108], inn.data.toList⟩ W2.heap.size rfl
            have HA3 := Lib.hid (And.intro hA3 (below_step hB2 hb3))
            clear hA3 hb3
            go_wp2_with fail
            refine (K1.out _ _ _ (by simp only [app_list]; simp [spanText]) HA3.out.1 (HE.out.below HA3.out.2)).mono ?_
            rintro e w5 ⟨g, c, rfl, hg, hc, b5⟩
            have B5 := below_step HA3.out.2 b5
            have HC := Lib.hid hc
            clear hc b5 HA3 K1
            go_wp2_with fail
            refine (K2.out _ (HE.out.below B5)).mono ?_
            rintro e w6 ⟨ao, c6, rfl, hR6, b6⟩
            have B6 := below_step B5 b6
            have HR := Lib.hid hR6
            have hg6 : g < w6.heap.size := Nat.lt_of_lt_of_le hg b6.size
            have HC6 := Lib.hid (fun k x (hx : n[k]? = some x) => (HC.out k x hx).below b6 hg)
            clear hR6 b6 K2 HC
            go_wp2_with fail
            go_loop [96] (fun u96 => ∃ k : Nat, k ≤ I ∧ u96 = .int .i64 k) (fun u96 => I - (intOf u96).toNat)
            case atStart => exact ⟨0, Nat.zero_le _, rfl⟩
            case round =>
              obtain ⟨k, hk, rfl⟩ := hrel
              by_cases hkI : k < I
              · obtain ⟨x, hx⟩ := getElem?_ex n k (by rw [HLNS.out.1]; omega)
                obtain ⟨e0, e1, e2, e3, e4⟩ := HC6.out k x hx
                have hk12 := HSP.out.ahead k x hkI hx
                have hkk : ((x.kind : Int) != 12) = true := by simp; omega
                clear hx e1 e2 e3 e4 hk12
                go_wp2_with fail
                go_round
                case rel => exact ⟨k + 1, by omega, by go_num⟩
                case measure => simp [intOf]; omega
              · obtain rfl : k = I := by omega
                obtain ⟨e0, e1, e2, e3, e4⟩ := HC6.out k _ HSP.out.node
                replace e0 : w6.cell? ⟨g, k * 5, none⟩ = some (.int .i64 12) := e0
                replace e1 : w6.cell? ⟨g, k * 5 + 1, none⟩ = some (.int .i64 D) := e1
                replace e2 : w6.cell? ⟨g, k * 5 + 2, none⟩ = some (.string ⟨#[108]⟩) := e2
                clear e3 e4
                have hlt1 : ¬ (ln : Int) ≤ (k : Int) + (la : Int) := by omega
                go_wp2_with fail
                clear e0 e1 e2 hlt1
                go_loopw [143] (fun u143 wr => ∃ j : Nat, j ≤ la ∧ u143 = .int .i64 j ∧ Below w6.heap.size w6 wr) (fun u143 _ => la - (intOf u143).toNat)
                case atStart => exact ⟨0, Nat.zero_le _, rfl, Below.refl _ _⟩
                case round =>
                  obtain ⟨j, hj, rfl, hb7⟩ := hrel
                  by_cases hjl : j < la
                  · obtain ⟨x, hx⟩ := getElem?_ex al j (by rw [HLNS.out.2]; omega)
                    obtain ⟨ga, oa, rfl⟩ := HR.out.addr (by omega)
                    obtain ⟨q0, q1, q2, q3, q4⟩ := (HR.out.below hb7).inl j x hx
                    have hxd := HALD.out x (List.mem_of_getElem? hx)
                    obtain ⟨c0, c1, c2, c3, c4⟩ := (HC6.out _ _ (HSP.out.inner j x hx)).below hb7 hg6
                    replace c1 : wr.cell? ⟨g, (k + 1 + j) * 5 + 1, none⟩ = some (.int .i64 ((x.depth : Int) + ((D : Int) + 1))) := c1
                    clear hx
                    go_upto_region 26 with fail
                    have hgw : g < wr.heap.size := Nat.lt_of_lt_of_le hg6 hb7.size
                    have hb2 := (Below.refl wr.heap.size wr).alloc (Nat.le_refl _) (.cells #[.int .i64 (x.kind : Int), .int .i64 ((x.depth : Int) + ((D : Int) + 1)), .string ⟨x.text.toArray⟩, .string ⟨x.url.toArray⟩, .string ⟨x.title.toArray⟩] 28)
                    have hB8 := hb7.trans (hb2.mono hb7.size)
                    obtain ⟨W, hW⟩ : ∃ W, wr.alloc (.cells #[.int .i64 (x.kind : Int), .int .i64 ((x.depth : Int) + ((D : Int) + 1)), .string ⟨x.text.toArray⟩, .string ⟨x.url.toArray⟩, .string ⟨x.title.toArray⟩] 28) = W := ⟨_, rfl⟩
                    have d0 : W.cell? ⟨g, (k + 1 + j) * 5, none⟩ = some (.int .i64 (x.kind : Int)) := by rw [← hW]; exact (hb2.cell (p := ⟨g, (k + 1 + j) * 5, none⟩) hgw).trans c0
                    have d1 : W.cell? ⟨g, (k + 1 + j) * 5 + 1, none⟩ = some (.int .i64 ((x.depth : Int) + ((D : Int) + 1))) := by rw [← hW]; exact (hb2.cell (p := ⟨g, (k + 1 + j) * 5 + 1, none⟩) hgw).trans c1
                    have d2 : W.cell? ⟨g, (k + 1 + j) * 5 + 2, none⟩ = some (.string ⟨x.text.toArray⟩) := by rw [← hW]; exact (hb2.cell (p := ⟨g, (k + 1 + j) * 5 + 2, none⟩) hgw).trans c2
                    have d3 : W.cell? ⟨g, (k + 1 + j) * 5 + 3, none⟩ = some (.string ⟨x.url.toArray⟩) := by rw [← hW]; exact (hb2.cell (p := ⟨g, (k + 1 + j) * 5 + 3, none⟩) hgw).trans c3
                    have d4 : W.cell? ⟨g, (k + 1 + j) * 5 + 4, none⟩ = some (.string ⟨x.title.toArray⟩) := by rw [← hW]; exact (hb2.cell (p := ⟨g, (k + 1 + j) * 5 + 4, none⟩) hgw).trans c4
                    have e0 : W.cell? ⟨wr.heap.size, 0, none⟩ = some (.int .i64 (x.kind : Int)) := by rw [← hW]; simp
                    have e1 : W.cell? ⟨wr.heap.size, 1, none⟩ = some (.int .i64 ((x.depth : Int) + ((D : Int) + 1))) := by rw [← hW]; simp
                    have e2 : W.cell? ⟨wr.heap.size, 2, none⟩ = some (.string ⟨x.text.toArray⟩) := by rw [← hW]; simp
                    have e3 : W.cell? ⟨wr.heap.size, 3, none⟩ = some (.string ⟨x.url.toArray⟩) := by rw [← hW]; simp
                    have e4 : W.cell? ⟨wr.heap.size, 4, none⟩ = some (.string ⟨x.title.toArray⟩) := by rw [← hW]; simp
                    have hjn : k + 1 + j < ln := by omega
                    rw [hW] at hB8 ⊢
                    clear hW c0 c1 c2 c3 c4 q0 q1 q2 q3 q4 hb2 hb7
                    obtain ⟨Z, hZ⟩ : ∃ Z : Int, (x.depth : Int) + ((D : Int) + 1) = Z := ⟨_, rfl⟩
                    obtain ⟨T, hT⟩ : ∃ T : ByteArray, ⟨x.text.toArray⟩ = T := ⟨_, rfl⟩
                    obtain ⟨U, hU⟩ : ∃ T : ByteArray, ⟨x.url.toArray⟩ = T := ⟨_, rfl⟩
                    obtain ⟨Q, hQ⟩ : ∃ T : ByteArray, ⟨x.title.toArray⟩ = T := ⟨_, rfl⟩
                    rw [hZ] at d1 e1
                    rw [hT] at d2 e2
                    rw [hU] at d3 e3
                    rw [hQ] at d4 e4
                    clear hT hU hQ hZ
                    go_quiet (fail)
                    go_wp2_with fail
                    go_roundw
                    case rel => exact ⟨j + 1, by omega, by go_num, below_drewsN hB8 nq⟩
                    case measure => simp [intOf]; omega
                  · obtain rfl : j = la := by omega
                    have B7 := B6.trans (hb7.mono B6.size)
                    by_cases heq : k + 1 + j = ln
                    · have he1 : ((k : Int) + 1 + (j : Int) == (ln : Int)) = true := by simp; omega
                      clear heq
                      go_wp2_with fail
                      go_ret
                      exact ⟨rfl, B7⟩
                    · have he1 : ((k : Int) + 1 + (j : Int) == (ln : Int)) = false := by simp; omega
                      obtain ⟨y, hy⟩ := getElem?_ex n (k + 1 + j) (by rw [HLNS.out.1]; omega)
                      have hyd : y.depth ≤ D := HSP.out.behind y (by rw [HLNS.out.2]; exact hy)
                      obtain ⟨c0, c1, c2, c3, c4⟩ := (HC6.out _ _ hy).below hb7 hg6
                      have hjn : k + 1 + j < ln := by omega
                      clear heq hy c0 c2 c3 c4
                      go_wp2_with fail
                      go_ret
                      exact ⟨rfl, B7⟩

end Go.Proofs.YtahljcbmckldhaaGreatDoor
