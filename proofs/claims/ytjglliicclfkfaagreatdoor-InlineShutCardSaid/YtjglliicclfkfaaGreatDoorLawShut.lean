/-
  InlineShut: a link that lies between brackets shuts those that are ahead of it: the walk of the law.
-/
import Derived.Test.YtjglliicclfkfaaGreatDoorInlG
namespace Go.Proofs.YtjglliicclfkfaaGreatDoor
open Go.RowKit
set_option maxRecDepth 100000
set_option linter.unusedVariables false
set_option linter.unusedSimpArgs false

theorem shut_len (url : List UInt8) : ∀ k, (shutText url k).length = k * (url.length + 4) + 1
  | 0 => by simp [shutText]
  | k + 1 => by
    unfold shutText linkTail
    simp only [List.length_append, List.length_cons, List.length_nil, shut_len url k, Nat.add_mul]
    omega
theorem links_take (l : List Inl) (k : Nat) (x : Inl) (h : l[k]? = some x) : linksIn (l.take (k + 1)) = linksIn (l.take k) + (if x.kind = 5 then 1 else 0) := by
  rw [take_snoc l k x h, linksIn_append]
  congr 1
  unfold linksIn
  by_cases h5 : x.kind = 5
  · simp [h5]
  · simp [h5]


set_option maxHeartbeats 4000000 in
theorem law_shut (p : Int) (url : ByteArray) (hp : (Lit.int .i64 p).wf = true) (w : World) (hE : Env w) :
    Calls Tryz.prog 3 #[.int .i64 p, .string url] w fun e w' => e = .returned (.bool true) ∧ Below w.heap.size w w' := by
  clear hp
  by_cases t1 : p < 1
  · go_enter Tryz.func3, Tryz.ntmps3
    go_wp2_with fail
    refine (alive15 _ hE).mono ?_
    rintro e w1 ⟨rfl, b1⟩
    go_wp2_with fail
    go_ret
    exact ⟨rfl, b1⟩
  · by_cases t2 : 8 < p
    · go_enter Tryz.func3, Tryz.ntmps3
      go_wp2_with fail
      refine (alive15 _ hE).mono ?_
      rintro e w1 ⟨rfl, b1⟩
      go_wp2_with fail
      go_ret
      exact ⟨rfl, b1⟩
    · by_cases h0 : 0 < url.size
      · have he := empty_no h0
        by_cases h20 : (20 : Int) < (url.size : Int)
        · go_enter Tryz.func3, Tryz.ntmps3
          go_wp2_with fail
          refine (alive15 _ hE).mono ?_
          rintro e w1 ⟨rfl, b1⟩
          go_wp2_with fail
          go_ret
          exact ⟨rfl, b1⟩
        · obtain ⟨n, rfl⟩ : ∃ n : Nat, p = n := ⟨p.toNat, by omega⟩
          have HE := Lib.hid hE
          clear hE
          go_enter Tryz.func3, Tryz.ntmps3
          go_wp2_with fail
          refine (alive15 _ HE.out).mono ?_
          rintro e w1 ⟨rfl, b1⟩
          go_wp2_with fail
          go_loop [5] (fun ui => ∃ i : Nat, i ≤ (url).size ∧ ui = .int .i64 i ∧ Letters ((url).data.toList.take i)) (fun ui => (url).size - (intOf ui).toNat)
          case atStart => exact ⟨0, Nat.zero_le _, rfl, fun b hb => by simp at hb⟩
          case round =>
            obtain ⟨i, hi, rfl, hl⟩ := hrel
            have HL := Lib.hid hl
            clear hl
            by_cases hlt : i < (url).size
            · have hg := Lib.data_getElem? url i hlt
              obtain ⟨d, hd⟩ : ∃ d, (url)[i] = d := ⟨_, rfl⟩
              rw [hd] at hg
              have HG := Lib.hid hg
              clear hg
              by_cases t1 : (d.toNat : Int) < 97
              · go_wp2_with fail
                go_ret
                exact ⟨rfl, b1⟩
              · by_cases t2 : (122 : Int) < (d.toNat : Int)
                · go_wp2_with fail
                  go_ret
                  exact ⟨rfl, b1⟩
                · have HN := Lib.hid (letters_take HL.out HG.out (by omega))
                  go_wp2_with fail
                  go_round
                  case rel => exact ⟨i + 1, by omega, by go_num, HN.out⟩
                  case measure => simp [intOf]; omega
            · obtain rfl : i = url.size := by omega
              have hlu : Letters url.data.toList := by have := HL.out; rwa [take_all] at this
              have hu0 : url.data.toList ≠ [] := by intro h; rw [Lib.size_eq, h] at h0; exact absurd h0 (by simp)
              have huz : url.data.toList.length ≤ 20 := by rw [← Lib.size_eq]; omega
              have HU := Lib.hid (And.intro hlu (And.intro hu0 huz))
              clear hlu hu0 huz HL
              go_wp2_with fail
              go_loop [6, 7] (fun u6 u7 => ∃ (k : Nat) (S : ByteArray), k ≤ n ∧ u7 = .int .i64 k ∧ u6 = .string S ∧ S.data.toList = shutText url.data.toList k) (fun _ u7 => n - (intOf u7).toNat)
              case atStart => exact ⟨0, ⟨#[120]⟩, Nat.zero_le _, rfl, rfl, rfl⟩
              case round =>
                obtain ⟨k, S, hk, rfl, rfl, hS⟩ := hrel
                have hSz : S.size ≤ 400 := by
                  rw [Lib.size_eq, hS, shut_len]
                  have h1 := HU.out.2.2
                  have h2 := Nat.mul_le_mul (show k ≤ 8 by omega) (show url.data.toList.length + 4 ≤ 24 by omega)
                  omega
                have HS := Lib.hid hS
                clear hS
                by_cases hkn : k < n
                · go_wp2_with fail
                  go_round
                  case rel =>
                    refine ⟨k + 1, _, by omega, by go_num, rfl, ?_⟩
                    simp only [app_list, HS.out]
                    simp [shutText, linkTail]
                  case measure => simp [intOf]; omega
                · obtain rfl : k = n := by omega
                  obtain ⟨m, rfl⟩ : ∃ m, k = m + 1 := ⟨k - 1, by omega⟩
                  have hpl := shut_plain m url.data.toList HU.out.1 HU.out.2.1
                  rw [← HS.out] at hpl
                  have hraw := raw_any S w1 (HE.out.below b1) (by omega)
                  obtain ⟨l, hl⟩ : ∃ l, parse0 none S.data.toList = l := ⟨_, rfl⟩
                  rw [hl] at hpl hraw
                  have hlw := parse0_wt none S.data.toList
                  have hln : l.length ≤ 10000000 := by
                    rw [hl] at hlw
                    have h1 := wtL_len l
                    rw [← Lib.size_eq] at hlw
                    have h2 : tokB S.size 0 0 ≤ 2000 := by unfold tokB; omega
                    have h3 := Nat.mul_le_mul hSz h2
                    omega
                  have HRAW := Lib.hid hraw
                  have HPL := Lib.hid hpl
                  clear hraw hpl hl hlw HS HU
                  go_wp2_with fail
                  refine HRAW.out.mono ?_
                  rintro e w2 ⟨v, rfl, hI, b2⟩
                  have B2 := below_step b1 b2
                  obtain ⟨ao, c, hv, hR, _⟩ := own_slice hI
                  subst hv
                  have HR := Lib.hid hR
                  clear hI hR b2
                  go_wp2_with fail
                  go_loopw [8, 61] (fun u8 u61 wr => ∃ j : Nat, j ≤ l.length ∧ u61 = .int .i64 j ∧ u8 = .int .i64 (linksIn (l.take j) : Int) ∧ linksIn (l.take j) ≤ j ∧ Below w2.heap.size w2 wr) (fun _ u61 _ => l.length - (intOf u61).toNat)
                  case atStart => exact ⟨0, Nat.zero_le _, rfl, rfl, Nat.le_refl _, Below.refl _ _⟩
                  case round =>
                    obtain ⟨j, hj, rfl, rfl, hlj, hB⟩ := hrel
                    by_cases hjl : j < l.length
                    · obtain ⟨x, hx⟩ := getElem?_ex l j hjl
                      obtain ⟨g, o, rfl⟩ := HR.out.addr (by omega)
                      obtain ⟨c0, c1, c2, c3, c4⟩ := (HR.out.below hB).inl j x hx
                      have hlk := links_take l j x hx
                      have hB3 := hB.alloc hB.size (.cells #[.int .i64 (x.kind : Int), .int .i64 (x.depth : Int), .string ⟨x.text.toArray⟩, .string ⟨x.url.toArray⟩, .string ⟨x.title.toArray⟩] 26)
                      obtain ⟨q, hq⟩ : ∃ q, linksIn (l.take j) = q := ⟨_, rfl⟩
                      rw [hq] at hlk hlj ⊢
                      by_cases h5 : x.kind = 5
                      · have k5 : ((x.kind : Int) == 5) = true := by simp; omega
                        rw [if_pos h5] at hlk
                        have HLK := Lib.hid hlk
                        clear hx hlk hq h5
                        go_wp2_with fail
                        go_roundw
                        case rel => exact ⟨j + 1, by omega, by go_num, by rw [HLK.out]; go_num, by rw [HLK.out]; omega, hB3⟩
                        case measure => simp [intOf]; omega
                      · have k5 : ((x.kind : Int) == 5) = false := by simp; omega
                        rw [if_neg h5] at hlk
                        have HLK := Lib.hid hlk
                        clear hx hlk hq h5
                        go_wp2_with fail
                        go_roundw
                        case rel => exact ⟨j + 1, by omega, by go_num, by rw [HLK.out]; rfl, by rw [HLK.out]; omega, hB3⟩
                        case measure => simp [intOf]; omega
                    · obtain rfl : j = l.length := by omega
                      rw [List.take_length, HPL.out]
                      have hBf := B2.trans (hB.mono B2.size)
                      go_wp2_with fail
                      go_ret
                      exact ⟨rfl, hBf⟩
      · have he := empty_yes (s := url) (by omega)
        go_enter Tryz.func3, Tryz.ntmps3
        go_wp2_with fail
        refine (alive15 _ hE).mono ?_
        rintro e w1 ⟨rfl, b1⟩
        go_wp2_with fail
        go_ret
        exact ⟨rfl, b1⟩

end Go.Proofs.YtjglliicclfkfaaGreatDoor
