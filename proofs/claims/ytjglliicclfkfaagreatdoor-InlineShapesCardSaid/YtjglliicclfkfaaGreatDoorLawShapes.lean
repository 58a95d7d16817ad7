/-
  InlineShapes: nodes lie in one another as they may; no words are empty, none stand side by side: the walk of the law.
-/
import Derived.Test.YtjglliicclfkfaaGreatDoorInlG
namespace Go.Proofs.YtjglliicclfkfaaGreatDoor
open Go.RowKit
set_option maxRecDepth 100000
set_option linter.unusedVariables false
set_option linter.unusedSimpArgs false

theorem apart_word : ∀ (l : List Inl) (k : Nat) (x : Inl), Apart l → l[k]? = some x → x.kind = 1 → x.text ≠ []
  | [], k, x, _, h => by simp at h
  | [a], 0, x, h, hx => by simp at hx; subst hx; exact h
  | [a], k + 1, x, _, h => by simp at h
  | a :: b :: l, 0, x, h, hx => by simp at hx; subst hx; exact h.1
  | a :: b :: l, k + 1, x, h, hx => apart_word (b :: l) k x h.2.2 (by simpa using hx)
theorem apart_next : ∀ (l : List Inl) (k : Nat) (w x : Inl), Apart l → l[k]? = some w → l[k + 1]? = some x → ¬ (w.kind = 1 ∧ x.kind = 1 ∧ w.depth = x.depth)
  | [], k, w, x, _, h, _ => by simp at h
  | [a], k, w, x, _, _, h => by simp at h
  | a :: b :: l, 0, w, x, h, hw, hx => by simp at hw hx; subst hw; subst hx; exact h.2.1
  | a :: b :: l, k + 1, w, x, h, hw, hx => apart_next (b :: l) k w x h.2.2 (by simpa using hw) (by simpa using hx)



set_option maxHeartbeats 8000000 in
theorem law_shapes (s : ByteArray) (a : Option Addr) (len cap : Nat) (w : World) (ds : List DefL) (hD : IsDefs w a len ds) (hE : Env w) :
    Calls Tryz.prog 4 #[.string s, .slice a len cap] w fun e w' => e = .returned (.bool true) ∧ Below w.heap.size w w' := by
  by_cases t1 : (200 : Int) < (s.size : Int)
  · go_enter Tryz.func4, Tryz.ntmps4
    go_wp2_with fail
    refine (alive15 _ hE).mono ?_
    rintro e w1 ⟨rfl, b1⟩
    go_wp2_with fail
    go_ret
    exact ⟨rfl, b1⟩
  · by_cases t2 : (20 : Int) < (len : Int)
    · go_enter Tryz.func4, Tryz.ntmps4
      go_wp2_with fail
      refine (alive15 _ hE).mono ?_
      rintro e w1 ⟨rfl, b1⟩
      go_wp2_with fail
      go_ret
      exact ⟨rfl, b1⟩
    · have HE := Lib.hid hE
      have HD := Lib.hid hD
      clear hE hD
      go_enter Tryz.func4, Tryz.ntmps4
      go_wp2_with fail
      refine (alive15 _ HE.out).mono ?_
      rintro e w1 ⟨rfl, b1⟩
      have hD1 : IsDefs w1 a len ds := ⟨HD.out.1, fun h0 => (HD.out.2.1 h0).below b1, HD.out.2.2⟩
      have HT := Lib.hid (table_any a len cap ds w1 hD1 (by omega))
      clear hD1
      go_wp2_with fail
      refine HT.out.mono ?_
      rintro e w2 ⟨b, v, l0, rfl, hTO, hl0, b2⟩
      have B2 := below_step b1 b2
      have hpa := parse0_any s (.pointer (some ⟨b, 0, none⟩)) (some l0) w2 (HE.out.below B2) hTO.at' (fun d h => by injection h with h; subst h; omega) (by omega)
      have hnest := parse0_nest (some l0) s.data.toList
      have hlw := parse0_wt (some l0) s.data.toList
      obtain ⟨l, hl⟩ : ∃ l, parse0 (some l0) s.data.toList = l := ⟨_, rfl⟩
      rw [hl] at hpa hnest hlw
      have hln : l.length ≤ 1000000000 := by
        have h1 := wtL_len l
        rw [← Lib.size_eq] at hlw
        have h2 : tokB s.size 0 0 ≤ 2000 := by unfold tokB; omega
        have h3 := Nat.mul_le_mul (show s.size ≤ 200 by omega) h2
        omega
      have HPA := Lib.hid hpa
      have HNE := Lib.hid hnest
      clear hpa hnest hlw hl hTO b2 HT HD
      go_wp2_with fail
      refine HPA.out.mono ?_
      rintro e w3 ⟨v3, rfl, hI, b3⟩
      have B3 := below_step B2 b3
      obtain ⟨ao, c, hv, hR, _⟩ := own_slice hI
      subst hv
      have HR := Lib.hid hR
      clear hI hR b3 HPA
      go_wp2_with fail
      go_loopw [34] (fun u34 wr => ∃ k : Nat, k ≤ l.length ∧ u34 = .int .i64 k ∧ Below w3.heap.size w3 wr) (fun u34 _ => l.length - (intOf u34).toNat)
      case atStart => exact ⟨0, Nat.zero_le _, rfl, Below.refl _ _⟩
      case round =>
        obtain ⟨k, hk, rfl, hB⟩ := hrel
        by_cases hlt : k < l.length
        · obtain ⟨x, hx⟩ := getElem?_ex l k hlt
          obtain ⟨g, o, rfl⟩ := HR.out.addr (by omega)
          obtain ⟨c0, c1, c2, c3, c4⟩ := (HR.out.below hB).inl k x hx
          have hkind := HNE.out.2.kinds x (List.mem_of_getElem? hx)
          have hword := apart_word l k x HNE.out.1 hx
          have hdep := nest_depth HNE.out.2 x (List.mem_of_getElem? hx)
          have f1 : ¬ (x.depth : Int) < 0 := by omega
          have f2 : ¬ (x.kind : Int) < 1 := by have := hkind.1; omega
          have f3 : ¬ (12 : Int) < (x.kind : Int) := by have := hkind.2; omega
          have hki : (k : Int) < (l.length : Int) := by omega
          have hB4 := hB.alloc hB.size (.cells #[.int .i64 (x.kind : Int), .int .i64 (x.depth : Int), .string ⟨x.text.toArray⟩, .string ⟨x.url.toArray⟩, .string ⟨x.title.toArray⟩] 26)
          have HTX : x.kind = 1 → x.text.isEmpty = false := fun h => by
            have h2 := hword h
            cases hxt : x.text with
            | nil => exact absurd hxt h2
            | cons a b => rfl
          clear hkind hword
          by_cases hk0 : k = 0
          · have hd0 := HNE.out.2.head x (by rw [List.head?_eq_getElem?, ← hk0]; exact hx)
            rw [show (x.depth : Int) = 0 by omega] at c1
            have hB4z := hB.alloc hB.size (.cells #[.int .i64 (x.kind : Int), .int .i64 0, .string ⟨x.text.toArray⟩, .string ⟨x.url.toArray⟩, .string ⟨x.title.toArray⟩] 26)
            clear hB4 f1 hdep
            have kz : ((k : Int) == 0) = true := by simp; omega
            clear hx hk0
            by_cases h1 : x.kind = 1
            · have he := HTX h1
              have k1 : ((x.kind : Int) == 1) = true := by simp; omega
              clear HTX h1 hd0
              go_wp2_with fail
              go_roundw
              case rel => exact ⟨k + 1, by omega, by go_num, hB4z⟩
              case measure => simp [intOf]; omega
            · have k1 : ((x.kind : Int) == 1) = false := by simp; omega
              clear HTX h1 hd0
              go_wp2_with fail
              go_roundw
              case rel => exact ⟨k + 1, by omega, by go_num, hB4z⟩
              case measure => simp [intOf]; omega
          · obtain ⟨m, rfl⟩ : ∃ m, k = m + 1 := ⟨k - 1, by omega⟩
            obtain ⟨y, hy⟩ := getElem?_ex l m (by omega)
            have hok := chained_at l m y x HNE.out.2.chain hy hx
            have hap := apart_next l m y x HNE.out.1 hy hx
            have hdy := nest_depth HNE.out.2 y (List.mem_of_getElem? hy)
            have f4 : ¬ (y.depth : Int) + 1 < (x.depth : Int) := by have := hok.1; omega
            have hmi : (m : Int) < (l.length : Int) := by omega
            have hmk : (((m + 1 : Nat) : Int) == 0) = false := by simp; omega
            have hyd : (y.depth : Int) ≤ 1000000000 := by omega
            clear hx hdy hdep hB4
            by_cases h1 : x.kind = 1
            · have he := HTX h1
              rw [show (x.kind : Int) = 1 by omega] at c0
              have H1 := Lib.hid h1
              clear HTX h1 f2 f3
              have hB4 := hB.alloc hB.size (.cells #[.int .i64 1, .int .i64 (x.depth : Int), .string ⟨x.text.toArray⟩, .string ⟨x.url.toArray⟩, .string ⟨x.title.toArray⟩] 26)
              obtain ⟨e0, e1, e2, e3, e4⟩ := (HR.out.below hB4).inl m y hy
              obtain ⟨q0, q1, q2, q3, q4⟩ := (HR.out.below hB).inl m y hy
              have hB5 := hB4.alloc hB4.size (.cells #[.int .i64 (y.kind : Int), .int .i64 (y.depth : Int), .string ⟨y.text.toArray⟩, .string ⟨y.url.toArray⟩, .string ⟨y.title.toArray⟩] 26)
              have HB5 := Lib.hid hB5
              clear hB5 hy
              go_upto_region 13 with fail
              obtain ⟨W, hW⟩ : ∃ W, (wr.alloc (.cells #[.int .i64 1, .int .i64 (x.depth : Int), .string ⟨x.text.toArray⟩, .string ⟨x.url.toArray⟩, .string ⟨x.title.toArray⟩] 26)).alloc (.cells #[.int .i64 (y.kind : Int), .int .i64 (y.depth : Int), .string ⟨y.text.toArray⟩, .string ⟨y.url.toArray⟩, .string ⟨y.title.toArray⟩] 26) = W := ⟨_, rfl⟩
              have hB5 := HB5.out
              have a0 : W.cell? ⟨wr.heap.size, 0, none⟩ = some (.int .i64 1) := by rw [← hW]; simp
              have a1 : W.cell? ⟨wr.heap.size, 1, none⟩ = some (.int .i64 (x.depth : Int)) := by rw [← hW]; simp
              have b0 : W.cell? ⟨wr.heap.size + 1, 0, none⟩ = some (.int .i64 (y.kind : Int)) := by rw [← hW]; simp
              have b1' : W.cell? ⟨wr.heap.size + 1, 1, none⟩ = some (.int .i64 (y.depth : Int)) := by rw [← hW]; simp
              rw [hW] at hB5 ⊢
              clear hW c0 c1 c2 c3 c4 e0 e1 e2 e3 e4 q0 q1 q2 q3 q4 HB5 hki hmi hmk hB hB4 hk0 
              by_cases hD : y.depth < x.depth
              · have y1 : ((y.kind : Int) == 1) = false := by
                  have hc := hok.2 hD
                  unfold cont at hc
                  simp at hc
                  simp; omega
                have hc := hok.2 hD
                have d1 : (y.depth : Int) < (x.depth : Int) := by omega
                unfold cont at hc
                have hkc : y.kind = 3 ∨ (y.kind ≠ 3 ∧ y.kind = 4) ∨ (y.kind ≠ 3 ∧ y.kind ≠ 4 ∧ y.kind = 5) ∨ (y.kind ≠ 3 ∧ y.kind ≠ 4 ∧ y.kind ≠ 5 ∧ y.kind = 12) := by
                  simp at hc; omega
                clear hok hap hc hD
                rcases hkc with h | ⟨h3, h⟩ | ⟨h3, h4, h⟩ | ⟨h3, h4, h5, h⟩
                · have y3 : ((y.kind : Int) == 3) = true := by simp; omega
                  clear h
                  go_wp2_with fail
                  all_goals go_roundw
                  all_goals first | exact ⟨m + 1 + 1, by omega, by go_num, hB5⟩ | (simp [intOf] <;> omega) | (exfalso; simp only [beq_iff_eq, beq_eq_false_iff_ne] at *; omega)
                · have y3 : ((y.kind : Int) == 3) = false := by simp; omega
                  have y4 : ((y.kind : Int) == 4) = true := by simp; omega
                  clear h h3
                  go_wp2_with fail
                  all_goals go_roundw
                  all_goals first | exact ⟨m + 1 + 1, by omega, by go_num, hB5⟩ | (simp [intOf] <;> omega) | (exfalso; simp only [beq_iff_eq, beq_eq_false_iff_ne] at *; omega)
                · have y3 : ((y.kind : Int) == 3) = false := by simp; omega
                  have y4 : ((y.kind : Int) == 4) = false := by simp; omega
                  have y5 : ((y.kind : Int) == 5) = true := by simp; omega
                  clear h h3 h4
                  go_wp2_with fail
                  all_goals go_roundw
                  all_goals first | exact ⟨m + 1 + 1, by omega, by go_num, hB5⟩ | (simp [intOf] <;> omega) | (exfalso; simp only [beq_iff_eq, beq_eq_false_iff_ne] at *; omega)
                · have y3 : ((y.kind : Int) == 3) = false := by simp; omega
                  have y4 : ((y.kind : Int) == 4) = false := by simp; omega
                  have y5 : ((y.kind : Int) == 5) = false := by simp; omega
                  have y6 : ((y.kind : Int) == 12) = true := by simp; omega
                  clear h h3 h4 h5
                  go_wp2_with fail
                  all_goals go_roundw
                  all_goals first | exact ⟨m + 1 + 1, by omega, by go_num, hB5⟩ | (simp [intOf] <;> omega) | (exfalso; simp only [beq_iff_eq, beq_eq_false_iff_ne] at *; omega)
              · have d1 : ¬ (y.depth : Int) < (x.depth : Int) := by omega
                by_cases h2 : y.kind = 1
                · have y1 : ((y.kind : Int) == 1) = true := by simp; omega
                  have e9 : ((x.depth : Int) == (y.depth : Int)) = false := by
                    have : ¬ y.depth = x.depth := fun h => hap ⟨h2, H1.out, h⟩
                    simp; omega
                  clear hok hap hD h2
                  go_wp2_with fail
                  all_goals go_roundw
                  all_goals first | exact ⟨m + 1 + 1, by omega, by go_num, hB5⟩ | (simp [intOf] <;> omega) | (exfalso; simp only [beq_iff_eq, beq_eq_false_iff_ne] at *; omega)
                · have y1 : ((y.kind : Int) == 1) = false := by simp; omega
                  clear hok hap hD h2
                  go_wp2_with fail
                  all_goals go_roundw
                  all_goals first | exact ⟨m + 1 + 1, by omega, by go_num, hB5⟩ | (simp [intOf] <;> omega) | (exfalso; simp only [beq_iff_eq, beq_eq_false_iff_ne] at *; omega)
            · have k1 : ((x.kind : Int) == 1) = false := by simp; omega
              clear HTX
              have hB4 := hB.alloc hB.size (.cells #[.int .i64 (x.kind : Int), .int .i64 (x.depth : Int), .string ⟨x.text.toArray⟩, .string ⟨x.url.toArray⟩, .string ⟨x.title.toArray⟩] 26)
              obtain ⟨e0, e1, e2, e3, e4⟩ := (HR.out.below hB4).inl m y hy
              obtain ⟨q0, q1, q2, q3, q4⟩ := (HR.out.below hB).inl m y hy
              have hB5 := hB4.alloc hB4.size (.cells #[.int .i64 (y.kind : Int), .int .i64 (y.depth : Int), .string ⟨y.text.toArray⟩, .string ⟨y.url.toArray⟩, .string ⟨y.title.toArray⟩] 26)
              have HB5 := Lib.hid hB5
              clear hB5 hy
              go_upto_region 13 with fail
              obtain ⟨W, hW⟩ : ∃ W, (wr.alloc (.cells #[.int .i64 (x.kind : Int), .int .i64 (x.depth : Int), .string ⟨x.text.toArray⟩, .string ⟨x.url.toArray⟩, .string ⟨x.title.toArray⟩] 26)).alloc (.cells #[.int .i64 (y.kind : Int), .int .i64 (y.depth : Int), .string ⟨y.text.toArray⟩, .string ⟨y.url.toArray⟩, .string ⟨y.title.toArray⟩] 26) = W := ⟨_, rfl⟩
              have hB5 := HB5.out
              have a0 : W.cell? ⟨wr.heap.size, 0, none⟩ = some (.int .i64 (x.kind : Int)) := by rw [← hW]; simp
              have a1 : W.cell? ⟨wr.heap.size, 1, none⟩ = some (.int .i64 (x.depth : Int)) := by rw [← hW]; simp
              have b0 : W.cell? ⟨wr.heap.size + 1, 0, none⟩ = some (.int .i64 (y.kind : Int)) := by rw [← hW]; simp
              have b1' : W.cell? ⟨wr.heap.size + 1, 1, none⟩ = some (.int .i64 (y.depth : Int)) := by rw [← hW]; simp
              rw [hW] at hB5 ⊢
              clear hW c0 c1 c2 c3 c4 e0 e1 e2 e3 e4 q0 q1 q2 q3 q4 HB5 hki hmi hmk hB hB4 hk0 
              by_cases hD : y.depth < x.depth
              · have hc := hok.2 hD
                have d1 : (y.depth : Int) < (x.depth : Int) := by omega
                unfold cont at hc
                have hkc : y.kind = 3 ∨ (y.kind ≠ 3 ∧ y.kind = 4) ∨ (y.kind ≠ 3 ∧ y.kind ≠ 4 ∧ y.kind = 5) ∨ (y.kind ≠ 3 ∧ y.kind ≠ 4 ∧ y.kind ≠ 5 ∧ y.kind = 12) := by
                  simp at hc; omega
                clear hok hap hc hD
                rcases hkc with h | ⟨h3, h⟩ | ⟨h3, h4, h⟩ | ⟨h3, h4, h5, h⟩
                · have y3 : ((y.kind : Int) == 3) = true := by simp; omega
                  clear h
                  go_wp2_with fail
                  all_goals go_roundw
                  all_goals first | exact ⟨m + 1 + 1, by omega, by go_num, hB5⟩ | (simp [intOf] <;> omega) | (exfalso; simp only [beq_iff_eq, beq_eq_false_iff_ne] at *; omega)
                · have y3 : ((y.kind : Int) == 3) = false := by simp; omega
                  have y4 : ((y.kind : Int) == 4) = true := by simp; omega
                  clear h h3
                  go_wp2_with fail
                  all_goals go_roundw
                  all_goals first | exact ⟨m + 1 + 1, by omega, by go_num, hB5⟩ | (simp [intOf] <;> omega) | (exfalso; simp only [beq_iff_eq, beq_eq_false_iff_ne] at *; omega)
                · have y3 : ((y.kind : Int) == 3) = false := by simp; omega
                  have y4 : ((y.kind : Int) == 4) = false := by simp; omega
                  have y5 : ((y.kind : Int) == 5) = true := by simp; omega
                  clear h h3 h4
                  go_wp2_with fail
                  all_goals go_roundw
                  all_goals first | exact ⟨m + 1 + 1, by omega, by go_num, hB5⟩ | (simp [intOf] <;> omega) | (exfalso; simp only [beq_iff_eq, beq_eq_false_iff_ne] at *; omega)
                · have y3 : ((y.kind : Int) == 3) = false := by simp; omega
                  have y4 : ((y.kind : Int) == 4) = false := by simp; omega
                  have y5 : ((y.kind : Int) == 5) = false := by simp; omega
                  have y6 : ((y.kind : Int) == 12) = true := by simp; omega
                  clear h h3 h4 h5
                  go_wp2_with fail
                  all_goals go_roundw
                  all_goals first | exact ⟨m + 1 + 1, by omega, by go_num, hB5⟩ | (simp [intOf] <;> omega) | (exfalso; simp only [beq_iff_eq, beq_eq_false_iff_ne] at *; omega)
              · have d1 : ¬ (y.depth : Int) < (x.depth : Int) := by omega
                clear hok hap hD
                go_wp2_with fail
                all_goals go_roundw
                all_goals first | exact ⟨m + 1 + 1, by omega, by go_num, hB5⟩ | (simp [intOf] <;> omega) | (exfalso; simp only [beq_iff_eq, beq_eq_false_iff_ne] at *; omega)
        · obtain rfl : k = l.length := by omega
          have hBf := B3.trans (hB.mono B3.size)
          go_wp2_with fail
          go_ret
          exact ⟨rfl, hBf⟩

end Go.Proofs.YtjglliicclfkfaaGreatDoor
