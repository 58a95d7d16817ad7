/-
  TargetSchemes: four schemes are never safe, in whichever case, with whatever blanks between their letters: the walk of the law.
-/
import Derived.Test.YtmllkffdejojbaaDoorAlive10
import Derived.Test.YtmllkffdejojbaaDoorTgtLaw2
import Derived.Test.YtmllkffdejojbaaDoorOneByte
import Derived.Test.YtmllkffdejojbaaDoorFlags
import Derived.BigRegion
import Derived.IntWalk
namespace Go.Proofs.YtmllkffdejojbaaDoor
open Go.RowKit
set_option maxRecDepth 100000
set_option linter.unusedVariables false
set_option linter.unusedSimpArgs false

def headVals : List Value := [Value.string ⟨#[106, 97, 118, 97, 115, 99, 114, 105, 112, 116, 58]⟩, Value.string ⟨#[118, 98, 115, 99, 114, 105, 112, 116, 58]⟩, Value.string ⟨#[102, 105, 108, 101, 58]⟩, Value.string ⟨#[100, 97, 116, 97, 58]⟩, Value.string ⟨#[104, 116, 116, 112, 115, 58]⟩, Value.string ⟨#[109, 97, 105, 108, 116, 111, 58]⟩, Value.string ⟨#[47, 102, 105, 108, 101, 58]⟩, Value.string ⟨#[100, 97, 116, 117, 109, 58]⟩]
theorem head_at (K : Nat) (hK : K < 8) : ∃ S : ByteArray, (∀ h, [Value.string ⟨#[106, 97, 118, 97, 115, 99, 114, 105, 112, 116, 58]⟩, Value.string ⟨#[118, 98, 115, 99, 114, 105, 112, 116, 58]⟩, Value.string ⟨#[102, 105, 108, 101, 58]⟩, Value.string ⟨#[100, 97, 116, 97, 58]⟩, Value.string ⟨#[104, 116, 116, 112, 115, 58]⟩, Value.string ⟨#[109, 97, 105, 108, 116, 111, 58]⟩, Value.string ⟨#[47, 102, 105, 108, 101, 58]⟩, Value.string ⟨#[100, 97, 116, 117, 109, 58]⟩][K]'h = Value.string S) ∧ S.data.toList = heads8.getD K [] ∧ S.size ≤ 11 := by
  have : K = 0 ∨ K = 1 ∨ K = 2 ∨ K = 3 ∨ K = 4 ∨ K = 5 ∨ K = 6 ∨ K = 7 := by omega
  rcases this with rfl | rfl | rfl | rfl | rfl | rfl | rfl | rfl <;> exact ⟨_, fun _ => rfl, rfl, by decide⟩

theorem dec4 (K : Nat) : (decide (4 ≤ K) == decide ((4 : Int) ≤ (K : Int))) = true := by
  rw [show decide ((4 : Int) ≤ (K : Int)) = decide (4 ≤ K) by rw [decide_eq_decide]; omega]
  exact beq_self_eq_true _

/-- What the loop has made of the letters, up to a place. -/
def GreatTo (H l : List UInt8) (j : Nat) : Prop := l.length = H.length ∧ (∀ i, i < j → ∃ u, l.getD i 0 = greatB u (H.getD i 0)) ∧ ∀ i, j ≤ i → l.getD i 0 = H.getD i 0

theorem GreatTo.stay {H l : List UInt8} {j : Nat} (h : GreatTo H l j) : GreatTo H l (j + 1) := by
  obtain ⟨h1, h2, h3⟩ := h
  refine ⟨h1, fun i hi => ?_, fun i hi => h3 i (by omega)⟩
  by_cases e : i < j
  · exact h2 i e
  · obtain rfl : i = j := by omega
    exact ⟨false, by rw [h3 i (Nat.le_refl _)]; unfold greatB; simp⟩
theorem GreatTo.step {H l : List UInt8} {j : Nat} (h : GreatTo H l j) (hj : j < l.length) (h1 : 97 ≤ (l.getD j 0).toNat) (h2 : (l.getD j 0).toNat ≤ 122) : GreatTo H (l.set j (l.getD j 0 - 32)) (j + 1) := by
  obtain ⟨k1, k2, k3⟩ := h
  refine ⟨by rw [List.length_set]; exact k1, fun i hi => ?_, fun i hi => ?_⟩
  · by_cases e : i < j
    · obtain ⟨u, hu⟩ := k2 i e
      refine ⟨u, ?_⟩
      rw [← hu]
      have : ¬ j = i := by omega
      simp [List.getD_eq_getElem?_getD, List.getElem?_set, this]
    · obtain rfl : i = j := by omega
      refine ⟨true, ?_⟩
      rw [← k3 i (Nat.le_refl _)]
      have e1 : (l.set i (l.getD i 0 - 32)).getD i 0 = l.getD i 0 - 32 := by simp [List.getD_eq_getElem?_getD, hj]
      rw [e1]
      unfold greatB
      rw [if_pos]
      simp only [Bool.true_and, Bool.and_eq_true, decide_eq_true_eq, UInt8.le_iff_toNat_le]
      exact ⟨h1, h2⟩
  · rw [← k3 i (by omega)]
    have : ¬ j = i := by omega
    simp [List.getD_eq_getElem?_getD, List.getElem?_set, this]

theorem sub32 (c : UInt8) (h1 : 97 ≤ c.toNat) : IntKind.u8.wrap ((c.toNat : Int) - 32) = ((c - 32).toNat : Int) := by
  revert h1
  exact allB (p := fun c => 97 ≤ c.toNat → IntKind.u8.wrap ((c.toNat : Int) - 32) = ((c - 32).toNat : Int)) (by unfold AllB; decide +kernel) c

set_option maxHeartbeats 4000000 in
theorem law_schemes (k : Int) (a : Option Addr) (len cap : Nat) (at_ gap : Int) (rest : ByteArray) (w : World) (hk : (Lit.int .i64 k).wf = true) (X : Nat → Bool) (hX : IsFlags w a len X)
    (hat : (Lit.int .i64 at_).wf = true) (hgw : (Lit.int .u8 gap).wf = true) (hE : Env w) :
    Calls Tryd.prog 3 #[.int .i64 k, .slice a len cap, .int .i64 at_, .int .u8 gap, .string rest] w fun e w' => e = .returned (.bool true) ∧ Below w.heap.size w w' := by
  by_cases hr : rest.size ≤ 60 ∧ (gap ≤ 32 ∨ gap = 127)
  · obtain ⟨gb, rfl⟩ : ∃ gb : UInt8, gap = (gb.toNat : Int) := by
      have hg0 := bounds_u8 hgw
      exact ⟨UInt8.ofNat gap.toNat, by rw [UInt8.toNat_ofNat']; omega⟩
    obtain ⟨h1, h2⟩ := hr
    have h1' : ¬ (60 : Int) < (rest.size : Int) := by omega
    have HE := Lib.hid hE
    clear hE
    have hm1 : k.tmod 8 < 8 := Int.tmod_lt_of_pos k (by decide)
    have hm2 : -8 < k.tmod 8 := Int.lt_tmod_of_pos k (by decide)
    have hm3 : (k.tmod 8 + 8).tmod 8 = (k.tmod 8 + 8) % 8 := Int.tmod_eq_emod_of_nonneg (by omega)
    obtain ⟨K, hK, hK8⟩ : ∃ K : Nat, ((k.tmod 8 + 8).tmod 8 = (K : Int)) ∧ K < 8 := ⟨((k.tmod 8 + 8).tmod 8).toNat, by omega, by omega⟩
    clear hm3
    have hw1 : IntKind.i64.wrap (k.tmod 8 + 8) = k.tmod 8 + 8 := IntWalk.i64_in _ (by omega)
    have hw2 : (0 : Int) ≤ (K : Int) := by omega
    have hw3 : (K : Int) < 8 := by omega
    obtain ⟨S, hS, hSl, hSz⟩ := head_at K hK8
    have HSL := Lib.hid hSl
    have HXX := Lib.hid hX
    clear hSl hX
    have hcv := fun W => run_bytes_of_string W 9 25 5 S Tryd.underlying9 Tryd.underlying25 Tryd.underlying5
    have t2 : ¬ (32 : Int) < (gb.toNat : Int) ∨ ((32 : Int) < (gb.toNat : Int) ∧ (((gb.toNat : Int)) != 127) = false) := by
      by_cases h : (32 : Int) < (gb.toNat : Int)
      · exact Or.inr ⟨h, by simp; omega⟩
      · exact Or.inl h
    rcases t2 with t2 | ⟨t2, t3⟩
    · go_enter Tryd.func3, Tryd.ntmps3
      go_wp2_with fail
      refine (alive10 _ HE.out).mono ?_
      rintro e w1 ⟨rfl, b1⟩
      go_wp2_with fail
      go_wp2_with fail
      obtain ⟨W1, hW1⟩ : ∃ W1, w1.alloc (.cells #[Value.string ⟨#[106, 97, 118, 97, 115, 99, 114, 105, 112, 116, 58]⟩, Value.string ⟨#[118, 98, 115, 99, 114, 105, 112, 116, 58]⟩, Value.string ⟨#[102, 105, 108, 101, 58]⟩, Value.string ⟨#[100, 97, 116, 97, 58]⟩, Value.string ⟨#[104, 116, 116, 112, 115, 58]⟩, Value.string ⟨#[109, 97, 105, 108, 116, 111, 58]⟩, Value.string ⟨#[47, 102, 105, 108, 101, 58]⟩, Value.string ⟨#[100, 97, 116, 117, 109, 58]⟩] 9) = W1 := ⟨_, rfl⟩
      have hz1 : w1.heap.size + 1 = W1.heap.size := by rw [← hW1, World.size_alloc]
      have hB1 : Below w.heap.size w W1 := by rw [← hW1]; exact b1.alloc b1.size _
      rw [hW1]
      obtain ⟨C, hC⟩ : ∃ C, grownCap W1 S.size 0 5 = C := ⟨_, rfl⟩
      rw [hC]
      have hSC : S.size ≤ C := by rw [← hC]; exact grownCap_ge _ _ _ _
      have hby := bytes_laid W1 S C 5
      have hB2 : Below w.heap.size w (W1.alloc (.cells (bytesRow S C) 5 ((bytesRow S C).size, (bytesRow S C).size + 1))).drew := (hB1.alloc hB1.size _).drew
      have hby2 : BytesAt (W1.alloc (.cells (bytesRow S C) 5 ((bytesRow S C).size, (bytesRow S C).size + 1))).drew W1.heap.size S.data.toList := hby
      obtain ⟨W3, hW3⟩ : ∃ W3, (W1.alloc (.cells (bytesRow S C) 5 ((bytesRow S C).size, (bytesRow S C).size + 1))).drew = W3 := ⟨_, rfl⟩
      rw [hW3] at hB2 hby2 ⊢
      rw [hz1]
      have hg := hB1.size
      obtain ⟨g, hgg⟩ : ∃ g, W1.heap.size = g := ⟨_, rfl⟩
      rw [hgg] at hby2 hg ⊢
      clear hby hW3 hC hW1 hB1 hcv hS hz1 hgg
      have hbyh := hby2
      rw [HSL.out] at hbyh
      have hlenH : (heads8.getD K []).length = S.size := by rw [Lib.size_eq, HSL.out]
      obtain ⟨n, hn⟩ : ∃ n, S.size = n := ⟨_, rfl⟩
      rw [hn] at hlenH hSz hSC ⊢
      have HBY := Lib.hid hbyh
      have HLH := Lib.hid hlenH
      clear hbyh hby2 hlenH hn
      go_loopw [43] (fun u43 wr => ∃ (j : Nat) (l : List UInt8), j ≤ n ∧ u43 = .int .i64 j ∧ GreatTo (heads8.getD K []) l j ∧ BytesAt wr g l ∧ Below w.heap.size w wr) (fun u43 _ => n - (intOf u43).toNat)
      case atStart => exact ⟨0, _, Nat.zero_le _, rfl, ⟨rfl, fun i hi => absurd hi (by omega), fun i _ => rfl⟩, HBY.out, hB2⟩
      case round =>
        obtain ⟨j, l, hj, rfl, hgt, hby, hbr⟩ := hrel
        have hll : l.length = n := by rw [hgt.1, HLH.out]
        have HGT := Lib.hid hgt
        have HBY2 := Lib.hid hby
        have HLL := Lib.hid hll
        clear hgt hby hll
        by_cases hjn : j < n
        · have hjl : j < l.length := by rw [HLL.out]; exact hjn
          obtain ⟨hc, hf⟩ := HBY2.out j hjl
          obtain ⟨c, hcc⟩ : ∃ c, l.getD j 0 = c := ⟨_, rfl⟩
          rw [hcc] at hc
          by_cases hjlen : j < len
          · obtain ⟨b, off, hx1, hx2, hx3, hx4⟩ := HXX.out
            have hxa := hx1 (by omega)
            have hxb := hx2 (by omega)
            have hxc : wr.cell? ⟨b, off + j, none⟩ = some (.bool (X j)) := (hbr.cell (p := ⟨b, off + j, none⟩) hxb).trans (hx3 j hjlen)
            subst hxa
            cases hxj : X j
            · rw [hxj] at hxc
              clear hx1 hx2 hx3 hxj
              go_wp2_with fail
              go_roundw
              case rel => exact ⟨j + 1, l, by omega, by go_num, HGT.out.stay, HBY2.out, hbr⟩
              case measure => simp [intOf]; omega
            · rw [hxj] at hxc
              clear hx1 hx2 hx3 hxj
              by_cases q1 : (97 : Int) ≤ (c.toNat : Int)
              · by_cases q2 : (c.toNat : Int) ≤ 122
                · have HN := Lib.hid (HGT.out.step hjl (by rw [hcc]; omega) (by rw [hcc]; omega))
                  have HS := Lib.hid (HBY2.out.set j hjl (l.getD j 0 - 32))
                  have HW := sub32 c (by omega)
                  have HCC := Lib.hid hcc
                  clear hcc
                  go_wp2_with fail
                  go_roundw
                  case rel =>
                    refine ⟨j + 1, l.set j (l.getD j 0 - 32), by omega, by go_num, HN.out, ?_, hbr.setCell (by simp; omega) _⟩
                    have := HS.out
                    rw [HCC.out] at this ⊢
                    exact this
                  case measure => simp [intOf]; omega
                · have q2' : ¬ (c.toNat : Int) ≤ 122 := q2
                  clear hcc
                  go_wp2_with fail
                  go_roundw
                  case rel => exact ⟨j + 1, l, by omega, by go_num, HGT.out.stay, HBY2.out, hbr⟩
                  case measure => simp [intOf]; omega
              · clear hcc
                go_wp2_with fail
                go_roundw
                case rel => exact ⟨j + 1, l, by omega, by go_num, HGT.out.stay, HBY2.out, hbr⟩
                case measure => simp [intOf]; omega
          · obtain ⟨b, off, hx1, hx2, hx3, hx4⟩ := HXX.out
            have hjlen' : ¬ (j : Int) < (len : Int) := by omega
            clear hx1 hx2 hx3 hcc
            go_wp2_with fail
            go_roundw
            case rel => exact ⟨j + 1, l, by omega, by go_num, HGT.out.stay, HBY2.out, hbr⟩
            case measure => simp [intOf]; omega
        · obtain rfl : j = n := by omega
          go_wp2_with fail
          have hat1 : at_.tmod ((j : Int) + 1) < (j : Int) + 1 := Int.tmod_lt_of_pos at_ (by omega)
          have hat2 : -((j : Int) + 1) < at_.tmod ((j : Int) + 1) := Int.lt_tmod_of_pos at_ (by omega)
          have hat3 : wrap64 (wrap64 (at_.tmod ((j : Int) + 1) + (j : Int)) + 1) = at_.tmod ((j : Int) + 1) + (j : Int) + 1 := by
            rw [IntWalk.wrap64_in (at_.tmod ((j : Int) + 1) + (j : Int)) (by omega), IntWalk.wrap64_in _ (by omega)]
          have hat4 : (at_.tmod ((j : Int) + 1) + (j : Int) + 1).tmod ((j : Int) + 1) = (at_.tmod ((j : Int) + 1) + (j : Int) + 1) % ((j : Int) + 1) := Int.tmod_eq_emod_of_nonneg (by omega)
          have hat5 : 0 ≤ (at_.tmod ((j : Int) + 1) + (j : Int) + 1) % ((j : Int) + 1) ∧ (at_.tmod ((j : Int) + 1) + (j : Int) + 1) % ((j : Int) + 1) < (j : Int) + 1 := ⟨Int.emod_nonneg _ (by omega), Int.emod_lt_of_pos _ (by omega)⟩
          obtain ⟨I, hI, hI2⟩ : ∃ I : Nat, (wrap64 (wrap64 (at_.tmod ((j : Int) + 1) + (j : Int)) + 1)).tmod ((j : Int) + 1) = (I : Int) ∧ I ≤ j :=
            ⟨((at_.tmod ((j : Int) + 1) + (j : Int) + 1) % ((j : Int) + 1)).toNat, by rw [hat3, hat4]; omega, by omega⟩
          rw [hI]
          have HW1 := Lib.hid hw1
          have HK := Lib.hid hK
          clear hat1 hat2 hat3 hat4 hat5 hI hw1 hw2 hw3 hm1 hm2 hK
          have hIC : I ≤ C := by omega
          have cv1 : ∀ W', BytesAt W' g l → (convert 25 9 (.slice (some ⟨g, 0, none⟩) I C)).run Tryd.prog W' = .ok (.string ⟨(l.take I).toArray⟩) W' := fun W' h => by
            have := run_convert_bytes_back W' 25 9 5 ⟨g, 0, none⟩ C (l.take I) Tryd.underlying25 Tryd.underlying5 Tryd.underlying9 (fun i hi => by
              rw [List.length_take] at hi
              rw [add_at _ rfl]
              simp only [Nat.zero_add]
              rw [(h i (by omega)).1, List.getElem_take, List.getD_eq_getElem?_getD, List.getElem?_eq_getElem (by omega)]
              rfl)
            rw [List.length_take, HLL.out, Nat.min_eq_left hI2] at this
            exact this
          have cv2 : ∀ W', BytesAt W' g l → (convert 25 9 (.slice (if C = I then some ⟨g, 0, none⟩ else some ⟨g, I, none⟩) (j - I) (C - I))).run Tryd.prog W' = .ok (.string ⟨(l.drop I).toArray⟩) W' := fun W' h => by
            rw [show (if C = I then some (⟨g, 0, none⟩ : Addr) else some ⟨g, I, none⟩) = some ⟨g, if C = I then 0 else I, none⟩ by split <;> rfl]
            have := run_convert_bytes_back W' 25 9 5 ⟨g, if C = I then 0 else I, none⟩ (C - I) (l.drop I) Tryd.underlying25 Tryd.underlying5 Tryd.underlying9 (fun i hi => by
              rw [List.length_drop] at hi
              rw [add_at _ rfl]
              simp only
              rw [if_neg (by have := HLL.out; omega)]
              rw [(h (I + i) (by omega)).1, List.getElem_drop, List.getD_eq_getElem?_getD, List.getElem?_eq_getElem (by omega)]
              rfl)
            rw [List.length_drop, HLL.out] at this
            exact this
          have hglt : g < wr.heap.size := by
            have h5 : ∀ k : Fin 8, 0 < (heads8.getD k.val []).length := by decide
            have := h5 ⟨K, hK8⟩
            rw [HLH.out] at this
            exact World.block_lt_of_cell? _ _ (HBY2.out 0 (by rw [HLL.out]; exact this)).1
          have f1 := cv1 wr.drew HBY2.out
          have f2 := cv2 wr.drew HBY2.out
          have hB5 : BytesAt (wr.alloc (.cells #[.int .u8 (gb.toNat : Int)] 5)).drew g l := HBY2.out.below (((Below.refl wr.heap.size wr).alloc (Nat.le_refl _) _).drew) hglt
          have f3 := cv1 _ hB5
          have f4 := cv2 _ hB5
          have f5 : (convert 25 9 (.slice (some ⟨wr.heap.size, 0, none⟩) 1 1)).run Tryd.prog (wr.alloc (.cells #[.int .u8 (gb.toNat : Int)] 5)).drew = .ok (.string ⟨#[gb]⟩) (wr.alloc (.cells #[.int .u8 (gb.toNat : Int)] 5)).drew := one_byte wr.drew gb wr.heap.size rfl
          clear cv1 cv2
          obtain ⟨A, hA⟩ : ∃ A : ByteArray, ⟨(l.take I).toArray⟩ = A := ⟨_, rfl⟩
          obtain ⟨B, hB⟩ : ∃ B : ByteArray, ⟨(l.drop I).toArray⟩ = B := ⟨_, rfl⟩
          rw [hA] at f1 f3
          rw [hB] at f2 f4
          have hAl : A.data.toList = l.take I := by rw [← hA]
          have hBl : B.data.toList = l.drop I := by rw [← hB]
          have hAz : A.size ≤ 11 := by have := HLL.out; rw [Lib.size_eq, hAl, List.length_take]; omega
          have hBz : B.size ≤ 11 := by have := HLL.out; rw [Lib.size_eq, hBl, List.length_drop]; omega
          have HAL := Lib.hid hAl
          have HBL := Lib.hid hBl
          clear hA hB hAl hBl
          go_region
          have HGG := HGT.out
          have hcall : ∀ (U : ByteArray) W', U.data.toList = l.take I ++ gb :: (l.drop I ++ rest.data.toList) → Calls Tryd.prog 22 #[.string U] W' fun e w' => e = .returned (.bool (decide (4 ≤ K))) ∧ Below W'.heap.size W' w' := fun U W' hU => by
            have hUz : U.size ≤ 1000000 := by
              rw [Lib.size_eq, hU, List.length_append, List.length_take, List.length_cons, List.length_append, List.length_drop, HLL.out, ← Lib.size_eq]; omega
            have := safe_any U W' hUz
            unfold safe at this
            rw [strip_eq, hU, schemes_safe ⟨K, hK8⟩ l gb I rest.data.toList (by omega) HGG.1 (fun i hi => HGG.2.1 i (by rw [← HLL.out]; exact hi))] at this
            exact this
          have HCALL := Lib.hid hcall
          clear hcall HGG
          have hw1 := HW1.out
          have hK := HK.out
          obtain ⟨W5, hW5⟩ : ∃ W5, (wr.alloc (.cells #[.int .u8 (gb.toNat : Int)] 5)).drew = W5 := ⟨_, rfl⟩
          have hB6 : Below w.heap.size w W5 := by rw [← hW5]; exact (hbr.alloc hbr.size _).drew
          rw [hW5]
          clear f1 f2 f3 f4 f5 hB5 hW5
          go_wp2_with fail
          all_goals
            refine (HCALL.out _ _ (by simp only [app_list, HAL.out, HBL.out]; simp)).mono ?_
            rintro e w6 ⟨rfl, b6⟩
            have B6 := below_step hB6 b6
            go_wp2_with fail
            go_ret
            exact ⟨ret_bool (dec4 K), B6⟩
    · go_enter Tryd.func3, Tryd.ntmps3
      go_wp2_with fail
      refine (alive10 _ HE.out).mono ?_
      rintro e w1 ⟨rfl, b1⟩
      go_wp2_with fail
      go_wp2_with fail
      obtain ⟨W1, hW1⟩ : ∃ W1, w1.alloc (.cells #[Value.string ⟨#[106, 97, 118, 97, 115, 99, 114, 105, 112, 116, 58]⟩, Value.string ⟨#[118, 98, 115, 99, 114, 105, 112, 116, 58]⟩, Value.string ⟨#[102, 105, 108, 101, 58]⟩, Value.string ⟨#[100, 97, 116, 97, 58]⟩, Value.string ⟨#[104, 116, 116, 112, 115, 58]⟩, Value.string ⟨#[109, 97, 105, 108, 116, 111, 58]⟩, Value.string ⟨#[47, 102, 105, 108, 101, 58]⟩, Value.string ⟨#[100, 97, 116, 117, 109, 58]⟩] 9) = W1 := ⟨_, rfl⟩
      have hz1 : w1.heap.size + 1 = W1.heap.size := by rw [← hW1, World.size_alloc]
      have hB1 : Below w.heap.size w W1 := by rw [← hW1]; exact b1.alloc b1.size _
      rw [hW1]
      obtain ⟨C, hC⟩ : ∃ C, grownCap W1 S.size 0 5 = C := ⟨_, rfl⟩
      rw [hC]
      have hSC : S.size ≤ C := by rw [← hC]; exact grownCap_ge _ _ _ _
      have hby := bytes_laid W1 S C 5
      have hB2 : Below w.heap.size w (W1.alloc (.cells (bytesRow S C) 5 ((bytesRow S C).size, (bytesRow S C).size + 1))).drew := (hB1.alloc hB1.size _).drew
      have hby2 : BytesAt (W1.alloc (.cells (bytesRow S C) 5 ((bytesRow S C).size, (bytesRow S C).size + 1))).drew W1.heap.size S.data.toList := hby
      obtain ⟨W3, hW3⟩ : ∃ W3, (W1.alloc (.cells (bytesRow S C) 5 ((bytesRow S C).size, (bytesRow S C).size + 1))).drew = W3 := ⟨_, rfl⟩
      rw [hW3] at hB2 hby2 ⊢
      rw [hz1]
      have hg := hB1.size
      obtain ⟨g, hgg⟩ : ∃ g, W1.heap.size = g := ⟨_, rfl⟩
      rw [hgg] at hby2 hg ⊢
      clear hby hW3 hC hW1 hB1 hcv hS hz1 hgg
      have hbyh := hby2
      rw [HSL.out] at hbyh
      have hlenH : (heads8.getD K []).length = S.size := by rw [Lib.size_eq, HSL.out]
      obtain ⟨n, hn⟩ : ∃ n, S.size = n := ⟨_, rfl⟩
      rw [hn] at hlenH hSz hSC ⊢
      have HBY := Lib.hid hbyh
      have HLH := Lib.hid hlenH
      clear hbyh hby2 hlenH hn
      go_loopw [43] (fun u43 wr => ∃ (j : Nat) (l : List UInt8), j ≤ n ∧ u43 = .int .i64 j ∧ GreatTo (heads8.getD K []) l j ∧ BytesAt wr g l ∧ Below w.heap.size w wr) (fun u43 _ => n - (intOf u43).toNat)
      case atStart => exact ⟨0, _, Nat.zero_le _, rfl, ⟨rfl, fun i hi => absurd hi (by omega), fun i _ => rfl⟩, HBY.out, hB2⟩
      case round =>
        obtain ⟨j, l, hj, rfl, hgt, hby, hbr⟩ := hrel
        have hll : l.length = n := by rw [hgt.1, HLH.out]
        have HGT := Lib.hid hgt
        have HBY2 := Lib.hid hby
        have HLL := Lib.hid hll
        clear hgt hby hll
        by_cases hjn : j < n
        · have hjl : j < l.length := by rw [HLL.out]; exact hjn
          obtain ⟨hc, hf⟩ := HBY2.out j hjl
          obtain ⟨c, hcc⟩ : ∃ c, l.getD j 0 = c := ⟨_, rfl⟩
          rw [hcc] at hc
          by_cases hjlen : j < len
          · obtain ⟨b, off, hx1, hx2, hx3, hx4⟩ := HXX.out
            have hxa := hx1 (by omega)
            have hxb := hx2 (by omega)
            have hxc : wr.cell? ⟨b, off + j, none⟩ = some (.bool (X j)) := (hbr.cell (p := ⟨b, off + j, none⟩) hxb).trans (hx3 j hjlen)
            subst hxa
            cases hxj : X j
            · rw [hxj] at hxc
              clear hx1 hx2 hx3 hxj
              go_wp2_with fail
              go_roundw
              case rel => exact ⟨j + 1, l, by omega, by go_num, HGT.out.stay, HBY2.out, hbr⟩
              case measure => simp [intOf]; omega
            · rw [hxj] at hxc
              clear hx1 hx2 hx3 hxj
              by_cases q1 : (97 : Int) ≤ (c.toNat : Int)
              · by_cases q2 : (c.toNat : Int) ≤ 122
                · have HN := Lib.hid (HGT.out.step hjl (by rw [hcc]; omega) (by rw [hcc]; omega))
                  have HS := Lib.hid (HBY2.out.set j hjl (l.getD j 0 - 32))
                  have HW := sub32 c (by omega)
                  have HCC := Lib.hid hcc
                  clear hcc
                  go_wp2_with fail
                  go_roundw
                  case rel =>
                    refine ⟨j + 1, l.set j (l.getD j 0 - 32), by omega, by go_num, HN.out, ?_, hbr.setCell (by simp; omega) _⟩
                    have := HS.out
                    rw [HCC.out] at this ⊢
                    exact this
                  case measure => simp [intOf]; omega
                · have q2' : ¬ (c.toNat : Int) ≤ 122 := q2
                  clear hcc
                  go_wp2_with fail
                  go_roundw
                  case rel => exact ⟨j + 1, l, by omega, by go_num, HGT.out.stay, HBY2.out, hbr⟩
                  case measure => simp [intOf]; omega
              · clear hcc
                go_wp2_with fail
                go_roundw
                case rel => exact ⟨j + 1, l, by omega, by go_num, HGT.out.stay, HBY2.out, hbr⟩
                case measure => simp [intOf]; omega
          · obtain ⟨b, off, hx1, hx2, hx3, hx4⟩ := HXX.out
            have hjlen' : ¬ (j : Int) < (len : Int) := by omega
            clear hx1 hx2 hx3 hcc
            go_wp2_with fail
            go_roundw
            case rel => exact ⟨j + 1, l, by omega, by go_num, HGT.out.stay, HBY2.out, hbr⟩
            case measure => simp [intOf]; omega
        · obtain rfl : j = n := by omega
          go_wp2_with fail
          have hat1 : at_.tmod ((j : Int) + 1) < (j : Int) + 1 := Int.tmod_lt_of_pos at_ (by omega)
          have hat2 : -((j : Int) + 1) < at_.tmod ((j : Int) + 1) := Int.lt_tmod_of_pos at_ (by omega)
          have hat3 : wrap64 (wrap64 (at_.tmod ((j : Int) + 1) + (j : Int)) + 1) = at_.tmod ((j : Int) + 1) + (j : Int) + 1 := by
            rw [IntWalk.wrap64_in (at_.tmod ((j : Int) + 1) + (j : Int)) (by omega), IntWalk.wrap64_in _ (by omega)]
          have hat4 : (at_.tmod ((j : Int) + 1) + (j : Int) + 1).tmod ((j : Int) + 1) = (at_.tmod ((j : Int) + 1) + (j : Int) + 1) % ((j : Int) + 1) := Int.tmod_eq_emod_of_nonneg (by omega)
          have hat5 : 0 ≤ (at_.tmod ((j : Int) + 1) + (j : Int) + 1) % ((j : Int) + 1) ∧ (at_.tmod ((j : Int) + 1) + (j : Int) + 1) % ((j : Int) + 1) < (j : Int) + 1 := ⟨Int.emod_nonneg _ (by omega), Int.emod_lt_of_pos _ (by omega)⟩
          obtain ⟨I, hI, hI2⟩ : ∃ I : Nat, (wrap64 (wrap64 (at_.tmod ((j : Int) + 1) + (j : Int)) + 1)).tmod ((j : Int) + 1) = (I : Int) ∧ I ≤ j :=
            ⟨((at_.tmod ((j : Int) + 1) + (j : Int) + 1) % ((j : Int) + 1)).toNat, by rw [hat3, hat4]; omega, by omega⟩
          rw [hI]
          have HW1 := Lib.hid hw1
          have HK := Lib.hid hK
          clear hat1 hat2 hat3 hat4 hat5 hI hw1 hw2 hw3 hm1 hm2 hK
          have hIC : I ≤ C := by omega
          have cv1 : ∀ W', BytesAt W' g l → (convert 25 9 (.slice (some ⟨g, 0, none⟩) I C)).run Tryd.prog W' = .ok (.string ⟨(l.take I).toArray⟩) W' := fun W' h => by
            have := run_convert_bytes_back W' 25 9 5 ⟨g, 0, none⟩ C (l.take I) Tryd.underlying25 Tryd.underlying5 Tryd.underlying9 (fun i hi => by
              rw [List.length_take] at hi
              rw [add_at _ rfl]
              simp only [Nat.zero_add]
              rw [(h i (by omega)).1, List.getElem_take, List.getD_eq_getElem?_getD, List.getElem?_eq_getElem (by omega)]
              rfl)
            rw [List.length_take, HLL.out, Nat.min_eq_left hI2] at this
            exact this
          have cv2 : ∀ W', BytesAt W' g l → (convert 25 9 (.slice (if C = I then some ⟨g, 0, none⟩ else some ⟨g, I, none⟩) (j - I) (C - I))).run Tryd.prog W' = .ok (.string ⟨(l.drop I).toArray⟩) W' := fun W' h => by
            rw [show (if C = I then some (⟨g, 0, none⟩ : Addr) else some ⟨g, I, none⟩) = some ⟨g, if C = I then 0 else I, none⟩ by split <;> rfl]
            have := run_convert_bytes_back W' 25 9 5 ⟨g, if C = I then 0 else I, none⟩ (C - I) (l.drop I) Tryd.underlying25 Tryd.underlying5 Tryd.underlying9 (fun i hi => by
              rw [List.length_drop] at hi
              rw [add_at _ rfl]
              simp only
              rw [if_neg (by have := HLL.out; omega)]
              rw [(h (I + i) (by omega)).1, List.getElem_drop, List.getD_eq_getElem?_getD, List.getElem?_eq_getElem (by omega)]
              rfl)
            rw [List.length_drop, HLL.out] at this
            exact this
          have hglt : g < wr.heap.size := by
            have h5 : ∀ k : Fin 8, 0 < (heads8.getD k.val []).length := by decide
            have := h5 ⟨K, hK8⟩
            rw [HLH.out] at this
            exact World.block_lt_of_cell? _ _ (HBY2.out 0 (by rw [HLL.out]; exact this)).1
          have f1 := cv1 wr.drew HBY2.out
          have f2 := cv2 wr.drew HBY2.out
          have hB5 : BytesAt (wr.alloc (.cells #[.int .u8 (gb.toNat : Int)] 5)).drew g l := HBY2.out.below (((Below.refl wr.heap.size wr).alloc (Nat.le_refl _) _).drew) hglt
          have f3 := cv1 _ hB5
          have f4 := cv2 _ hB5
          have f5 : (convert 25 9 (.slice (some ⟨wr.heap.size, 0, none⟩) 1 1)).run Tryd.prog (wr.alloc (.cells #[.int .u8 (gb.toNat : Int)] 5)).drew = .ok (.string ⟨#[gb]⟩) (wr.alloc (.cells #[.int .u8 (gb.toNat : Int)] 5)).drew := one_byte wr.drew gb wr.heap.size rfl
          clear cv1 cv2
          obtain ⟨A, hA⟩ : ∃ A : ByteArray, ⟨(l.take I).toArray⟩ = A := ⟨_, rfl⟩
          obtain ⟨B, hB⟩ : ∃ B : ByteArray, ⟨(l.drop I).toArray⟩ = B := ⟨_, rfl⟩
          rw [hA] at f1 f3
          rw [hB] at f2 f4
          have hAl : A.data.toList = l.take I := by rw [← hA]
          have hBl : B.data.toList = l.drop I := by rw [← hB]
          have hAz : A.size ≤ 11 := by have := HLL.out; rw [Lib.size_eq, hAl, List.length_take]; omega
          have hBz : B.size ≤ 11 := by have := HLL.out; rw [Lib.size_eq, hBl, List.length_drop]; omega
          have HAL := Lib.hid hAl
          have HBL := Lib.hid hBl
          clear hA hB hAl hBl
          go_region
          have HGG := HGT.out
          have hcall : ∀ (U : ByteArray) W', U.data.toList = l.take I ++ gb :: (l.drop I ++ rest.data.toList) → Calls Tryd.prog 22 #[.string U] W' fun e w' => e = .returned (.bool (decide (4 ≤ K))) ∧ Below W'.heap.size W' w' := fun U W' hU => by
            have hUz : U.size ≤ 1000000 := by
              rw [Lib.size_eq, hU, List.length_append, List.length_take, List.length_cons, List.length_append, List.length_drop, HLL.out, ← Lib.size_eq]; omega
            have := safe_any U W' hUz
            unfold safe at this
            rw [strip_eq, hU, schemes_safe ⟨K, hK8⟩ l gb I rest.data.toList (by omega) HGG.1 (fun i hi => HGG.2.1 i (by rw [← HLL.out]; exact hi))] at this
            exact this
          have HCALL := Lib.hid hcall
          clear hcall HGG
          have hw1 := HW1.out
          have hK := HK.out
          obtain ⟨W5, hW5⟩ : ∃ W5, (wr.alloc (.cells #[.int .u8 (gb.toNat : Int)] 5)).drew = W5 := ⟨_, rfl⟩
          have hB6 : Below w.heap.size w W5 := by rw [← hW5]; exact (hbr.alloc hbr.size _).drew
          rw [hW5]
          clear f1 f2 f3 f4 f5 hB5 hW5
          go_wp2_with fail
          all_goals
            refine (HCALL.out _ _ (by simp only [app_list, HAL.out, HBL.out]; simp)).mono ?_
            rintro e w6 ⟨rfl, b6⟩
            have B6 := below_step hB6 b6
            go_wp2_with fail
            go_ret
            exact ⟨ret_bool (dec4 K), B6⟩
  · have hcs : (60 : Int) < (rest.size : Int) ∨ (¬ (60 : Int) < (rest.size : Int) ∧ (32 : Int) < gap ∧ (gap != 127) = true) := by
      by_cases h : rest.size ≤ 60
      · exact Or.inr ⟨by omega, by omega, by simp; omega⟩
      · exact Or.inl (by omega)
    clear hr
    rcases hcs with t1 | ⟨t1, t2, t3⟩
    · go_enter Tryd.func3, Tryd.ntmps3
      go_wp2_with fail
      refine (alive10 _ hE).mono ?_
      rintro e w1 ⟨rfl, b1⟩
      go_wp2_with fail
      go_ret
      exact ⟨rfl, b1⟩
    · go_enter Tryd.func3, Tryd.ntmps3
      go_wp2_with fail
      refine (alive10 _ hE).mono ?_
      rintro e w1 ⟨rfl, b1⟩
      go_wp2_with fail
      go_ret
      exact ⟨rfl, b1⟩

end Go.Proofs.YtmllkffdejojbaaDoor
