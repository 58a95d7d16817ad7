/-
  define.Take: the definitions with which a text begins, and the rest.
-/
import Derived.Test.YtmllkffdejojbaaDoorLine2
import Derived.Test.YtmllkffdejojbaaDoorDefLaw
import Derived.Test.YtmllkffdejojbaaDoorFlags
import Derived.OwnWalk
import Derived.Laws.OwnMore
namespace Go.Proofs.YtmllkffdejojbaaDoor
open Go.RowKit
set_option maxRecDepth 100000
set_option linter.unusedVariables false
set_option linter.unusedSimpArgs false

theorem infoDef : (Tryd.prog.info? 40).map (fun i => (i.zero, i.size, i.bytes)) = some (some (.agg #[.string ⟨#[]⟩, .string ⟨#[]⟩, .string ⟨#[]⟩, .string ⟨#[]⟩, .bool false]), 5, 72) := by kernel_rfl

def strSize : Value → Nat
  | .string s => s.size
  | _ => 0

def DefL.cells (d : DefL) : List Value := [.string ⟨d.name.toArray⟩, .string ⟨d.url.toArray⟩, .string ⟨d.title.toArray⟩, .string ⟨d.text.toArray⟩, .bool d.note]
def defCells (l : List DefL) : List Value := l.flatMap DefL.cells
theorem defCells_snoc (l : List DefL) (d : DefL) : defCells (l ++ [d]) = defCells l ++ d.cells := by simp [defCells]
theorem defCells_at : ∀ (l : List DefL) (i j : Nat) (d : DefL), l[i]? = some d → j < 5 → (defCells l)[i * 5 + j]? = d.cells[j]?
  | [], i, j, d, h, _ => by simp at h
  | x :: l, 0, j, d, h, hj => by
    simp at h; subst h
    unfold defCells
    rw [List.flatMap_cons, List.getElem?_append_left (by simp [DefL.cells]; omega)]
    congr 1; omega
  | x :: l, i + 1, j, d, h, hj => by
    have ih := defCells_at l i j d (by simpa using h) hj
    unfold defCells at ih ⊢
    rw [List.flatMap_cons, List.getElem?_append_right (by simp [DefL.cells]; omega), ← ih]
    congr 1
    simp [DefL.cells]; omega

theorem cells_new (w : World) (xs : List Value) (t : TypeId) (b : Nat) (hb : b = w.heap.size) : ∀ j u, xs[j]? = some u → (w.alloc (.cells xs.toArray t)).cell? ((⟨b, 0, none⟩ : Addr).add j) = some u := by
  subst hb
  intro j u hj
  rw [add_at _ rfl]
  simp [hj]

theorem own_below {w w' : World} {base : Nat} {e : TypeId} {size : Nat} {v : Value} {n : Nat} {xs : List Value} (h : w.ownsRow base e size v n xs) (hb : Below w.heap.size w w') : w'.ownsRow base e size v n xs :=
  h.kept (row := none) ⟨hb.os, hb.tape, hb.output, hb.size, fun k hk _ => hb.block k hk⟩ (Classical.em _)

theorem cut_less (c : UInt8) (l : List UInt8) (h : l ≠ []) : (cutAt c l).2.1.length < l.length := by
  have hp := List.length_pos_iff.2 h
  unfold cutAt Lib.cut
  split
  · simp only [List.length_drop, List.length_cons, List.length_nil]; omega
  · simp; omega

set_option maxHeartbeats 4000000 in
theorem take_any (s : ByteArray) (w : World) (hE : Env w) (hs : s.size ≤ 1000000) :
    Calls Tryd.prog 32 #[.string s] w fun e w' => ∃ v, e = .returned (.tuple #[v, .string ⟨(takeL (s.size + 1) s.data.toList []).2.toArray⟩]) ∧
      w'.ownsRow w.heap.size 40 5 v (takeL (s.size + 1) s.data.toList []).1.length (defCells (takeL (s.size + 1) s.data.toList []).1) ∧ Below w.heap.size w w' := by
  obtain ⟨i0, hi, hz0, hz1, hz2⟩ := info_parts infoDef
  have HE := Lib.hid hE
  clear hE
  go_enter Tryd.func32, Tryd.ntmps32
  go_wp2_with fail
  go_loopw [0, 4] (fun u0 u4 wr => ∃ (S : ByteArray) (out : List DefL) (f : Nat), u0 = .string S ∧ wr.ownsRow w.heap.size 40 5 u4 out.length (defCells out) ∧ Below w.heap.size w wr ∧
    takeL f S.data.toList out = takeL (s.size + 1) s.data.toList [] ∧ S.size < f ∧ out.length + S.size ≤ s.size) (fun u0 _ _ => strSize u0)
  case atStart => exact ⟨s, [], s.size + 1, rfl, World.ownsRow_nil _ _ _ _, Below.refl _ _, rfl, by omega, by simp⟩
  case round =>
    obtain ⟨S, out, f, rfl, hown, hB, hT, hf, hol⟩ := hrel
    obtain ⟨f, rfl⟩ : ∃ g, f = g + 1 := ⟨f - 1, by omega⟩
    have HT := Lib.hid hT
    clear hT
    by_cases hS0 : 0 < S.size
    · have he := empty_no hS0
      have hne : S.data.toList ≠ [] := by intro h; rw [Lib.size_eq, h] at hS0; exact absurd hS0 (by simp)
      obtain ⟨A, hA, hAz⟩ := ba_at (cutAt 10 S.data.toList).1
      obtain ⟨R, hR, hRz⟩ := ba_at (cutAt 10 S.data.toList).2.1
      have hcl := cut_len 10 S.data.toList
      have hcs := cut_less 10 S.data.toList hne
      rw [← hAz, ← hRz, ← Lib.size_eq] at hcl
      rw [← hRz, ← Lib.size_eq] at hcs
      have e2 : cutAt 10 S.data.toList = (A.data.toList, R.data.toList, (cutAt 10 S.data.toList).2.2) := by rw [hA, hR]
      obtain ⟨b, hb⟩ : ∃ b, (cutAt 10 S.data.toList).2.2 = b := ⟨_, rfl⟩
      rw [hb] at e2
      have hc := fun W hW => cut_any 10 S W hW (by omega)
      rw [e2] at hc
      have hln := fun W hW => line_any A W hW (by omega)
      have hT := HT.out
      rw [takeL, if_neg hne, e2] at hT
      simp only at hT
      obtain ⟨d, is, hd⟩ : ∃ d is, lineL A.data.toList = (d, is) := ⟨_, _, rfl⟩
      rw [hd] at hln hT
      simp only [Lib.mk_data, DefL.val, defV] at hc hln hT
      have HC := Lib.hid hc
      have HL := Lib.hid hln
      have HT2 := Lib.hid hT
      clear hc hln hT HT hA hR hAz hRz e2 hb hne hd
      go_wp2_with fail
      refine (HC.out _ (HE.out.below hB)).mono ?_
      rintro e w2 ⟨rfl, b2⟩
      have hB2 := below_step hB b2
      have hown2 := own_below hown b2
      clear b2 hown hB
      go_wp2_with fail
      refine (HL.out _ (HE.out.below hB2)).mono ?_
      rintro e w3 ⟨rfl, b3⟩
      have hB3 := below_step hB2 b3
      have hown3 := own_below hown2 b3
      clear b3 hown2 hB2
      cases is
      · have HT3 := Lib.hid (HT2.out.symm.trans (if_neg (by simp)))
        clear HT2
        go_wp2_with fail
        go_ret2
        refine ⟨u4, ?_, ?_, hB3.alloc hB3.size _⟩
        · rw [HT3.out]; show Ending.returned (.tuple #[u4, .string S]) = _; simp only [Lib.mk_data]
        · rw [HT3.out]; exact hown3.alloc _
      · have HT3 := Lib.hid ((if_pos rfl).symm.trans HT2.out)
        clear HT2
        go_wp2_with (first
          | (at_builtin; refine wpList_append_own _ rfl _ _ 44 rfl w.heap.size 40 i0 (.agg #[.string ⟨#[]⟩, .string ⟨#[]⟩, .string ⟨#[]⟩, .string ⟨#[]⟩, .bool false]) 5 72 Tryd.underlying44 hi hz0 hz1 hz2 rfl (by decide) _ _ _ rfl ((hown3.alloc _).alloc _) ⟨w3.heap.size + 1, 0, none⟩ 1 1 [.string ⟨d.name.toArray⟩, .string ⟨d.url.toArray⟩, .string ⟨d.title.toArray⟩, .string ⟨d.text.toArray⟩, .bool d.note] rfl rfl ?c1 ?c2 ?c3 ?c4 ?c5 ?_))
        case c1 => exact cells_new _ _ _ _ (by simp)
        case c2 => intro u hu; simp at hu; rcases hu with rfl | rfl | rfl | rfl | rfl <;> rfl
        case c3 => unfold maxLen; omega
        case c4 => omega
        case c5 => have := hB3.size; simp; omega
        intro v' w4 hown4 hgrow _
        have hB4 := ((hB3.alloc hB3.size (.cells #[.string ⟨d.name.toArray⟩, .string ⟨d.url.toArray⟩, .string ⟨d.title.toArray⟩, .string ⟨d.text.toArray⟩, .bool d.note] 40)).alloc (by have := hB3.size; simp; omega) (.cells #[.string ⟨d.name.toArray⟩, .string ⟨d.url.toArray⟩, .string ⟨d.title.toArray⟩, .string ⟨d.text.toArray⟩, .bool d.note] 40)).grown hgrow (by have := hB3.size; simp; omega) (fun j hj => (hown3.lt j hj).1)
        clear hgrow hown3 hB3
        go_wp2_with fail
        go_roundw
        case rel => exact ⟨R, out ++ [d], f, rfl, by rw [defCells_snoc, List.length_append]; exact hown4, hB4, HT3.out, by omega, by simp; omega⟩
        case measure => simp only [strSize]; omega
    · have he := empty_yes (s := S) (by omega)
      have hnil : S.data.toList = [] := List.eq_nil_of_length_eq_zero (by rw [← Lib.size_eq]; omega)
      have HT3 := Lib.hid (show takeL (s.size + 1) s.data.toList [] = (out, S.data.toList) by rw [← HT.out, takeL, if_pos hnil])
      clear HT hnil
      go_wp2_with fail
      go_ret2
      refine ⟨u4, ?_, ?_, hB⟩
      · rw [HT3.out]; show Ending.returned (.tuple #[u4, .string S]) = _; simp only [Lib.mk_data]
      · rw [HT3.out]; exact hown

end Go.Proofs.YtmllkffdejojbaaDoor
