/-
  strings.IndexRune of a rune that is not ASCII, in ASCII text: it is not there.
-/
import Derived.Test.YtmllkffdejojbaaDoorShelf
import Derived.Test.YtmllkffdejojbaaDoorStr
import Derived.Laws.Runes
import Derived.Lib.TrimU
import Derived.WalkLawsBesides
import Derived.WalkSpells
import Derived.BigCall
import Derived.WalkMore
import Derived.Lib.Hide
namespace Go.Proofs.YtmllkffdejojbaaDoor
open Go.RowKit
set_option maxRecDepth 100000
set_option linter.unusedVariables false
set_option linter.unusedSimpArgs false

def AllAscii (l : List UInt8) : Prop := ∀ b ∈ l, b.toNat < 128

theorem indexByte_abs (l : List UInt8) (c : UInt8) (h : ∀ b ∈ l, b ≠ c) : Lib.indexByte l c = -1 := by
  induction l with
  | nil => rfl
  | cons b l ih =>
    unfold Lib.indexByte
    rw [ih (fun x hx => h x (List.mem_cons_of_mem _ hx))]
    simp [h b (List.mem_cons_self ..)]

theorem ascii_get {s : ByteArray} (hs : AllAscii s.data.toList) (i : Nat) (hi : i < s.size) : s[i].toNat < 128 :=
  hs _ (Array.getElem_mem_toList (xs := s.data) hi)

theorem decode_one {s : ByteArray} (hs : AllAscii s.data.toList) (i : Nat) (hi : i < s.size) : Utf8.decode s i = (s[i].toNat, 1) := by
  have h1 := ascii_get hs i hi
  exact Go.decode_ascii s i hi h1

set_option maxHeartbeats 2000000 in
theorem indexRune_big (s : ByteArray) (r : Int) (w : World) (hs : AllAscii s.data.toList) (hz : s.size ≤ 1000000000) (h0 : 128 ≤ r) (h1 : r ≤ 2147483647) :
    Calls Tryd.prog 70 #[.string s, .int .i32 r] w fun e w' => e = .returned (.int .i64 (-1)) ∧ Below w.heap.size w w' := by
  by_cases c1 : r = 65533
  · subst c1
    go_enter Tryd.func70, Tryd.ntmps70
    go_wp2_with fail
    go_loopw [] (fun wr => ∃ pos : Nat, wr.heap[w.heap.size]? = some (.stringIter s pos) ∧ Below w.heap.size w wr) (fun wr => s.size - wr.iterPos w.heap.size)
    case atStart =>
      refine ⟨0, ?_, ?_⟩
      · have := World.iter_heap w s 0
        simpa using this
      · exact (Below.refl _ w).alloc (Nat.le_refl _) _
    case round =>
      obtain ⟨pos, hit, hbw⟩ := hrel
      have hsz : w.heap.size < wr.heap.size := (Array.getElem?_eq_some_iff.1 hit).1
      by_cases hp : pos < s.size
      · have hnx : ∀ ty, (Instr.next (.pointer (some ⟨w.heap.size, 0, none⟩)) true ty).run Tryd.prog wr = _ := fun ty => Lib.run_next_any_at wr w.heap.size s pos ty hit hp
        have hd := decode_one hs pos hp
        have hlt := ascii_get hs pos hp
        rw [hd] at hnx
        have hit2 := Lib.iterAt_heap wr w.heap.size s pos (pos + 1) hit
        have hbw2 := Lib.below_iterAt hbw (k := w.heap.size) (by omega) s (pos + 1)
        obtain ⟨x, hx⟩ : ∃ x, s[pos].toNat = x := ⟨_, rfl⟩
        rw [hx] at hlt hnx
        have ht : ((x : Int) == 65533) = false := by simp; omega
        go_wp2
        go_roundw
        case rel => exact ⟨pos + 1, hit2, hbw2⟩
        case measure => simp only [World.iterPos, hit2, hit]; omega
      · have hnx : ∀ ty, (Instr.next (.pointer (some ⟨w.heap.size, 0, none⟩)) true ty).run Tryd.prog wr = _ := fun ty => Lib.run_next_end_at wr w.heap.size s pos ty hit (by omega)
        go_wp2
        go_ret
        exact ⟨rfl, hbw⟩
  · have c1' : (r == 65533) = false := by simpa using c1
    by_cases c2 : Lib.validRune r = true
    · go_enter Tryd.func70, Tryd.ntmps70
      go_wp2_with fail
      refine (Tryd.utf8_ValidRune r w).mono ?_
      rintro e w' ⟨rfl, rfl⟩
      rw [c2]
      have hv : Utf8.valid r = true := by rw [validRune_eq]; exact c2
      obtain ⟨e1, e2, e3⟩ := encode_facts r hv h0
      obtain ⟨q, hq⟩ : ∃ q, Utf8.encode r = q := ⟨_, rfl⟩
      rw [hq] at e1 e2 e3
      have e4 := e3 (by omega)
      go_wp2_with fail
      go_step3
      go_wp2_with fail
      rw [show ((q.size : Int) - 1) = ((q.size - 1 : Nat) : Int) by omega]
      obtain ⟨n, hn⟩ : ∃ n, q.size - 1 = n := ⟨_, rfl⟩
      have hn2 : n < q.size := by omega
      have e4' : 128 ≤ q[n].toNat := by subst hn; exact e4
      clear e4 e3
      rw [hn]
      go_loopw [9] (fun u7 wr => u7 = .int .i64 n ∧ wr = w') (fun _ _ => 0)
      case atStart => exact ⟨rfl, rfl⟩
      case round =>
        obtain ⟨rfl, rfl⟩ := hrel
        by_cases c3 : n < s.size
        · have e5 := ascii_get hs n c3
          obtain ⟨x, hx⟩ : ∃ x, s[n] = x := ⟨_, rfl⟩
          obtain ⟨y, hy⟩ : ∃ y, q[n] = y := ⟨_, rfl⟩
          rw [hx] at e5
          rw [hy] at e4'
          have hne : ((x.toNat : Int) != (y.toNat : Int)) = true := by simp; omega
          have hy2 : ((y.toNat : Int)).toNat.toUInt8 = y := by simp
          have hix : ∀ a b, Lib.indexByte (s.extract a b).data.toList y = -1 := fun a b => indexByte_abs _ _ (fun z hz he => by
            have := hs z (mem_extract hz); rw [he] at this; omega)
          go_wp2_with fail
          go_step3
          go_wp2_with fail
          go_quiet (fail)
          go_wp2_with fail
          have HC : ∀ (a b : Nat) W, Calls Tryd.prog 43 #[.string (s.extract a b), .int .u8 (y.toNat : Int)] W fun e w' => e = .returned (.int .i64 (-1)) ∧ w' = W := fun a b W => by
            refine (Tryd.strings_IndexByte _ _ _).mono ?_
            rintro e w' ⟨rfl, rfl⟩
            rw [hy2, hix]
            exact ⟨rfl, rfl⟩
          have hk1 : IntKind.i64.wrap ((n : Int) + 1) = ((n + 1 : Nat) : Int) := by rw [wrap_small _ (by omega) (by omega)]; omega
          have hk2 : ((n + 1 : Nat) : Int) ≤ (s.size : Int) := by omega
          have hk3 : (((n + 1 : Nat) : Int)).toNat = n + 1 := by omega
          have hk4 : (0 : Int) ≤ ((n + 1 : Nat) : Int) := by omega
          go_region_with (go_at_call 43; refine (HC _ _ _).mono ?_; rintro e w' ⟨rfl, rfl⟩)
          all_goals
            go_wp2_with fail
            rw [Exit.noGoto_ret]
            go_wp2_with fail
            try rw [Exit.noGoto_ret]
            go_ret
            exact ⟨rfl, ((Below.refl _ _).trans ⟨rfl, rfl, rfl, Nat.le_refl _, fun _ _ => rfl⟩)⟩
        · go_wp2_with fail
          rw [Exit.noGoto_ret]
          go_ret
          exact ⟨rfl, Below.refl _ _⟩
    · go_enter Tryd.func70, Tryd.ntmps70
      go_wp2_with fail
      refine (Tryd.utf8_ValidRune r w).mono ?_
      rintro e w' ⟨rfl, rfl⟩
      rw [show Lib.validRune r = false from by simpa using c2]
      go_wp2_with fail
      go_ret
      exact ⟨rfl, Below.refl _ _⟩
end Go.Proofs.YtmllkffdejojbaaDoor
