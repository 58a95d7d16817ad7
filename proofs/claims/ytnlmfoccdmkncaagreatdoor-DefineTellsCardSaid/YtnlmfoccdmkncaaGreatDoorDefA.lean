/-
  The texts Env, Str, IdxRune, EntSpec, Among, EntFn, Named, Num, At, Grow, Bld, Fold, Unesc, Dest, TgtSpec, SafeSpec, TgtLaw, one behind the other.
-/
import Derived.Test.YtnlmfoccdmkncaaGreatDoorRows
import Derived.Test.YtnlmfoccdmkncaaGreatDoorShelf
import Derived.WalkSmall
import Derived.Shelf.Unicode.IsSpaceAny
import Derived.Shelf.Unicode.DecodeSlow
import Derived.Deep.DeepFit
import Derived.WalkKit
import Derived.Lib.Builder
import Derived.Lib.Strings
import Derived.Lib.IndexBytes
import Derived.Laws.Runes
import Derived.Lib.TrimU
import Derived.WalkLawsBesides
import Derived.WalkSpells
import Derived.BigCall
import Derived.WalkMore
import Derived.Lib.Hide
import Derived.Laws.Bits64b
import Derived.Outline
import Derived.Lib.IndexMore
import Derived.Lib.SlTrimSet
import Derived.Laws.OwnMore
import Derived.Deep.DeepCutAuto
import Derived.Deep.CutBlock
import Derived.Laws.Cover4
import Derived.Shelf.Strings.BuilderK
import Derived.Lib.RuneBytes
import Derived.Lib.TrimUEq
import Derived.Lib.TrimAscii
import Derived.Lib.MapLaws
import Derived.Lib.SpaceUEq
import Derived.Deep.LoopGhost

/-
  The package-level variables of the library that the walks read, as the row's condition and the world's shape give them; carried to later worlds.
-/
namespace Go.Proofs.YtnlmfoccdmkncaaGreatDoor
open Go.RowKit

structure Env (w : World) : Prop where
  sp : Lib.TabIs Tryz.prog w "strings.asciiSpace" .u8 Lib.asciiSpaceTab
  white : Lib.WhiteTab 4 w
  u8 : Lib.Utf8Tabs 1 2 w
  maxl : ∃ m, w.cell? ⟨0, 0, none⟩ = some (.int .i64 m)

theorem tab_below {n : String} {g : Nat} {k : IntKind} {zs : List Int} {w w' : World} (hg : Tryz.prog.globalNamed n = some g) (h : Lib.TabIs Tryz.prog w n k zs) (hb : Below w.heap.size w w') : Lib.TabIs Tryz.prog w' n k zs := by
  unfold Lib.TabIs at h ⊢
  refine var?_below hb hg ?_ h
  rcases Nat.lt_or_ge g w.heap.size with h' | h'
  · exact h'
  · unfold World.var? at h
    rw [hg] at h
    simp only [Option.bind_some] at h
    rw [Array.getElem?_eq_none h'] at h
    cases h

theorem Env.below {w w' : World} (h : Env w) (hb : Below w.heap.size w w') : Env w' :=
  ⟨tab_below (g := 3) (by kernel_rfl) h.sp hb, WhiteTab_below h.white hb, Utf8Tabs_below h.u8 hb, by
    obtain ⟨m, hm⟩ := h.maxl
    exact ⟨m, (hb.cell (p := ⟨0, 0, none⟩) (World.block_lt_of_cell? _ _ hm)).trans hm⟩⟩

theorem below_drewN (w : World) (n : Nat) : Below w.heap.size w (w.drewN n) := ⟨rfl, rfl, rfl, Nat.le_refl _, fun _ _ => rfl⟩
theorem below_step {w w1 w2 : World} (h1 : Below w.heap.size w w1) (h2 : Below w1.heap.size w1 w2) : Below w.heap.size w w2 := h1.trans (h2.mono h1.size)

end Go.Proofs.YtnlmfoccdmkncaaGreatDoor

/-
  Small laws on strings, bytes and endings, used by all walks over text.
-/
namespace Go.Proofs.YtnlmfoccdmkncaaGreatDoor
open Go.RowKit

theorem ret_bool {a b : Bool} (h : a = b) : Ending.returned (.bool a) = .returned (.bool b) := by rw [h]
theorem ret_int {k : IntKind} {a b : Int} (h : a = b) : Ending.returned (.int k a) = .returned (.int k b) := by rw [h]
theorem ret_str {l l' : List UInt8} (h : l = l') : Ending.returned (.string ⟨l.toArray⟩) = .returned (.string ⟨l'.toArray⟩) := by rw [h]

/-- A fact of all bytes, asked of each by the kernel. -/
def AllB (p : UInt8 → Prop) : Prop := ∀ n : Fin 256, p (UInt8.ofNat n.val)
theorem allB {p : UInt8 → Prop} (h : AllB p) (c : UInt8) : p c := by
  have := h ⟨c.toNat, c.toNat_lt⟩
  simpa using this

theorem take_succ (s : ByteArray) (k : Nat) (hk : k < s.size) : s.data.toList.take (k + 1) = s.data.toList.take k ++ [s[k]] := by
  rw [List.take_succ_eq_append_getElem (by simpa using hk)]; rfl

theorem take_all (s : ByteArray) : s.data.toList.take s.size = s.data.toList := List.take_of_length_le (by simp)

theorem byte_lt (c : UInt8) : (0 : Int) ≤ (c.toNat : Int) ∧ (c.toNat : Int) < 256 := by have := c.toNat_lt; omega

theorem bytes_eq {p s : ByteArray} (h : (p.toList == s.toList) = true) : p.data.toList = s.data.toList := by
  rw [Lib.toList_data, Lib.toList_data] at h; exact eq_of_beq h
theorem bytes_ne {p s : ByteArray} (h : (p.toList == s.toList) = false) : p.data.toList ≠ s.data.toList := by
  rw [Lib.toList_data, Lib.toList_data] at h; intro e; rw [e] at h; simp at h

theorem drop_at (s : ByteArray) (i : Nat) (h : i < s.size) : s.data.toList.drop i = s[i] :: s.data.toList.drop (i + 1) := by
  rw [List.drop_eq_getElem_cons (by simpa using h)]; rfl
theorem drop_end (s : ByteArray) (i : Nat) (h : s.size ≤ i) : s.data.toList.drop i = [] := List.drop_eq_nil_of_le (by simpa using h)
theorem ret_strs {x : ByteArray} {l : List UInt8} (h : x.data.toList = l) : Ending.returned (.string x) = .returned (.string ⟨l.toArray⟩) := by rw [← h, Lib.mk_data]
theorem ba_of {x : ByteArray} {l : List UInt8} (h : x.data.toList = l) : x = ⟨l.toArray⟩ := by rw [← h, Lib.mk_data]

theorem ret_sb {p : List UInt8 × Bool} {x : ByteArray} {b : Bool} (h : p = (x.data.toList, b)) : Ending.returned (.tuple #[.string x, .bool b]) = .returned (.tuple #[.string ⟨p.1.toArray⟩, .bool p.2]) := by rw [h, Lib.mk_data]
theorem ret_si {p : List UInt8 × Nat} {x : ByteArray} {n : Int} {m : Nat} (h : p = (x.data.toList, m)) (hn : n = m) : Ending.returned (.tuple #[.string x, .int .i64 n]) = .returned (.tuple #[.string ⟨p.1.toArray⟩, .int .i64 p.2]) := by rw [h, hn, Lib.mk_data]
theorem ret_sib {p : List UInt8 × Nat × Bool} {x : ByteArray} {n : Int} {m : Nat} {b : Bool} (h : p = (x.data.toList, m, b)) (hn : n = m) : Ending.returned (.tuple #[.string x, .int .i64 n, .bool b]) = .returned (.tuple #[.string ⟨p.1.toArray⟩, .int .i64 p.2.1, .bool p.2.2]) := by rw [h, hn, Lib.mk_data]
theorem ret_ssib {p : List UInt8 × List UInt8 × Nat × Bool} {x y : ByteArray} {n : Int} {m : Nat} {b : Bool} (h : p = (x.data.toList, y.data.toList, m, b)) (hn : n = m) : Ending.returned (.tuple #[.string x, .string y, .int .i64 n, .bool b]) = .returned (.tuple #[.string ⟨p.1.toArray⟩, .string ⟨p.2.1.toArray⟩, .int .i64 p.2.2.1, .bool p.2.2.2]) := by rw [h, hn, Lib.mk_data, Lib.mk_data]

theorem app_list (a b : ByteArray) : (a ++ b).data.toList = a.data.toList ++ b.data.toList := by simp
theorem ba_eq {a b : ByteArray} (h : a.data.toList = b.data.toList) : a = b := by rw [ba_of h, Lib.mk_data]
theorem empty_no {s : ByteArray} (h : 0 < s.size) : s.toList.isEmpty = false := by
  rw [Lib.toList_data]
  cases hl : s.data.toList with
  | nil => rw [Lib.size_eq, hl] at h; exact absurd h (by simp)
  | cons _ _ => rfl
theorem empty_yes {s : ByteArray} (h : s.size = 0) : s.toList.isEmpty = true := by
  rw [Lib.toList_data]
  have : s.data.toList = [] := List.eq_nil_of_length_eq_zero (by rw [← Lib.size_eq]; exact h)
  rw [this]; rfl
theorem beq_self_bytes (s : ByteArray) : (s.toList == s.toList) = true := by simp

end Go.Proofs.YtnlmfoccdmkncaaGreatDoor

/-
  strings.IndexRune of a rune that is not ASCII, in ASCII text: it is not there.
-/
namespace Go.Proofs.YtnlmfoccdmkncaaGreatDoor
open Go.RowKit
set_option maxRecDepth 100000
set_option linter.unusedVariables false
set_option linter.unusedSimpArgs false

def AllAscii (l : List UInt8) : Prop := ∀ b ∈ l, b.toNat < 128

theorem indexByte_abs (l : List UInt8) (c : UInt8) (h : ∀ b ∈ l, b ≠ c) : Lib.indexByte l c = -1 := by
  induction l with
  | nil => rfl
  | cons b l ih =>
    unfold Lib.indexByte
    rw [ih (fun x hx => h x (List.mem_cons_of_mem _ hx))]
    simp [h b (List.mem_cons_self ..)]

theorem ascii_get {s : ByteArray} (hs : AllAscii s.data.toList) (i : Nat) (hi : i < s.size) : s[i].toNat < 128 :=
  hs _ (Array.getElem_mem_toList (xs := s.data) hi)

theorem decode_one {s : ByteArray} (hs : AllAscii s.data.toList) (i : Nat) (hi : i < s.size) : Utf8.decode s i = (s[i].toNat, 1) := by
  have h1 := ascii_get hs i hi
  exact Go.decode_ascii s i hi h1

set_option maxHeartbeats 2000000 in
theorem indexRune_big (s : ByteArray) (r : Int) (w : World) (hs : AllAscii s.data.toList) (hz : s.size ≤ 1000000000) (h0 : 128 ≤ r) (h1 : r ≤ 2147483647) :
    Calls Tryz.prog 67 #[.string s, .int .i32 r] w fun e w' => e = .returned (.int .i64 (-1)) ∧ Below w.heap.size w w' := by
  by_cases c1 : r = 65533
  · subst c1
    go_enter Tryz.func67, Tryz.ntmps67
    go_wp2_with fail
    go_loopw [] (fun wr => ∃ pos : Nat, wr.heap[w.heap.size]? = some (.stringIter s pos) ∧ Below w.heap.size w wr) (fun wr => s.size - wr.iterPos w.heap.size)
    case atStart =>
      refine ⟨0, ?_, ?_⟩
      · have := World.iter_heap w s 0
        simpa using this
      · exact (Below.refl _ w).alloc (Nat.le_refl _) _
    case round =>
      obtain ⟨pos, hit, hbw⟩ := hrel
      have hsz : w.heap.size < wr.heap.size := (Array.getElem?_eq_some_iff.1 hit).1
      by_cases hp : pos < s.size
      · have hnx : ∀ ty, (Instr.next (.pointer (some ⟨w.heap.size, 0, none⟩)) true ty).run Tryz.prog wr = _ := fun ty => Lib.run_next_any_at wr w.heap.size s pos ty hit hp
        have hd := decode_one hs pos hp
        have hlt := ascii_get hs pos hp
        rw [hd] at hnx
        have hit2 := Lib.iterAt_heap wr w.heap.size s pos (pos + 1) hit
        have hbw2 := Lib.below_iterAt hbw (k := w.heap.size) (by omega) s (pos + 1)
        obtain ⟨x, hx⟩ : ∃ x, s[pos].toNat = x := ⟨_, rfl⟩
        rw [hx] at hlt hnx
        have ht : ((x : Int) == 65533) = false := by simp; omega
        go_wp2
        go_roundw
        case rel => exact ⟨pos + 1, hit2, hbw2⟩
        case measure => simp only [World.iterPos, hit2, hit]; omega
      · have hnx : ∀ ty, (Instr.next (.pointer (some ⟨w.heap.size, 0, none⟩)) true ty).run Tryz.prog wr = _ := fun ty => Lib.run_next_end_at wr w.heap.size s pos ty hit (by omega)
        go_wp2
        go_ret
        exact ⟨rfl, hbw⟩
  · have c1' : (r == 65533) = false := by simpa using c1
    by_cases c2 : Lib.validRune r = true
    · go_enter Tryz.func67, Tryz.ntmps67
      go_wp2_with fail
      refine (Tryz.utf8_ValidRune r w).mono ?_
      rintro e w' ⟨rfl, rfl⟩
      rw [c2]
      have hv : Utf8.valid r = true := by rw [validRune_eq]; exact c2
      obtain ⟨e1, e2, e3⟩ := encode_facts r hv h0
      obtain ⟨q, hq⟩ : ∃ q, Utf8.encode r = q := ⟨_, rfl⟩
      rw [hq] at e1 e2 e3
      have e4 := e3 (by omega)
      go_wp2_with fail
      go_step3
      go_wp2_with fail
      rw [show ((q.size : Int) - 1) = ((q.size - 1 : Nat) : Int) by omega]
      obtain ⟨n, hn⟩ : ∃ n, q.size - 1 = n := ⟨_, rfl⟩
      have hn2 : n < q.size := by omega
      have e4' : 128 ≤ q[n].toNat := by subst hn; exact e4
      clear e4 e3
      rw [hn]
      go_loopw [9] (fun u7 wr => u7 = .int .i64 n ∧ wr = w') (fun _ _ => 0)
      case atStart => exact ⟨rfl, rfl⟩
      case round =>
        obtain ⟨rfl, rfl⟩ := hrel
        by_cases c3 : n < s.size
        · have e5 := ascii_get hs n c3
          obtain ⟨x, hx⟩ : ∃ x, s[n] = x := ⟨_, rfl⟩
          obtain ⟨y, hy⟩ : ∃ y, q[n] = y := ⟨_, rfl⟩
          rw [hx] at e5
          rw [hy] at e4'
          have hne : ((x.toNat : Int) != (y.toNat : Int)) = true := by simp; omega
          have hy2 : ((y.toNat : Int)).toNat.toUInt8 = y := by simp
          have hix : ∀ a b, Lib.indexByte (s.extract a b).data.toList y = -1 := fun a b => indexByte_abs _ _ (fun z hz he => by
            have := hs z (mem_extract hz); rw [he] at this; omega)
          go_wp2_with fail
          go_step3
          go_wp2_with fail
          go_quiet (fail)
          go_wp2_with fail
          have HC : ∀ (a b : Nat) W, Calls Tryz.prog 99 #[.string (s.extract a b), .int .u8 (y.toNat : Int)] W fun e w' => e = .returned (.int .i64 (-1)) ∧ w' = W := fun a b W => by
            refine (Tryz.strings_IndexByte _ _ _).mono ?_
            rintro e w' ⟨rfl, rfl⟩
            rw [hy2, hix]
            exact ⟨rfl, rfl⟩
          have hk1 : IntKind.i64.wrap ((n : Int) + 1) = ((n + 1 : Nat) : Int) := by rw [wrap_small _ (by omega) (by omega)]; omega
          have hk2 : ((n + 1 : Nat) : Int) ≤ (s.size : Int) := by omega
          have hk3 : (((n + 1 : Nat) : Int)).toNat = n + 1 := by omega
          have hk4 : (0 : Int) ≤ ((n + 1 : Nat) : Int) := by omega
          go_region_with (go_at_call 99; refine (HC _ _ _).mono ?_; rintro e w' ⟨rfl, rfl⟩)
          all_goals
            go_wp2_with fail
            rw [Exit.noGoto_ret]
            go_wp2_with fail
            try rw [Exit.noGoto_ret]
            go_ret
            exact ⟨rfl, ((Below.refl _ _).trans ⟨rfl, rfl, rfl, Nat.le_refl _, fun _ _ => rfl⟩)⟩
        · go_wp2_with fail
          rw [Exit.noGoto_ret]
          go_ret
          exact ⟨rfl, Below.refl _ _⟩
    · go_enter Tryz.func67, Tryz.ntmps67
      go_wp2_with fail
      refine (Tryz.utf8_ValidRune r w).mono ?_
      rintro e w' ⟨rfl, rfl⟩
      rw [show Lib.validRune r = false from by simpa using c2]
      go_wp2_with fail
      go_ret
      exact ⟨rfl, Below.refl _ _⟩
end Go.Proofs.YtnlmfoccdmkncaaGreatDoor

/-
  entity's plain functions: digits, numbers, names; the entity with which a text begins.
-/
namespace Go.Proofs.YtnlmfoccdmkncaaGreatDoor
open Go.RowKit

def hexL : List UInt8 := [48, 49, 50, 51, 52, 53, 54, 55, 56, 57, 97, 98, 99, 100, 101, 102]
/-- What a digit stands for; 99: it is none. -/
def digV (c : UInt8) : Nat :=
  if 48 ≤ c ∧ c ≤ 57 then c.toNat - 48 else if 65 ≤ c ∧ c ≤ 70 then c.toNat - 55 else if 97 ≤ c ∧ c ≤ 102 then c.toNat - 87 else 99
def isDig (base : Nat) (c : UInt8) : Bool := decide (digV c < base)
def numVal (base : Nat) (l : List UInt8) : Nat := l.foldl (fun v c => v * base + digV c) 0
def digLen (base : Nat) (l : List UInt8) : Nat := (l.takeWhile (isDig base)).length
def number (base most : Nat) (l : List UInt8) : List UInt8 × Nat :=
  let k := digLen base l
  if most < k ∨ k = 0 ∨ l.getD k 0 ≠ 59 then ([], 0)
  else
    let v := numVal base (l.take k)
    (if v = 0 ∨ Lib.validRune v = false then [239, 191, 189] else (Utf8.encode v).data.toList, k)

theorem bits_or_i32_nat (a b : Nat) (ha : a < 2097152) (hb : b < 2097152) : bits .or .i32 (a : Int) (b : Int) = ((a ||| b : Nat) : Int) := by
  have hx : a ||| b < 2 ^ 21 := Nat.or_lt_two_pow (by omega) (by omega)
  have h1 : (BitVec.ofInt 32 (a : Int)).toNat = a := by
    rw [BitVec.ofInt_natCast, BitVec.toNat_ofNat]; exact Nat.mod_eq_of_lt (by omega)
  have h2 : (BitVec.ofInt 32 (b : Int)).toNat = b := by
    rw [BitVec.ofInt_natCast, BitVec.toNat_ofNat]; exact Nat.mod_eq_of_lt (by omega)
  show IntKind.i32.wrap ((BitVec.ofInt 32 (a : Int) ||| BitVec.ofInt 32 (b : Int)).toNat : Int) = _
  rw [BitVec.toNat_or, h1, h2]
  have hm : (((a ||| b : Nat) : Int)) % 4294967296 = ((a ||| b : Nat) : Int) := by omega
  unfold IntKind.wrap
  simp [IntKind.bits, IntKind.signed]
  omega

theorem or_big (r : Nat) (h : 128 ≤ r) (h1 : r ≤ 1114111) : 128 ≤ bits .or .i32 (r : Int) 32 ∧ bits .or .i32 (r : Int) 32 ≤ 2147483647 := by
  have := bits_or_i32_nat r 32 (by omega) (by omega)
  have e : ((32 : Nat) : Int) = 32 := rfl
  rw [e] at this
  rw [this]
  have h2 : r ≤ r ||| 32 := Nat.left_le_or
  have h3 : r ||| 32 < 2 ^ 21 := Nat.or_lt_two_pow (by omega) (by omega)
  omega

theorem decode_big (s : ByteArray) (i : Nat) (hi : i < s.size) (h : 128 ≤ s[i].toNat) : 128 ≤ (Utf8.decode s i).1 := by
  rw [Lib.decode_at]
  have e : s.get! i = s[i] := by
    simp [ByteArray.get!, getElem!_pos, hi]
    rfl
  rw [e]
  unfold Lib.decodeN
  repeat' split
  all_goals first | omega | (simp only; omega)

/-- The code's tests on a byte. -/
theorem dig_facts (c : UInt8) : c.toNat < 128 →
    (0 ≤ bits BinOp.or IntKind.i32 (c.toNat : Int) 32 ∧ bits BinOp.or IntKind.i32 (c.toNat : Int) 32 < 128) ∧
    (if 48 ≤ c.toNat ∧ c.toNat ≤ 102 ∧ ¬ (57 < c.toNat ∧ c.toNat < 65) then
      (digV c < 16 ∧ Lib.indexByte hexL (bits BinOp.or IntKind.i32 (c.toNat : Int) 32).toNat.toUInt8 = digV c) ∨ (digV c = 99 ∧ Lib.indexByte hexL (bits BinOp.or IntKind.i32 (c.toNat : Int) 32).toNat.toUInt8 = -1)
    else digV c = 99) :=
  allB (p := fun c => c.toNat < 128 →
    (0 ≤ bits BinOp.or IntKind.i32 (c.toNat : Int) 32 ∧ bits BinOp.or IntKind.i32 (c.toNat : Int) 32 < 128) ∧
    (if 48 ≤ c.toNat ∧ c.toNat ≤ 102 ∧ ¬ (57 < c.toNat ∧ c.toNat < 65) then
      (digV c < 16 ∧ Lib.indexByte hexL (bits BinOp.or IntKind.i32 (c.toNat : Int) 32).toNat.toUInt8 = digV c) ∨ (digV c = 99 ∧ Lib.indexByte hexL (bits BinOp.or IntKind.i32 (c.toNat : Int) 32).toNat.toUInt8 = -1)
    else digV c = 99)) (by unfold AllB; decide +kernel) c

end Go.Proofs.YtnlmfoccdmkncaaGreatDoor

/-
  repair.among and what it calls: whether a number lies in one of spans; repair.Ascii.
-/
namespace Go.Proofs.YtnlmfoccdmkncaaGreatDoor
open Go.RowKit
set_option maxRecDepth 100000
set_option linter.unusedVariables false
set_option linter.unusedSimpArgs false

def inSp (r : Int) (p : Int × Int) : Bool := decide (p.1 ≤ r) && decide (r ≤ p.2)
def inSps (r : Int) (l : List (Int × Int)) : Bool := l.any (inSp r)

theorem span_one (a b r : Int) (g : Nat) (w : World) (hc : w.cell? ⟨g, 0, none⟩ = some (.int .i32 r)) (hg : g < w.heap.size) :
    Calls Tryz.prog 106 #[.agg #[.int .i32 a, .int .i32 b], .pointer (some ⟨g, 0, none⟩)] w fun e w' => e = .returned (.bool (inSp r (a, b))) ∧ Below w.heap.size w w' := by
  have h1 : (w.alloc (.cells #[.int .i32 a, .int .i32 b] 97)).cell? ⟨g, 0, none⟩ = some (.int .i32 r) :=
    (((Below.refl w.heap.size w).alloc (Nat.le_refl _) _).cell (p := ⟨g, 0, none⟩) hg).trans hc
  by_cases c1 : a ≤ r
  · go_enter Tryz.func106, Tryz.ntmps106
    go_wp2
    go_ret
    exact ⟨ret_bool (by simp [inSp, c1]), (Below.refl _ _).alloc (Nat.le_refl _) _⟩
  · go_enter Tryz.func106, Tryz.ntmps106
    go_wp2
    go_ret
    exact ⟨ret_bool (by rw [inSp, decide_eq_false (show ¬ a ≤ r by omega)]; rfl), (Below.refl _ _).alloc (Nat.le_refl _) _⟩

def spCells : List (Int × Int) → List Value
  | [] => []
  | p :: l => .int .i32 p.1 :: .int .i32 p.2 :: spCells l

def SpAt (w : World) (b : Nat) (l : List (Int × Int)) : Prop := b < w.heap.size ∧ ∀ i, i < l.length → w.cell? ⟨b, i * 2, none⟩ = some (.int .i32 (l.getD i (0, 0)).1) ∧ w.cell? ⟨b, i * 2 + 1, none⟩ = some (.int .i32 (l.getD i (0, 0)).2)

theorem any_take (r : Int) (l : List (Int × Int)) (k : Nat) (hk : k < l.length) : inSps r (l.take (k + 1)) = (inSps r (l.take k) || inSp r (l.getD k (0, 0))) := by
  unfold inSps
  rw [List.take_succ_eq_append_getElem hk, List.any_append]
  simp [List.getD_eq_getElem?_getD, hk]

def IdxPost (W : World) (r : Int) (l : List (Int × Int)) (e : Ending) (w' : World) : Prop := ∃ n : Int, e = .returned (.int .i64 n) ∧ decide (0 ≤ n) = inSps r l ∧ Below W.heap.size W w'

set_option maxHeartbeats 1000000 in
theorem idx_any (l : List (Int × Int)) (r : Int) (b c g : Nat) (w : World) (hl : l.length ≤ 1000) (hs : SpAt w b l) (hc : w.cell? ⟨g, 0, none⟩ = some (.int .i32 r)) (hg : g < w.heap.size) :
    Calls Tryz.prog 127 #[.slice (some ⟨b, 0, none⟩) l.length c, .func (.func 106) #[] #[.pointer (some ⟨g, 0, none⟩)]] w (IdxPost w r l) := by
  obtain ⟨hb, hcs⟩ := hs
  go_enter Tryz.func127, Tryz.ntmps127
  go_wp2
  go_loopw [8] (fun u8 wr => ∃ k : Nat, k ≤ l.length ∧ u8 = .int .i64 k ∧ Below w.heap.size w wr ∧ inSps r (l.take k) = false) (fun u8 _ => l.length - (intOf u8).toNat)
  case atStart => exact ⟨0, Nat.zero_le _, rfl, Below.refl _ _, rfl⟩
  case round =>
    obtain ⟨k, hk, rfl, hB, hno⟩ := hrel
    have HN := Lib.hid hno
    clear hno
    by_cases hlt : k < l.length
    · have h0 := (hB.cell (p := ⟨b, k * 2, none⟩) hb).trans (hcs k hlt).1
      have h1 := (hB.cell (p := ⟨b, k * 2 + 1, none⟩) hb).trans (hcs k hlt).2
      have hg' := (hB.cell (p := ⟨g, 0, none⟩) hg).trans hc
      have HT := Lib.hid (any_take r l k hlt)
      obtain ⟨x, hx⟩ : ∃ x, x = (l.getD k (0, 0)).1 := ⟨_, rfl⟩
      obtain ⟨y, hy⟩ : ∃ y, y = (l.getD k (0, 0)).2 := ⟨_, rfl⟩
      rw [← hx] at h0
      rw [← hy] at h1
      have HXY := Lib.hid (show l.getD k (0, 0) = (x, y) by rw [hx, hy])
      clear hx hy
      go_wp2_with fail
      refine (span_one x y r g wr hg' (by have := hB.size; omega)).mono ?_
      rintro e w2 ⟨rfl, hb2⟩
      have hbb := hB.trans (hb2.mono hB.size)
      cases hh : inSp r (x, y)
      · have HK := Lib.hid (show inSps r (l.take (k + 1)) = false by rw [HT.out, HN.out, HXY.out, hh]; rfl)
        clear hh
        go_wp2
        go_roundw
        case rel => exact ⟨k + 1, by omega, by go_num, hbb, HK.out⟩
        case measure => simp [intOf]; omega
      · have HK := Lib.hid (show inSps r l = true by
          have e1 : inSps r (l.take (k + 1)) = true := by rw [HT.out, HXY.out, hh]; simp
          unfold inSps at e1 ⊢
          obtain ⟨z, hz, hz'⟩ := List.any_eq_true.1 e1
          exact List.any_eq_true.2 ⟨z, List.mem_of_mem_take hz, hz'⟩)
        clear hh
        go_wp2
        go_ret
        exact ⟨k, rfl, by rw [HK.out]; simp, hbb⟩
    · obtain rfl : k = l.length := by omega
      go_wp2
      go_ret
      exact ⟨-1, rfl, by have := HN.out; rw [List.take_length] at this; rw [this]; rfl, hB⟩

theorem has_any (l : List (Int × Int)) (r : Int) (b c g : Nat) (w : World) (hl : l.length ≤ 1000) (hs : SpAt w b l) (hc : w.cell? ⟨g, 0, none⟩ = some (.int .i32 r)) (hg : g < w.heap.size) :
    Calls Tryz.prog 105 #[.slice (some ⟨b, 0, none⟩) l.length c, .func (.func 106) #[] #[.pointer (some ⟨g, 0, none⟩)]] w fun e w' => e = .returned (.bool (inSps r l)) ∧ Below w.heap.size w w' := by
  have hcall := idx_any l r b c g w hl hs hc hg
  have HC := Lib.hid hcall
  clear hcall
  go_enter Tryz.func105, Tryz.ntmps105
  go_wp2_with fail
  refine HC.out.mono ?_
  rintro e w2 ⟨n, rfl, hn, hb⟩
  have HN := Lib.hid hn
  clear hn
  go_wp2
  go_ret
  exact ⟨ret_bool HN.out, hb⟩

theorem SpAt.below {w w' : World} {b : Nat} {l : List (Int × Int)} (h : SpAt w b l) (hb : Below w.heap.size w w') : SpAt w' b l :=
  ⟨Nat.lt_of_lt_of_le h.1 hb.size, fun i hi => ⟨(hb.cell (p := ⟨b, i * 2, none⟩) h.1).trans (h.2 i hi).1, (hb.cell (p := ⟨b, i * 2 + 1, none⟩) h.1).trans (h.2 i hi).2⟩⟩

theorem among_any (l : List (Int × Int)) (r : Int) (b c : Nat) (w : World) (hl : l.length ≤ 1000) (hs : SpAt w b l) :
    Calls Tryz.prog 72 #[.int .i32 r, .slice (some ⟨b, 0, none⟩) l.length c] w fun e w' => e = .returned (.bool (inSps r l)) ∧ Below w.heap.size w w' := by
  have hba : Below w.heap.size w (w.alloc (.cells #[.int .i32 r] 21)) := (Below.refl _ _).alloc (Nat.le_refl _) _
  have hcall := has_any l r b c w.heap.size (w.alloc (.cells #[.int .i32 r] 21)) hl (hs.below hba) (by simp) (by simp)
  have HC := Lib.hid hcall
  clear hcall
  go_enter Tryz.func72, Tryz.ntmps72
  go_wp2_with fail
  refine HC.out.mono ?_
  rintro e w2 ⟨rfl, hb⟩
  go_wp2
  go_ret
  rw [World.size_alloc] at hb
  exact ⟨rfl, hba.trans (hb.mono (by omega))⟩

def asciiSps : List (Int × Int) := [(33, 47), (58, 64), (91, 96), (123, 126)]
def asciiP (c : UInt8) : Bool := inSps c.toNat asciiSps

theorem ascii_any (c : UInt8) (w : World) :
    Calls Tryz.prog 133 #[.int .u8 c.toNat] w fun e w' => e = .returned (.bool (asciiP c)) ∧ Below w.heap.size w w' := by
  have hc := byte_lt c
  obtain ⟨hc0, hc1⟩ := hc
  let o : Obj := .cells #[.int .i32 33, .int .i32 47, .int .i32 58, .int .i32 64, .int .i32 91, .int .i32 96, .int .i32 123, .int .i32 126] 97
  have hba : Below w.heap.size w (w.alloc o) := (Below.refl _ _).alloc (Nat.le_refl _) _
  have hsp : SpAt (w.alloc o) w.heap.size asciiSps := by
    refine ⟨by simp, fun i hi => ?_⟩
    have : i = 0 ∨ i = 1 ∨ i = 2 ∨ i = 3 := by simp [asciiSps] at hi; omega
    rcases this with rfl | rfl | rfl | rfl <;> simp [asciiSps, o]
  have hcall := among_any asciiSps c.toNat w.heap.size 4 (w.alloc o) (by decide) hsp
  have HC := Lib.hid hcall
  have HB := Lib.hid hba
  clear hcall hba hsp
  go_enter Tryz.func133, Tryz.ntmps133
  go_wp2_with fail
  refine HC.out.mono ?_
  rintro e w2 ⟨rfl, hb⟩
  go_wp2
  go_ret
  rw [World.size_alloc] at hb
  exact ⟨rfl, HB.out.trans (hb.mono (by omega))⟩

end Go.Proofs.YtnlmfoccdmkncaaGreatDoor

/-
  entity's names and what they stand for; the entity with which a text begins; a text without its escapes; the readers of targets, titles and brackets. Plain functions on lists of bytes.
-/
namespace Go.Proofs.YtnlmfoccdmkncaaGreatDoor
open Go.RowKit

def entNames : List (List UInt8) := [[97, 109, 112], [108, 116], [103, 116], [113, 117, 111, 116], [97, 112, 111, 115], [110, 98, 115, 112], [99, 111, 112, 121], [114, 101, 103], [100, 101, 103], [115, 101, 99, 116], [112, 97, 114, 97], [109, 105, 100, 100, 111, 116], [101, 97, 99, 117, 116, 101], [97, 117, 109, 108], [111, 117, 109, 108], [117, 117, 109, 108], [115, 122, 108, 105, 103], [110, 100, 97, 115, 104], [109, 100, 97, 115, 104], [104, 101, 108, 108, 105, 112], [101, 117, 114, 111], [108, 97, 114, 114], [114, 97, 114, 114]]
def entRunes : List Int := [38, 60, 62, 34, 39, 160, 169, 174, 176, 167, 182, 183, 233, 228, 246, 252, 223, 8211, 8212, 8230, 8364, 8592, 8594]
def named (l : List UInt8) : List UInt8 × Bool :=
  match entNames.findIdx? (· == l) with
  | some i => ((Utf8.encode (entRunes.getD i 0)).data.toList, true)
  | none => ([], false)

/-- The entity with which a text begins, and how many bytes it has. -/
def entAt (l : List UInt8) : List UInt8 × Nat :=
  match l with
  | 38 :: 35 :: r =>
    let hex := r.head? = some 120 ∨ r.head? = some 88
    let ahead := if hex then 3 else 2
    let p := number (if hex then 16 else 10) (if hex then 6 else 7) (l.drop ahead)
    if p.2 = 0 then ([], 0) else (p.1, ahead + p.2 + 1)
  | 38 :: rest =>
    let c := Lib.cut rest [59]
    if c.2.2 then
      let n := named c.1
      if n.2 then (n.1, c.1.length + 2) else ([], 0)
    else ([], 0)
  | _ => ([], 0)

def unescF : Nat → List UInt8 → List UInt8
  | 0, _ => []
  | _ + 1, [] => []
  | n + 1, c :: l =>
    if c = 92 ∧ (l.head?.map asciiP).getD false = true then l.take 1 ++ unescF n (l.drop 1)
    else if 0 < (entAt (c :: l)).2 then (entAt (c :: l)).1 ++ unescF n ((c :: l).drop (entAt (c :: l)).2)
    else c :: unescF n l
def unesc (l : List UInt8) : List UInt8 := unescF l.length l

/-- From a place on: where a byte e stands that no backslash is ahead of; none: a bad byte or the end comes first. -/
def scanTo (e : UInt8) (bad : UInt8 → Bool) : Nat → List UInt8 → Nat → Option Nat
  | 0, _, _ => none
  | _ + 1, [], _ => none
  | n + 1, c :: l, i =>
    if c = 92 then (if l.head? = some 0 then none else scanTo e bad n (l.drop 1) (i + 2))
    else if c = e then some i
    else if bad c ∨ c = 0 then none
    else scanTo e bad n l (i + 1)

def angled (l : List UInt8) : List UInt8 × Nat × Bool :=
  match scanTo 62 (fun c => c == 60 || c == 10) l.length (l.drop 1) 1 with
  | some i => (unesc ((l.take i).drop 1), i + 1, true)
  | none => ([], 0, false)

def isWhite (c : UInt8) : Bool := c ≤ 32 || c == 127

def destGo : Nat → List UInt8 → Nat → Nat → Nat × Nat
  | 0, _, o, i => (o, i)
  | _ + 1, [], o, i => (o, i)
  | n + 1, c :: l, o, i =>
    if isWhite c then (o, i)
    else if c = 92 ∧ (l.head?.map (fun d => !isWhite d)).getD false = true then destGo n (l.drop 1) o (i + 2)
    else if c = 40 then destGo n l (o + 1) (i + 1)
    else if c = 41 ∧ o = 0 then (o, i)
    else if c = 41 then destGo n l (o - 1) (i + 1)
    else destGo n l o (i + 1)

def dest (l : List UInt8) : List UInt8 × Nat × Bool :=
  if l.head? = some 60 then angled l
  else
    let p := destGo l.length l 0 0
    if p.2 = 0 ∨ 0 < p.1 then ([], 0, false) else (unesc (l.take p.2), p.2, true)

def title (l : List UInt8) : List UInt8 × Nat × Bool :=
  match l with
  | [] => ([], 0, false)
  | c :: r =>
    if c = 34 ∨ c = 39 ∨ c = 40 then
      let e := if c = 40 then 41 else c
      match scanTo e (fun d => d == 40 && e == 41) r.length r 1 with
      | some i => (unesc ((l.take i).drop 1), i + 1, true)
      | none => ([], 0, false)
    else ([], 0, false)

def whites : List UInt8 := [32, 9, 10]
def skipW (l : List UInt8) (at_ : Nat) : Nat := l.length - (Lib.trimLeftS (l.drop at_) whites).length

def inside (l : List UInt8) : List UInt8 × List UInt8 × Nat × Bool :=
  if l.head? = some 40 then
    let a := skipW l 1
    let d := dest (l.drop a)
    let b := if d.2.2 then skipW l (a + d.2.1) else a
    let gap := if d.2.2 then decide (a + d.2.1 < b) else decide (1 < a)
    let t := if gap then title (l.drop b) else ([], 0, false)
    let z := if t.2.2 then skipW l (b + t.2.1) else b
    if l[z]? = some 41 then (d.1, t.1, z + 1, true) else ([], [], 0, false)
  else ([], [], 0, false)

theorem entAt_other (c : UInt8) (l : List UInt8) (h : c ≠ 38) : entAt (c :: l) = ([], 0) := by
  unfold entAt
  split
  · rename_i heq; simp only [List.cons.injEq] at heq; exact absurd heq.1 h
  · rename_i heq; simp only [List.cons.injEq] at heq; exact absurd heq.1 h
  · rfl

end Go.Proofs.YtnlmfoccdmkncaaGreatDoor

/-
  entity.Names, runes, Named: what a name stands for.
-/
namespace Go.Proofs.YtnlmfoccdmkncaaGreatDoor
open Go.RowKit
set_option maxRecDepth 100000
set_option linter.unusedVariables false
set_option linter.unusedSimpArgs false

def NamesAt (w : World) (A : Nat) : Prop := A < w.heap.size ∧ ∀ i, i < 23 → w.cell? ⟨A, i, none⟩ = some (.string ⟨(entNames.getD i []).toArray⟩)

def NamesPost (w : World) (e : Ending) (w' : World) : Prop := ∃ A, e = .returned (.slice (some ⟨A, 0, none⟩) 23 23) ∧ NamesAt w' A ∧ w.heap.size ≤ A ∧ Below w.heap.size w w'

theorem entNames_len : entNames.length = 23 := rfl

def namesBA : ByteArray := ⟨#[97, 109, 112, 32, 108, 116, 32, 103, 116, 32, 113, 117, 111, 116, 32, 97, 112, 111, 115, 32, 110, 98, 115, 112, 32, 99, 111, 112, 121, 32, 114, 101, 103, 32, 100, 101, 103, 32, 115, 101, 99, 116, 32, 112, 97, 114, 97, 32, 109, 105, 100, 100, 111, 116, 32, 101, 97, 99, 117, 116, 101, 32, 97, 117, 109, 108, 32, 111, 117, 109, 108, 32, 117, 117, 109, 108, 32, 115, 122, 108, 105, 103, 32, 110, 100, 97, 115, 104, 32, 109, 100, 97, 115, 104, 32, 104, 101, 108, 108, 105, 112, 32, 101, 117, 114, 111, 32, 108, 97, 114, 114, 32, 114, 97, 114, 114]⟩
theorem fields_ba : Lib.fieldsD namesBA.data.toList = entNames := by decide +kernel

theorem fields_names (w : World) (hE : Env w) : Calls Tryz.prog 143 #[.string namesBA] w (NamesPost w) := by
  have h := Tryz.strings_Fields_any namesBA w (by decide) hE.sp hE.white
  rw [fields_ba] at h
  refine h.mono ?_
  rintro e w1 ⟨A, rfl, hA, ho, hB⟩
  refine ⟨A, rfl, ⟨(ho.lt A rfl).2, fun i hi => ?_⟩, hA, hB⟩
  have := ho.cellAt i (by rw [entNames_len]; omega)
  rw [this, List.getElem?_map]
  have h23 : i < entNames.length := by rw [entNames_len]; exact hi
  simp [List.getD_eq_getElem?_getD, h23]

theorem names_any (w : World) (hE : Env w) : Calls Tryz.prog 141 #[] w (NamesPost w) := by
  go_enter Tryz.func141, Tryz.ntmps141
  go_wp2_with fail
  refine (fields_names _ hE).mono ?_
  rintro e w1 ⟨A, rfl, hN, hA, hB⟩
  have HN := Lib.hid hN
  clear hN
  go_wp2_with fail
  go_ret
  exact ⟨A, rfl, HN.out, hA, hB⟩

def runesObj : Obj := .cells #[.int .i32 38, .int .i32 60, .int .i32 62, .int .i32 34, .int .i32 39, .int .i32 160, .int .i32 169, .int .i32 174, .int .i32 176, .int .i32 167, .int .i32 182, .int .i32 183, .int .i32 233, .int .i32 228, .int .i32 246, .int .i32 252, .int .i32 223, .int .i32 8211, .int .i32 8212, .int .i32 8230, .int .i32 8364, .int .i32 8592, .int .i32 8594] 21
theorem runes_any (w : World) : Calls Tryz.prog 142 #[] w fun e w' => e = .returned (.slice (some ⟨w.heap.size, 0, none⟩) 23 23) ∧ w' = w.alloc runesObj := by
  go_enter Tryz.func142, Tryz.ntmps142
  go_wp2_with fail
  go_ret
  exact ⟨rfl, rfl⟩

theorem rune_cell (w : World) (k : Nat) (hk : k < 23) : (w.alloc runesObj).cell? ⟨w.heap.size, k, none⟩ = some (.int .i32 (entRunes.getD k 0)) := by
  unfold runesObj
  rw [World.cell?_alloc_at _ _ _ _ rfl]
  have : k = 0 ∨ k = 1 ∨ k = 2 ∨ k = 3 ∨ k = 4 ∨ k = 5 ∨ k = 6 ∨ k = 7 ∨ k = 8 ∨ k = 9 ∨ k = 10 ∨ k = 11 ∨ k = 12 ∨ k = 13 ∨ k = 14 ∨ k = 15 ∨ k = 16 ∨ k = 17 ∨ k = 18 ∨ k = 19 ∨ k = 20 ∨ k = 21 ∨ k = 22 := by omega
  rcases this with rfl | rfl | rfl | rfl | rfl | rfl | rfl | rfl | rfl | rfl | rfl | rfl | rfl | rfl | rfl | rfl | rfl | rfl | rfl | rfl | rfl | rfl | rfl <;> rfl

theorem named_none (l : List UInt8) (h : ∀ j, j < 23 → entNames.getD j [] ≠ l) : named l = ([], false) := by
  unfold named
  have : entNames.findIdx? (· == l) = none := by
    rw [List.findIdx?_eq_none_iff]
    intro x hx
    obtain ⟨j, hj, rfl⟩ := List.mem_iff_getElem.1 hx
    have := h j (by rw [entNames_len] at hj; exact hj)
    simp [List.getD_eq_getElem?_getD, hj] at this
    simpa using this
  rw [this]

theorem named_some (l : List UInt8) (k : Nat) (hk : k < 23) (h : ∀ j, j < k → entNames.getD j [] ≠ l) (he : entNames.getD k [] = l) : named l = ((Utf8.encode (entRunes.getD k 0)).data.toList, true) := by
  unfold named
  have hk' : k < entNames.length := by rw [entNames_len]; exact hk
  have : entNames.findIdx? (· == l) = some k := by
    rw [List.findIdx?_eq_some_iff_getElem]
    refine ⟨hk', ?_, fun j hj => ?_⟩
    · simp [List.getD_eq_getElem?_getD, hk'] at he
      simpa using he
    · have := h j hj
      have hj' : j < entNames.length := by omega
      simp [List.getD_eq_getElem?_getD, hj'] at this
      simpa using this
  rw [this]

set_option maxHeartbeats 2000000 in
theorem named_any (s : ByteArray) (w : World) (hE : Env w) :
    Calls Tryz.prog 140 #[.string s] w fun e w' => e = .returned (.tuple #[.string ⟨(named s.data.toList).1.toArray⟩, .bool (named s.data.toList).2]) ∧ Below w.heap.size w w' := by
  go_enter Tryz.func140, Tryz.ntmps140
  go_wp2_with fail
  refine (names_any _ hE).mono ?_
  rintro e w1 ⟨A, rfl, ⟨hAl, hN⟩, hA, hB⟩
  have HN := Lib.hid hN
  clear hN
  go_wp2_with fail
  go_loop [8] (fun u8 => ∃ k : Nat, k ≤ 23 ∧ u8 = .int .i64 k ∧ ∀ j, j < k → entNames.getD j [] ≠ s.data.toList) (fun u8 => 23 - (intOf u8).toNat)
  case atStart => exact ⟨0, by omega, rfl, fun j hj => by omega⟩
  case round =>
    obtain ⟨k, hk, rfl, hno⟩ := hrel
    have HNO := Lib.hid hno
    clear hno
    by_cases hlt : k < 23
    · have hc := HN.out k hlt
      obtain ⟨p, hp⟩ : ∃ p : ByteArray, p = ⟨(entNames.getD k []).toArray⟩ := ⟨_, rfl⟩
      rw [← hp] at hc
      have HP := Lib.hid (show p.data.toList = entNames.getD k [] by rw [hp])
      clear hp
      have hr := rune_cell w1 k hlt
      obtain ⟨r, hr0⟩ : ∃ r, entRunes.getD k 0 = r := ⟨_, rfl⟩
      rw [hr0] at hr
      have HR := Lib.hid hr0
      clear hr0
      cases he : (p.toList == s.toList)
      · have hne := bytes_ne he
        have HE := Lib.hid hne
        go_wp2_with fail
        go_round
        case rel => exact ⟨k + 1, by omega, by go_num, fun j hj => by
          by_cases e : j = k
          · subst e; rw [← HP.out]; exact HE.out
          · exact HNO.out j (by omega)⟩
        case measure => simp [intOf]; omega
      · have HS := Lib.hid (named_some s.data.toList k hlt HNO.out (by rw [← HP.out]; exact bytes_eq he))
        go_wp2_with fail
        refine (runes_any _).mono ?_
        rintro e w2 ⟨rfl, rfl⟩
        go_wp2_with fail
        go_ret2
        exact ⟨ret_sb (by rw [HS.out, HR.out]), hB.trans ((Below.refl _ _).alloc (by have := hB.size; omega) _)⟩
    · obtain rfl : k = 23 := by omega
      have HS := Lib.hid (named_none s.data.toList HNO.out)
      go_wp2_with fail
      go_ret2
      exact ⟨ret_sb HS.out, hB⟩

end Go.Proofs.YtnlmfoccdmkncaaGreatDoor

/-
  entity.number: the rune of digits.
-/
namespace Go.Proofs.YtnlmfoccdmkncaaGreatDoor
open Go.RowKit
set_option maxRecDepth 100000
set_option linter.unusedVariables false
set_option linter.unusedSimpArgs false

theorem digLen_step (base : Nat) : ∀ (l : List UInt8) (k : Nat), k ≤ digLen base l → k < l.length → isDig base (l.getD k 0) = true → k + 1 ≤ digLen base l := by
  intro l
  induction l with
  | nil => intro k _ h; simp at h
  | cons c l ih =>
    intro k h1 h2 h3
    unfold digLen at *
    rw [List.takeWhile_cons] at *
    cases k with
    | zero => simp at h3; simp [h3]
    | succ k =>
      split at h1
      · rename_i hc
        simp only [List.length_cons] at *
        have := ih k (by omega) (by omega) (by simpa using h3)
        simp [hc]; omega
      · simp at h1

theorem digLen_stop (base : Nat) : ∀ (l : List UInt8) (k : Nat), k ≤ digLen base l → isDig base (l.getD k 0) = false → digLen base l = k := by
  intro l
  induction l with
  | nil => intro k h _; simp [digLen] at *; omega
  | cons c l ih =>
    intro k h1 h3
    unfold digLen at *
    rw [List.takeWhile_cons] at *
    cases k with
    | zero => simp at h3; simp [h3]
    | succ k =>
      split at h1
      · rename_i hc
        simp only [List.length_cons] at *
        have := ih k (by omega) (by simpa using h3)
        simp [hc, this]
      · simp at h1

theorem digLen_le (base : Nat) (l : List UInt8) : digLen base l ≤ l.length := by
  unfold digLen; exact (List.takeWhile_sublist _).length_le

theorem numVal_step (base : Nat) (l : List UInt8) (k : Nat) (hk : k < l.length) : numVal base (l.take (k + 1)) = numVal base (l.take k) * base + digV (l.getD k 0) := by
  unfold numVal
  rw [List.take_succ_eq_append_getElem hk, List.foldl_append]
  simp [List.getD_eq_getElem?_getD, hk]

theorem getD_byte (s : ByteArray) (k : Nat) (hk : k < s.size) : s.data.toList.getD k 0 = s[k] := by
  simp [List.getD_eq_getElem?_getD, hk]; rfl

theorem number_none (base most : Nat) (l : List UInt8) (h : most < digLen base l ∨ digLen base l = 0 ∨ l.getD (digLen base l) 0 ≠ 59) : number base most l = ([], 0) := by
  unfold number
  exact if_pos h

theorem number_some (base most : Nat) (l : List UInt8) (h1 : digLen base l ≤ most) (h2 : digLen base l ≠ 0) (h3 : l.getD (digLen base l) 0 = 59) :
    number base most l = (if numVal base (l.take (digLen base l)) = 0 ∨ Lib.validRune (numVal base (l.take (digLen base l))) = false then [239, 191, 189] else (Utf8.encode (numVal base (l.take (digLen base l)))).data.toList, digLen base l) := by
  unfold number
  rw [if_neg (by rintro (h | h | h); omega; exact h2 h; exact h h3)]

theorem ret_num {p q : List UInt8 × Nat} (h : p = q) : Ending.returned (.tuple #[.string ⟨q.1.toArray⟩, .int .i64 q.2]) = .returned (.tuple #[.string ⟨p.1.toArray⟩, .int .i64 p.2]) := by rw [h]

theorem ret_num_enc {p : List UInt8 × Nat} {x : ByteArray} {n : Nat} (h : p = (x.data.toList, n)) : Ending.returned (.tuple #[.string x, .int .i64 n]) = .returned (.tuple #[.string ⟨p.1.toArray⟩, .int .i64 p.2]) := by rw [h, Lib.mk_data]

set_option maxHeartbeats 4000000 in
theorem number_any (s : ByteArray) (base most : Nat) (hb : base = 10 ∨ base = 16) (hm : most ≤ 7) (hz : s.size ≤ 1000000000) (w : World) :
    Calls Tryz.prog 139 #[.string s, .int .i64 base, .int .i64 most] w fun e w' => e = .returned (.tuple #[.string ⟨(number base most s.data.toList).1.toArray⟩, .int .i64 (number base most s.data.toList).2]) ∧ Below w.heap.size w w' := by
  go_enter Tryz.func139, Tryz.ntmps139
  go_upto_block 0 with (fail)
  go_cut [8, 9] (fun u8 u9 wc => ∃ v n : Nat, u8 = .int .i64 v ∧ u9 = .int .i64 n ∧ Below w.heap.size w wc ∧ (n = 0 ∧ digLen base s.data.toList = s.size ∨ n = digLen base s.data.toList ∧ n < s.size ∧ n ≤ most ∧ v = numVal base (s.data.toList.take n)) ∧ v < 16 ^ 7)
  case first =>
    go_wp2_with fail
    go_loopw [8, 9] (fun u8 u9 wr => ∃ v pos : Nat, u8 = .int .i64 v ∧ u9 = .int .i64 0 ∧ wr.heap[w.heap.size]? = some (.stringIter s pos) ∧ Below w.heap.size w wr ∧ pos ≤ s.size ∧ pos ≤ digLen base s.data.toList ∧ pos ≤ most ∧ v = numVal base (s.data.toList.take pos) ∧ v < 16 ^ pos) (fun _ _ wr => s.size - wr.iterPos w.heap.size)
    case atStart =>
      refine ⟨0, 0, rfl, rfl, ?_, ?_, by omega, by omega, by omega, rfl, by decide⟩
      · have := World.iter_heap w s 0
        simpa using this
      · exact (Below.refl _ w).alloc (Nat.le_refl _) _
    case round =>
      obtain ⟨v, pos, rfl, rfl, hit, hbw, hpz, hpd, hpm, hv, hv16⟩ := hrel
      have hsz : w.heap.size < wr.heap.size := (Array.getElem?_eq_some_iff.1 hit).1
      have hp16 : 16 ^ pos ≤ 16 ^ 7 := Nat.pow_le_pow_right (by omega) (by omega)
      by_cases hp : pos < s.size
      · have hnx : ∀ ty, (Instr.next (.pointer (some ⟨w.heap.size, 0, none⟩)) true ty).run Tryz.prog wr = _ := fun ty => Lib.run_next_any_at wr w.heap.size s pos ty hit hp
        have hit2 := Lib.iterAt_heap wr w.heap.size s pos (pos + (Utf8.decode s pos).2) hit
        have hbw2 := Lib.below_iterAt hbw (k := w.heap.size) (by omega) s (pos + (Utf8.decode s pos).2)
        by_cases hasc : s[pos].toNat < 128
        · have hd := Go.decode_ascii s pos hp hasc
          rw [hd] at hnx hit2 hbw2
          have hgd := getD_byte s pos hp
          obtain ⟨c, hc⟩ : ∃ c, s[pos] = c := ⟨_, rfl⟩
          rw [hc] at hasc hnx hit2 hbw2 hgd
          clear hd
          obtain ⟨⟨o1, o2⟩, o3⟩ := dig_facts c hasc
          obtain ⟨q, hq⟩ : ∃ q, bits BinOp.or IntKind.i32 (c.toNat : Int) 32 = q := ⟨_, rfl⟩
          rw [hq] at o1 o2 o3
          simp only at hnx hit2 hbw2
          have HC : ∀ W, Calls Tryz.prog 67 #[.string ⟨#[48, 49, 50, 51, 52, 53, 54, 55, 56, 57, 97, 98, 99, 100, 101, 102]⟩, .int .i32 q] W fun e w' => e = .returned (.int .i64 (Lib.indexByte hexL q.toNat.toUInt8)) ∧ w' = W := fun W => Tryz.strings_IndexRune_ascii _ q W o1 o2
          obtain ⟨d, hd⟩ : ∃ d, Lib.indexByte hexL q.toNat.toUInt8 = d := ⟨_, rfl⟩
          rw [hd] at o3
          simp only [hd] at HC
          by_cases cD : isDig base c = true
          · have cD' : digV c < base := by simpa [isDig] using cD
            have o4 : 48 ≤ c.toNat ∧ c.toNat ≤ 102 ∧ ¬ (57 < c.toNat ∧ c.toNat < 65) := by
              by_cases o4 : 48 ≤ c.toNat ∧ c.toNat ≤ 102 ∧ ¬ (57 < c.toNat ∧ c.toNat < 65)
              · exact o4
              · rw [if_neg o4] at o3; omega
            rw [if_pos o4] at o3
            have o5 : d = digV c := by omega
            subst o5
            have t1 : ¬ (c.toNat : Int) < 48 := by omega
            have t2 : ¬ (102 : Int) < (c.toNat : Int) := by omega
            have t5 : ¬ (digV c : Int) < 0 := by omega
            have t6 : ¬ (base : Int) ≤ (digV c : Int) := by omega
            have hst := digLen_step base s.data.toList pos hpd (by simpa using hp) (by rw [hgd]; exact cD)
            have hns := numVal_step base s.data.toList pos (by simpa using hp)
            rw [← hv, hgd] at hns
            have HNS := Lib.hid hns
            have HV := Lib.hid hv
            clear hns hv o3
            by_cases cM : pos = most
            · subst cM
              by_cases t3 : c.toNat ≤ 57
              · have t4 : ¬ (57 : Int) < (c.toNat : Int) := by omega
                go_wp2_with fail
                refine (HC _).mono ?_
                rintro e w' ⟨rfl, rfl⟩
                go_wp2_with fail
                go_ret2
                exact ⟨ret_num (number_none base pos _ (Or.inl (by omega))), hbw2⟩
              · have t4 : (57 : Int) < (c.toNat : Int) := by omega
                have t7 : ¬ (c.toNat : Int) < 65 := by omega
                go_wp2_with fail
                refine (HC _).mono ?_
                rintro e w' ⟨rfl, rfl⟩
                go_wp2_with fail
                go_ret2
                exact ⟨ret_num (number_none base pos _ (Or.inl (by omega))), hbw2⟩
            · have cM' : ¬ (pos : Int) = (most : Int) := by omega
              have m1 : v * base ≤ v * 16 := Nat.mul_le_mul_left _ (by omega)
              obtain ⟨V, hV⟩ : ∃ V, v * base = V := ⟨_, rfl⟩
              have m5 : IntKind.i64.wrap ((v : Int) * (base : Int)) = (V : Int) := by
                rw [← hV, wrap_small _ (by omega) (by omega)]; simp
              have m4 : 16 ^ (pos + 1) = 16 ^ pos * 16 := Nat.pow_succ ..
              rw [hV] at m1
              by_cases t3 : c.toNat ≤ 57
              · have t4 : ¬ (57 : Int) < (c.toNat : Int) := by omega
                go_wp2_with fail
                refine (HC _).mono ?_
                rintro e w' ⟨rfl, rfl⟩
                go_wp2_with fail
                go_roundw
                case rel =>
                  exact ⟨V + digV c, pos + 1, by simp, rfl, hit2, hbw2, by omega, hst, by omega, by rw [HNS.out, hV], by omega⟩
                case measure => simp only [World.iterPos, hit2, hit]; omega
              · have t4 : (57 : Int) < (c.toNat : Int) := by omega
                have t7 : ¬ (c.toNat : Int) < 65 := by omega
                go_wp2_with fail
                refine (HC _).mono ?_
                rintro e w' ⟨rfl, rfl⟩
                go_wp2_with fail
                go_roundw
                case rel =>
                  exact ⟨V + digV c, pos + 1, by simp, rfl, hit2, hbw2, by omega, hst, by omega, by rw [HNS.out, hV], by omega⟩
                case measure => simp only [World.iterPos, hit2, hit]; omega
          · have cD' : ¬ digV c < base := by simpa [isDig] using cD
            have hst := digLen_stop base s.data.toList pos hpd (by rw [hgd]; simpa using cD)
            have HST := Lib.hid hst
            have HV := Lib.hid hv
            clear hst hv
            have hcases : ((c.toNat : Int) < 48) ∨ (¬ (c.toNat : Int) < 48 ∧ (102 : Int) < (c.toNat : Int)) ∨ (¬ (c.toNat : Int) < 48 ∧ ¬ (102 : Int) < (c.toNat : Int) ∧ (57 : Int) < (c.toNat : Int) ∧ (c.toNat : Int) < 65)
                ∨ (¬ (c.toNat : Int) < 48 ∧ ¬ (102 : Int) < (c.toNat : Int) ∧ (57 : Int) < (c.toNat : Int) ∧ ¬ (c.toNat : Int) < 65 ∧ d < 0) ∨ (¬ (c.toNat : Int) < 48 ∧ ¬ (102 : Int) < (c.toNat : Int) ∧ (57 : Int) < (c.toNat : Int) ∧ ¬ (c.toNat : Int) < 65 ∧ ¬ d < 0 ∧ (base : Int) ≤ d)
                ∨ (¬ (c.toNat : Int) < 48 ∧ ¬ (102 : Int) < (c.toNat : Int) ∧ ¬ (57 : Int) < (c.toNat : Int) ∧ d < 0) ∨ (¬ (c.toNat : Int) < 48 ∧ ¬ (102 : Int) < (c.toNat : Int) ∧ ¬ (57 : Int) < (c.toNat : Int) ∧ ¬ d < 0 ∧ (base : Int) ≤ d) := by
              by_cases o4 : 48 ≤ c.toNat ∧ c.toNat ≤ 102 ∧ ¬ (57 < c.toNat ∧ c.toNat < 65)
              · rw [if_pos o4] at o3; omega
              · rw [if_neg o4] at o3; omega
            clear o3 cD cD'
            rcases hcases with t1 | ⟨t1, t2⟩ | ⟨t1, t2, t3, t4⟩ | ⟨t1, t2, t3, t4, t5⟩ | ⟨t1, t2, t3, t4, t5, t6⟩ | ⟨t1, t2, t3, t5⟩ | ⟨t1, t2, t3, t5, t6⟩
            all_goals
              go_wp2_with fail
              refine (HC _).mono ?_
              rintro e w' ⟨rfl, rfl⟩
              go_wp2_with fail
              go_meet
              case rel => exact ⟨v, pos, rfl, rfl, hbw2, Or.inr ⟨HST.out.symm, hp, hpm, HV.out⟩, by omega⟩
        · have hbig := decode_big s pos hp (by omega)
          have hdl := Lib.rune_le s pos
          have hst := digLen_stop base s.data.toList pos hpd (by
            rw [getD_byte s pos hp]; unfold isDig digV
            have : ¬ s[pos].toNat < 128 := hasc
            rw [if_neg (by rw [UInt8.le_iff_toNat_le, UInt8.le_iff_toNat_le]; simp; omega), if_neg (by rw [UInt8.le_iff_toNat_le, UInt8.le_iff_toNat_le]; simp; omega), if_neg (by rw [UInt8.le_iff_toNat_le, UInt8.le_iff_toNat_le]; simp; omega)]
            simp; omega)
          have HST := Lib.hid hst
          have HV := Lib.hid hv
          clear hst hv
          obtain ⟨r, n, hrn⟩ : ∃ r n, Utf8.decode s pos = (r, n) := ⟨_, _, rfl⟩
          rw [hrn] at hnx hit2 hbw2 hbig hdl
          simp only at hnx hit2 hbw2 hbig hdl
          clear hrn
          obtain ⟨o1, o2⟩ := or_big r hbig (by omega)
          obtain ⟨q, hq⟩ : ∃ q, bits BinOp.or IntKind.i32 (r : Int) 32 = q := ⟨_, rfl⟩
          rw [hq] at o1 o2
          have t1 : ¬ (r : Int) < 48 := by omega
          have t2 : (102 : Int) < (r : Int) := by omega
          go_wp2_with fail
          refine (indexRune_big _ q _ (by unfold AllAscii; decide) (by decide) o1 o2).mono ?_
          rintro e w' ⟨rfl, hb3⟩
          have hbb := hbw2.trans (hb3.mono hbw2.size)
          go_wp2_with fail
          go_meet
          case rel => exact ⟨v, pos, rfl, rfl, hbb, Or.inr ⟨HST.out.symm, hp, hpm, HV.out⟩, by omega⟩
      · have hnx : ∀ ty, (Instr.next (.pointer (some ⟨w.heap.size, 0, none⟩)) true ty).run Tryz.prog wr = _ := fun ty => Lib.run_next_end_at wr w.heap.size s pos ty hit hp
        have hdl := digLen_le base s.data.toList
        have HS := Lib.hid (show digLen base s.data.toList = s.size by have : s.data.toList.length = s.size := by simp
                                                                       omega)
        clear hv
        go_wp2_with fail
        go_meet
        case rel => exact ⟨v, 0, rfl, rfl, hbw, Or.inl ⟨rfl, HS.out⟩, by omega⟩
  case rest =>
    obtain ⟨v, n, rfl, rfl, hB, hD, hv⟩ := hcut
    rw [show 16 ^ 7 = 268435456 from by decide] at hv
    by_cases c0 : n = 0
    · have HN := Lib.hid (number_none base most s.data.toList (by
        rcases hD with ⟨_, h⟩ | ⟨h, _⟩
        · exact Or.inr (Or.inr (by rw [h]; simp [List.getD_eq_getElem?_getD]))
        · exact Or.inr (Or.inl (by omega))))
      subst c0
      clear hD
      go_wp2_with fail
      go_ret2
      exact ⟨ret_num HN.out, hB⟩
    · rcases hD with ⟨h, _⟩ | ⟨h1, h2, h3, h4⟩
      · omega
      · have hc0 : ((n : Int) == 0) = false := by simp; omega
        have hgd := getD_byte s n h2
        obtain ⟨x, hx⟩ : ∃ x, s[n] = x := ⟨_, rfl⟩
        rw [hx] at hgd
        have HG := Lib.hid hgd
        have H1 := Lib.hid h1
        have H4 := Lib.hid h4
        clear hgd h1 h4 c0
        by_cases c1 : x.toNat = 59
        · have hxe : x = 59 := UInt8.toNat.inj (by simpa using c1)
          have HNS := Lib.hid (number_some base most s.data.toList (by rw [← H1.out]; exact h3) (by rw [← H1.out]; intro h; rw [h] at hc0; simp at hc0) (by rw [← H1.out, HG.out, hxe]))
          clear hxe
          have t1 : ((x.toNat : Int) == 59) = true := by simp; omega
          have t1' : ((x.toNat : Int) != 59) = false := by simp; omega
          clear c1
          by_cases c2 : v = 0
          · have HB := Lib.hid (show number base most s.data.toList = ([239, 191, 189], n) by
              rw [HNS.out, ← H1.out, ← H4.out, if_pos (Or.inl c2)])
            have t2 : ((v : Int) == 0) = true := by simp; omega
            clear c2
            go_wp2_with fail
            go_ret2
            exact ⟨ret_num HB.out, hB⟩
          · have t2 : ((v : Int) == 0) = false := by simp; omega
            have hw : IntKind.i32.wrap (v : Int) = (v : Int) := by unfold IntKind.wrap; simp [IntKind.bits, IntKind.signed]; omega
            cases hvr : Lib.validRune (v : Int)
            · have HB := Lib.hid (show number base most s.data.toList = ([239, 191, 189], n) by
                rw [HNS.out, ← H1.out, ← H4.out, if_pos (Or.inr hvr)])
              have HR := Lib.hid hvr
              clear c2 hvr
              go_wp2_with fail
              refine (Tryz.utf8_ValidRune _ _).mono ?_
              rintro e w' ⟨rfl, rfl⟩
              rw [HR.out]
              go_wp2_with fail
              go_ret2
              exact ⟨ret_num HB.out, hB⟩
            · have HB := Lib.hid (show number base most s.data.toList = ((Utf8.encode (v : Int)).data.toList, n) by
                rw [HNS.out, ← H1.out, ← H4.out, if_neg (by rintro (h | h); exact c2 h; rw [hvr] at h; cases h)])
              have HR := Lib.hid hvr
              clear c2 hvr
              go_wp2_with fail
              refine (Tryz.utf8_ValidRune _ _).mono ?_
              rintro e w' ⟨rfl, rfl⟩
              rw [HR.out]
              go_wp2_with fail
              go_ret2
              exact ⟨ret_num_enc HB.out, hB⟩
        · have HN := Lib.hid (number_none base most s.data.toList (Or.inr (Or.inr (by
            rw [← H1.out, HG.out]; intro h; rw [h] at c1; exact c1 rfl))))
          have t1 : ((x.toNat : Int) == 59) = false := by simp; omega
          have t1' : ((x.toNat : Int) != 59) = true := by simp; omega
          clear c1
          go_wp2_with fail
          go_ret2
          exact ⟨ret_num HN.out, hB⟩
end Go.Proofs.YtnlmfoccdmkncaaGreatDoor

/-
  entity.At: the entity with which a text begins.
-/
namespace Go.Proofs.YtnlmfoccdmkncaaGreatDoor
open Go.RowKit
set_option maxRecDepth 100000
set_option linter.unusedVariables false
set_option linter.unusedSimpArgs false

theorem trimPrefix_cons (c : UInt8) (l : List UInt8) : Lib.trimPrefix (c :: l) [c] = l := by simp [Lib.trimPrefix, Lib.hasPrefix]
theorem entAt_amp (rest : List UInt8) (h : rest.head? ≠ some 35) : entAt (38 :: rest) =
    (if (Lib.cut rest [59]).2.2 = true then (if (named (Lib.cut rest [59]).1).2 = true then ((named (Lib.cut rest [59]).1).1, (Lib.cut rest [59]).1.length + 2) else ([], 0)) else ([], 0)) := by
  unfold entAt
  split
  · rename_i heq; simp only [List.cons.injEq, true_and] at heq; rw [heq] at h; simp at h
  · rename_i heq; simp only [List.cons.injEq, true_and] at heq; rw [heq]
  · rename_i h1 h2; exact absurd rfl (h2 rest)

/-- The three ways of an entity's text: by its number in two bases. -/
theorem entAt_num (r : List UInt8) (b m a : Nat) (h : (r.head? = some 120 ∨ r.head? = some 88) ∧ b = 16 ∧ m = 6 ∧ a = 3 ∨ ¬ (r.head? = some 120 ∨ r.head? = some 88) ∧ b = 10 ∧ m = 7 ∧ a = 2) :
    entAt (38 :: 35 :: r) = (if (number b m ((38 :: 35 :: r).drop a)).2 = 0 then ([], 0) else ((number b m ((38 :: 35 :: r).drop a)).1, a + (number b m ((38 :: 35 :: r).drop a)).2 + 1)) := by
  rcases h with ⟨h, rfl, rfl, rfl⟩ | ⟨h, rfl, rfl, rfl⟩
  · unfold entAt
    simp only [h, if_true]
  · unfold entAt
    simp only [h, if_false]

theorem pre_hash (r : List UInt8) (c : UInt8) : Lib.hasPrefix (35 :: r) [35, c] = decide (r.head? = some c) := by
  unfold Lib.hasPrefix
  cases r with
  | nil => simp [List.isPrefixOf]
  | cons d r => simp [List.isPrefixOf]; rw [Bool.eq_iff_iff]; simp; exact eq_comm

theorem pre_no (rest p : List UInt8) (h : rest.head? ≠ some 35) : Lib.hasPrefix rest (35 :: p) = false := by
  unfold Lib.hasPrefix
  cases rest with
  | nil => rfl
  | cons d r => simp at h; simp [List.isPrefixOf]; intro e; exact absurd e.symm h

theorem number_le (b m : Nat) (l : List UInt8) : (number b m l).2 ≤ m := by
  unfold number
  simp only
  split
  · exact Nat.zero_le _
  · rename_i h; simp only; omega

theorem cut_le (l p : List UInt8) : (Lib.cut l p).1.length ≤ l.length := by
  unfold Lib.cut
  split
  · simp only; exact List.length_take_le' _ _
  · exact Nat.le_refl _

theorem ret_at {p : List UInt8 × Nat} {x : List UInt8} {n : Int} {m : Nat} (h : p = (x, m)) (hn : n = m) : Ending.returned (.tuple #[.string ⟨x.toArray⟩, .int .i64 n]) = .returned (.tuple #[.string ⟨p.1.toArray⟩, .int .i64 p.2]) := by rw [h, hn]

set_option maxHeartbeats 4000000 in
/-- Behind '&#': a number in one base. -/
theorem at_num (s R : ByteArray) (r : List UInt8) (w : World) (hs : s.data.toList = 38 :: 35 :: r) (hR : R.data.toList = 35 :: r) (hz : s.size ≤ 1000000000) :
    Calls Tryz.prog 132 #[.string s] w fun e w' => e = .returned (.tuple #[.string ⟨(entAt s.data.toList).1.toArray⟩, .int .i64 (entAt s.data.toList).2]) ∧ Below w.heap.size w w' := by
  have hcut : ∀ W, Calls Tryz.prog 23 #[.string s, .string ⟨#[38]⟩] W fun e w' => e = .returned (.tuple #[.string R, .bool true]) ∧ w' = W := fun W => by
    refine (Tryz.strings_CutPrefix s ⟨#[38]⟩ W).mono ?_
    rintro e w' ⟨rfl, rfl⟩
    refine ⟨?_, rfl⟩
    rw [hs, ba_of hR, show (ByteArray.mk #[38]).data.toList = [38] from rfl, trimPrefix_cons]
    rfl
  have hl : s.size = r.length + 2 := by rw [Lib.size_eq, hs]; simp
  have hp : ∀ (c : UInt8) W, Calls Tryz.prog 117 #[.string R, .string ⟨#[35, c]⟩] W fun e w' => e = .returned (.bool (decide (r.head? = some c))) ∧ w' = W := fun c W => by
    have := Tryz.strings_HasPrefix R ⟨#[35, c]⟩ W
    rw [hR, show (ByteArray.mk #[35, c]).data.toList = [35, c] from rfl, pre_hash] at this
    exact this
  have hp0 : ∀ W, Calls Tryz.prog 117 #[.string R, .string ⟨#[35]⟩] W fun e w' => e = .returned (.bool true) ∧ w' = W := fun W => by
    have := Tryz.strings_HasPrefix R ⟨#[35]⟩ W
    rw [hR, show Lib.hasPrefix (35 :: r) (ByteArray.mk #[35]).data.toList = true by simp [Lib.hasPrefix]] at this
    exact this
  have HC := Lib.hid hcut
  have HP := Lib.hid hp
  have HP0 := Lib.hid hp0
  have HS := Lib.hid hs
  clear hcut hp hp0 hs hR
  have fin : ∀ (b m a : Nat) (p : List UInt8 × Nat), entAt (38 :: 35 :: r) = (if (number b m ((38 :: 35 :: r).drop a)).2 = 0 then ([], 0) else ((number b m ((38 :: 35 :: r).drop a)).1, a + (number b m ((38 :: 35 :: r).drop a)).2 + 1)) →
      number b m ((38 :: 35 :: r).drop a) = p → entAt s.data.toList = if p.2 = 0 then ([], 0) else (p.1, a + p.2 + 1) := fun b m a p h hp => by rw [HS.out, h, hp]
  have FIN := Lib.hid fin
  clear fin
  have hsl : 2 ≤ s.size := by omega
  by_cases h2 : r.head? = some 120 ∨ r.head? = some 88
  · have hr1 : 1 ≤ r.length := by cases r with | nil => simp at h2 | cons _ _ => simp
    have hs3 : (3 : Int) ≤ (s.size : Int) := by omega
    obtain ⟨S, hS⟩ : ∃ S : ByteArray, s.extract 3 s.size = S := ⟨_, rfl⟩
    have hSl : S.data.toList = (38 :: 35 :: r).drop 3 := by rw [← hS, Lib.extract_to_end, HS.out]
    have hSz : S.size ≤ 1000000000 := by rw [Lib.size_eq, hSl]; simp; omega
    have hnum : ∀ W, Calls Tryz.prog 139 #[.string S, .int .i64 16, .int .i64 6] W _ := number_any S 16 6 (Or.inr rfl) (by omega) hSz
    rw [hSl] at hnum
    have hnl := number_le 16 6 ((38 :: 35 :: r).drop 3)
    obtain ⟨p, hp⟩ : ∃ p, number 16 6 ((38 :: 35 :: r).drop 3) = p := ⟨_, rfl⟩
    have HF := Lib.hid (FIN.out 16 6 3 p (entAt_num r 16 6 3 (Or.inl ⟨h2, rfl, rfl, rfl⟩)) hp)
    rw [hp] at hnum hnl
    have HN := Lib.hid hnum
    clear hnum hp hSl FIN hl
    by_cases h3 : r.head? = some 120
    · have hd : decide (r.head? = some 120) = true := decide_eq_true h3
      have HD := Lib.hid hd
      clear h2 h3 hd
      by_cases h0 : p.2 = 0
      · have HR := Lib.hid (show entAt s.data.toList = ([], 0) by rw [HF.out, if_pos h0])
        have h0' : ((p.2 : Int) == 0) = true := by simp; omega
        clear h0 HF
        go_enter Tryz.func132, Tryz.ntmps132
        go_wp2_with fail
        refine (HC.out _).mono ?_
        rintro e w' ⟨rfl, rfl⟩
        go_wp2_with fail
        refine (HP.out 120 _).mono ?_
        rintro e w' ⟨rfl, rfl⟩
        rw [HD.out]
        go_wp2_with fail
        refine (HP0.out _).mono ?_
        rintro e w' ⟨rfl, rfl⟩
        go_wp2_with fail
        refine (HN.out _).mono ?_
        rintro e w' ⟨rfl, hb⟩
        go_wp2_with fail
        go_ret2
        exact ⟨ret_at HR.out rfl, hb⟩
      · have HR := Lib.hid (show entAt s.data.toList = (p.1, 3 + p.2 + 1) by rw [HF.out, if_neg h0])
        have h0' : ((p.2 : Int) == 0) = false := by simp; omega
        clear h0 HF
        go_enter Tryz.func132, Tryz.ntmps132
        go_wp2_with fail
        refine (HC.out _).mono ?_
        rintro e w' ⟨rfl, rfl⟩
        go_wp2_with fail
        refine (HP.out 120 _).mono ?_
        rintro e w' ⟨rfl, rfl⟩
        rw [HD.out]
        go_wp2_with fail
        refine (HP0.out _).mono ?_
        rintro e w' ⟨rfl, rfl⟩
        go_wp2_with fail
        refine (HN.out _).mono ?_
        rintro e w' ⟨rfl, hb⟩
        go_wp2_with fail
        go_ret2
        exact ⟨ret_at HR.out (by simp), hb⟩
    · have hd : decide (r.head? = some 120) = false := decide_eq_false h3
      have hd2 : decide (r.head? = some 88) = true := decide_eq_true (h2.resolve_left h3)
      have HD := Lib.hid hd
      have HD2 := Lib.hid hd2
      clear h2 h3 hd hd2
      by_cases h0 : p.2 = 0
      · have HR := Lib.hid (show entAt s.data.toList = ([], 0) by rw [HF.out, if_pos h0])
        have h0' : ((p.2 : Int) == 0) = true := by simp; omega
        clear h0 HF
        go_enter Tryz.func132, Tryz.ntmps132
        go_wp2_with fail
        refine (HC.out _).mono ?_
        rintro e w' ⟨rfl, rfl⟩
        go_wp2_with fail
        refine (HP.out 120 _).mono ?_
        rintro e w' ⟨rfl, rfl⟩
        rw [HD.out]
        go_wp2_with fail
        refine (HP.out 88 _).mono ?_
        rintro e w' ⟨rfl, rfl⟩
        rw [HD2.out]
        go_wp2_with fail
        refine (HP0.out _).mono ?_
        rintro e w' ⟨rfl, rfl⟩
        go_wp2_with fail
        refine (HN.out _).mono ?_
        rintro e w' ⟨rfl, hb⟩
        go_wp2_with fail
        go_ret2
        exact ⟨ret_at HR.out rfl, hb⟩
      · have HR := Lib.hid (show entAt s.data.toList = (p.1, 3 + p.2 + 1) by rw [HF.out, if_neg h0])
        have h0' : ((p.2 : Int) == 0) = false := by simp; omega
        clear h0 HF
        go_enter Tryz.func132, Tryz.ntmps132
        go_wp2_with fail
        refine (HC.out _).mono ?_
        rintro e w' ⟨rfl, rfl⟩
        go_wp2_with fail
        refine (HP.out 120 _).mono ?_
        rintro e w' ⟨rfl, rfl⟩
        rw [HD.out]
        go_wp2_with fail
        refine (HP.out 88 _).mono ?_
        rintro e w' ⟨rfl, rfl⟩
        rw [HD2.out]
        go_wp2_with fail
        refine (HP0.out _).mono ?_
        rintro e w' ⟨rfl, rfl⟩
        go_wp2_with fail
        refine (HN.out _).mono ?_
        rintro e w' ⟨rfl, hb⟩
        go_wp2_with fail
        go_ret2
        exact ⟨ret_at HR.out (by simp), hb⟩
  · have hd : decide (r.head? = some 120) = false := decide_eq_false (fun h => h2 (Or.inl h))
    have hd2 : decide (r.head? = some 88) = false := decide_eq_false (fun h => h2 (Or.inr h))
    have HD := Lib.hid hd
    have HD2 := Lib.hid hd2
    have hs3 : (2 : Int) ≤ (s.size : Int) := by omega
    obtain ⟨S, hS⟩ : ∃ S : ByteArray, s.extract 2 s.size = S := ⟨_, rfl⟩
    have hSl : S.data.toList = (38 :: 35 :: r).drop 2 := by rw [← hS, Lib.extract_to_end, HS.out]
    have hSz : S.size ≤ 1000000000 := by rw [Lib.size_eq, hSl]; simp; omega
    have hnum : ∀ W, Calls Tryz.prog 139 #[.string S, .int .i64 10, .int .i64 7] W _ := number_any S 10 7 (Or.inl rfl) (by omega) hSz
    rw [hSl] at hnum
    have hnl := number_le 10 7 ((38 :: 35 :: r).drop 2)
    obtain ⟨p, hp⟩ : ∃ p, number 10 7 ((38 :: 35 :: r).drop 2) = p := ⟨_, rfl⟩
    have HF := Lib.hid (FIN.out 10 7 2 p (entAt_num r 10 7 2 (Or.inr ⟨h2, rfl, rfl, rfl⟩)) hp)
    rw [hp] at hnum hnl
    have HN := Lib.hid hnum
    clear hnum hp hSl FIN hl
    clear h2 hd hd2
    by_cases h0 : p.2 = 0
    · have HR := Lib.hid (show entAt s.data.toList = ([], 0) by rw [HF.out, if_pos h0])
      have h0' : ((p.2 : Int) == 0) = true := by simp; omega
      clear h0 HF
      go_enter Tryz.func132, Tryz.ntmps132
      go_wp2_with fail
      refine (HC.out _).mono ?_
      rintro e w' ⟨rfl, rfl⟩
      go_wp2_with fail
      refine (HP.out 120 _).mono ?_
      rintro e w' ⟨rfl, rfl⟩
      rw [HD.out]
      go_wp2_with fail
      refine (HP.out 88 _).mono ?_
      rintro e w' ⟨rfl, rfl⟩
      rw [HD2.out]
      go_wp2_with fail
      refine (HP0.out _).mono ?_
      rintro e w' ⟨rfl, rfl⟩
      go_wp2_with fail
      refine (HN.out _).mono ?_
      rintro e w' ⟨rfl, hb⟩
      go_wp2_with fail
      go_ret2
      exact ⟨ret_at HR.out rfl, hb⟩
    · have HR := Lib.hid (show entAt s.data.toList = (p.1, 2 + p.2 + 1) by rw [HF.out, if_neg h0])
      have h0' : ((p.2 : Int) == 0) = false := by simp; omega
      clear h0 HF
      go_enter Tryz.func132, Tryz.ntmps132
      go_wp2_with fail
      refine (HC.out _).mono ?_
      rintro e w' ⟨rfl, rfl⟩
      go_wp2_with fail
      refine (HP.out 120 _).mono ?_
      rintro e w' ⟨rfl, rfl⟩
      rw [HD.out]
      go_wp2_with fail
      refine (HP.out 88 _).mono ?_
      rintro e w' ⟨rfl, rfl⟩
      rw [HD2.out]
      go_wp2_with fail
      refine (HP0.out _).mono ?_
      rintro e w' ⟨rfl, rfl⟩
      go_wp2_with fail
      refine (HN.out _).mono ?_
      rintro e w' ⟨rfl, hb⟩
      go_wp2_with fail
      go_ret2
      exact ⟨ret_at HR.out (by simp), hb⟩

set_option maxHeartbeats 4000000 in
theorem at_any (s : ByteArray) (w : World) (hE : Env w) (hz : s.size ≤ 1000000000) :
    Calls Tryz.prog 132 #[.string s] w fun e w' => e = .returned (.tuple #[.string ⟨(entAt s.data.toList).1.toArray⟩, .int .i64 (entAt s.data.toList).2]) ∧ Below w.heap.size w w' := by
  obtain ⟨mx, hmx⟩ := hE.maxl
  have HE := Lib.hid hE
  clear hE
  by_cases h0 : ∃ rest, s.data.toList = 38 :: rest
  · obtain ⟨rest, hs⟩ := h0
    have hRl : (ByteArray.mk rest.toArray).data.toList = rest := rfl
    by_cases h1 : rest.head? = some 35
    · obtain ⟨r, rfl⟩ : ∃ r, rest = 35 :: r := by
        cases rest with
        | nil => simp at h1
        | cons d r => simp at h1; exact ⟨r, by rw [h1]⟩
      exact at_num s ⟨(35 :: r).toArray⟩ r w hs rfl hz
    · obtain ⟨R, hR⟩ : ∃ R : ByteArray, R = ⟨rest.toArray⟩ := ⟨_, rfl⟩
      have hRl : R.data.toList = rest := by rw [hR]
      have hRs : R.size ≤ 1000000000 := by rw [Lib.size_eq, hRl]; have : s.size = rest.length + 1 := by rw [Lib.size_eq, hs]; simp
                                           omega
      have hcut : ∀ W, Calls Tryz.prog 23 #[.string s, .string ⟨#[38]⟩] W fun e w' => e = .returned (.tuple #[.string R, .bool true]) ∧ w' = W := fun W => by
        refine (Tryz.strings_CutPrefix s ⟨#[38]⟩ W).mono ?_
        rintro e w' ⟨rfl, rfl⟩
        refine ⟨?_, rfl⟩
        rw [hs, hR, show (ByteArray.mk #[38]).data.toList = [38] from rfl, trimPrefix_cons]
        rfl
      have hp : ∀ (p : List UInt8) W, Calls Tryz.prog 117 #[.string R, .string ⟨(35 :: p).toArray⟩] W fun e w' => e = .returned (.bool false) ∧ w' = W := fun p W => by
        have := Tryz.strings_HasPrefix R ⟨(35 :: p).toArray⟩ W
        rw [hRl, show (ByteArray.mk (35 :: p).toArray).data.toList = 35 :: p from rfl, pre_no _ _ h1] at this
        exact this
      have hc := Tryz.strings_Cut R ⟨#[59]⟩ mx
      rw [hRl, show (ByteArray.mk #[59]).data.toList = [59] from rfl] at hc
      have hcl := cut_le rest [59]
      have hrl : rest.length ≤ 1000000000 := by rw [← hRl, ← Lib.size_eq]; exact hRs
      have HA := Lib.hid (entAt_amp rest h1)
      obtain ⟨c, hce⟩ : ∃ c, Lib.cut rest [59] = c := ⟨_, rfl⟩
      rw [hce] at hc hcl
      have HCE := Lib.hid hce
      have HC := Lib.hid hcut
      have HP := Lib.hid hp
      have HT := Lib.hid hc
      have HS := Lib.hid hs
      clear hce hcut hp hc hs hRl hR h1
      cases hb : c.2.2
      · have HR := Lib.hid (show entAt s.data.toList = ([], 0) by rw [HS.out, HA.out, HCE.out, hb]; rfl)
        have HB := Lib.hid hb
        clear hb
        go_enter Tryz.func132, Tryz.ntmps132
        go_wp2_with fail
        refine (HC.out _).mono ?_
        rintro e w' ⟨rfl, rfl⟩
        go_wp2_with fail
        refine (HP.out [120] _).mono ?_
        rintro e w' ⟨rfl, rfl⟩
        go_wp2_with fail
        refine (HP.out [88] _).mono ?_
        rintro e w' ⟨rfl, rfl⟩
        go_wp2_with fail
        refine (HP.out [] _).mono ?_
        rintro e w' ⟨rfl, rfl⟩
        go_wp2_with fail
        refine (HT.out _ (by omega) hmx).mono ?_
        rintro e w' ⟨rfl, nq, rfl⟩
        rw [HB.out]
        go_wp2_with fail
        go_ret2
        exact ⟨ret_at HR.out rfl, below_drewN _ _⟩
      · obtain ⟨q, hq⟩ : ∃ q, named c.1 = q := ⟨_, rfl⟩
        have hcz : c.1.length ≤ 1000000000 := by omega
        have hN : ∀ W, Env W → Calls Tryz.prog 140 #[.string ⟨c.1.toArray⟩] W fun e w' => e = .returned (.tuple #[.string ⟨q.1.toArray⟩, .bool q.2]) ∧ Below W.heap.size W w' := fun W hW => by
          have := named_any ⟨c.1.toArray⟩ W hW
          rw [show (ByteArray.mk c.1.toArray).data.toList = c.1 from rfl, hq] at this
          exact this
        have HN := Lib.hid hN
        have HB := Lib.hid hb
        have hsz : (ByteArray.mk c.1.toArray).size = c.1.length := by rw [Lib.size_eq]
        have HZ := Lib.hid hsz
        have HQ := Lib.hid hq
        clear hb hN hsz hq
        cases hq2 : q.2
        · have HR := Lib.hid (show entAt s.data.toList = ([], 0) by rw [HS.out, HA.out, HCE.out, HB.out, HQ.out, hq2]; rfl)
          have HQ2 := Lib.hid hq2
          clear hq2
          go_enter Tryz.func132, Tryz.ntmps132
          go_wp2_with fail
          refine (HC.out _).mono ?_
          rintro e w' ⟨rfl, rfl⟩
          go_wp2_with fail
          refine (HP.out [120] _).mono ?_
          rintro e w' ⟨rfl, rfl⟩
          go_wp2_with fail
          refine (HP.out [88] _).mono ?_
          rintro e w' ⟨rfl, rfl⟩
          go_wp2_with fail
          refine (HP.out [] _).mono ?_
          rintro e w' ⟨rfl, rfl⟩
          go_wp2_with fail
          refine (HT.out _ (by omega) hmx).mono ?_
          rintro e w' ⟨rfl, nq, rfl⟩
          rw [HB.out]
          go_wp2_with fail
          refine (HN.out _ (HE.out.below (below_drewN _ _))).mono ?_
          rintro e w' ⟨rfl, hb⟩
          rw [HQ2.out]
          go_wp2_with fail
          go_ret2
          exact ⟨ret_at HR.out rfl, (below_drewN _ _).trans hb⟩
        · have HR := Lib.hid (show entAt s.data.toList = (q.1, c.1.length + 2) by rw [HS.out, HA.out, HCE.out, HB.out, HQ.out, hq2]; rfl)
          have HQ2 := Lib.hid hq2
          clear hq2
          go_enter Tryz.func132, Tryz.ntmps132
          go_wp2_with fail
          refine (HC.out _).mono ?_
          rintro e w' ⟨rfl, rfl⟩
          go_wp2_with fail
          refine (HP.out [120] _).mono ?_
          rintro e w' ⟨rfl, rfl⟩
          go_wp2_with fail
          refine (HP.out [88] _).mono ?_
          rintro e w' ⟨rfl, rfl⟩
          go_wp2_with fail
          refine (HP.out [] _).mono ?_
          rintro e w' ⟨rfl, rfl⟩
          go_wp2_with fail
          refine (HT.out _ (by omega) hmx).mono ?_
          rintro e w' ⟨rfl, nq, rfl⟩
          rw [HB.out]
          go_wp2_with fail
          refine (HN.out _ (HE.out.below (below_drewN _ _))).mono ?_
          rintro e w' ⟨rfl, hb⟩
          rw [HQ2.out]
          go_wp2_with fail
          go_ret2
          exact ⟨ret_at HR.out (by simp), (below_drewN _ _).trans hb⟩
  · have hno : Lib.hasPrefix s.data.toList [38] = false := by
      unfold Lib.hasPrefix
      cases hl : s.data.toList with
      | nil => rfl
      | cons d r =>
        simp [List.isPrefixOf]
        intro e
        exact h0 ⟨r, by rw [hl, e]⟩
    have hR : entAt s.data.toList = ([], 0) := by
      cases hl : s.data.toList with
      | nil => rfl
      | cons d r => exact entAt_other d r (fun e => h0 ⟨r, by rw [hl, e]⟩)
    have HR := Lib.hid hR
    have HNO := Lib.hid hno
    clear hno hR h0
    go_enter Tryz.func132, Tryz.ntmps132
    go_wp2_with fail
    refine (Tryz.strings_CutPrefix _ _ _).mono ?_
    rintro e w' ⟨rfl, rfl⟩
    rw [show (ByteArray.mk #[38]).data.toList = [38] from rfl, HNO.out]
    go_wp2_with fail
    go_ret2
    exact ⟨ret_at HR.out rfl, Below.refl _ _⟩
end Go.Proofs.YtnlmfoccdmkncaaGreatDoor

/-
  A builder of the call's own stays as it is where only later memory is written; sizes of entities.
-/
namespace Go.Proofs.YtnlmfoccdmkncaaGreatDoor
open Go.RowKit

theorem bldAt_below {T e : TypeId} {B b : Nat} {p : Value} {bs : List Value} {W W' : World} (h : Lib.BuilderAtF T e B b p bs W) (hb : Below W.heap.size W W') : Lib.BuilderAtF T e B b p bs W' := by
  have hlt := h.lt
  obtain ⟨hB, v, hv, hown, hne⟩ := h
  exact ⟨hB, v, (hb.block b hlt).trans hv, hown.kept (row := none) ⟨hb.os, hb.tape, hb.output, hb.size, fun k hk _ => hb.block k hk⟩ (Classical.em _), hne⟩
theorem bld_below {T e : TypeId} {B b : Nat} {bs : List Value} {W W' : World} (h : Lib.IsBuilderF T e B b bs W) (hb : Below W.heap.size W W') : Lib.IsBuilderF T e B b bs W' :=
  h.elim (fun x => .inl (bldAt_below x hb)) (fun x => .inr (bldAt_below x hb))

theorem enc_le (i : Int) : (Utf8.encode i).data.toList.length ≤ 4 := by rw [← Lib.size_eq]; exact encode_size_le i

theorem number_text (b m : Nat) (l : List UInt8) : (number b m l).1.length ≤ 4 := by
  unfold number
  simp only
  split
  · exact Nat.zero_le _
  · simp only
    split
    · decide
    · exact enc_le _
theorem named_text (l : List UInt8) : (named l).1.length ≤ 4 := by
  unfold named
  split
  · exact enc_le _
  · exact Nat.zero_le _

theorem entAt_size (l : List UInt8) : (entAt l).1.length ≤ 4 ∧ (entAt l).2 ≤ l.length + 11 := by
  have num : ∀ (r : List UInt8) (b m a : Nat), m ≤ 7 → a ≤ 3 → entAt (38 :: 35 :: r) = (if (number b m ((38 :: 35 :: r).drop a)).2 = 0 then ([], 0) else ((number b m ((38 :: 35 :: r).drop a)).1, a + (number b m ((38 :: 35 :: r).drop a)).2 + 1)) →
      (entAt (38 :: 35 :: r)).1.length ≤ 4 ∧ (entAt (38 :: 35 :: r)).2 ≤ (38 :: 35 :: r).length + 11 := by
    intro r b m a hm ha h
    rw [h]
    have h1 := number_le b m ((38 :: 35 :: r).drop a)
    split
    · exact ⟨Nat.zero_le _, Nat.zero_le _⟩
    · exact ⟨number_text _ _ _, by simp only [List.length_cons]; omega⟩
  cases l with
  | nil => exact ⟨Nat.zero_le _, Nat.zero_le _⟩
  | cons c rest =>
    by_cases hc : c = 38
    · subst hc
      by_cases h1 : rest.head? = some 35
      · cases rest with
        | nil => simp at h1
        | cons d r =>
          simp at h1
          subst h1
          by_cases h2 : r.head? = some 120 ∨ r.head? = some 88
          · exact num r 16 6 3 (by omega) (by omega) (entAt_num r 16 6 3 (Or.inl ⟨h2, rfl, rfl, rfl⟩))
          · exact num r 10 7 2 (by omega) (by omega) (entAt_num r 10 7 2 (Or.inr ⟨h2, rfl, rfl, rfl⟩))
      · rw [entAt_amp rest h1]
        have hc := cut_le rest [59]
        split
        · split
          · exact ⟨named_text _, by simp only [List.length_cons]; omega⟩
          · exact ⟨Nat.zero_le _, Nat.zero_le _⟩
        · exact ⟨Nat.zero_le _, Nat.zero_le _⟩
    · rw [entAt_other c rest hc]
      exact ⟨Nat.zero_le _, Nat.zero_le _⟩

end Go.Proofs.YtnlmfoccdmkncaaGreatDoor

/-
  strings.Builder's copyCheck, WriteByte, WriteString, WriteRune in this program (the shelf's own do not fit: the copy check's last way is refused by the loader): each writes behind what the builder holds.
-/
namespace Go.Proofs.YtnlmfoccdmkncaaGreatDoor
open Go.RowKit
set_option maxRecDepth 100000
set_option linter.unusedVariables false
set_option linter.unusedSimpArgs false

theorem Tryz.infoBld : (Tryz.prog.info? 87).map (·.size) = some 2 := by kernel_rfl
theorem Tryz.infoByte : (Tryz.prog.info? 5).map (fun i => (i.zero, i.size, i.bytes)) = some (some (.int .u8 0), 1, 1) := by kernel_rfl

theorem bld_check_used (b : Nat) (w : World) (h0 : w.cell? ⟨b, 0, none⟩ = some (.pointer (some ⟨b, 0, none⟩))) :
    Calls Tryz.prog 103 #[.pointer (some ⟨b, 0, none⟩)] w fun e w' => e = .returned (.tuple #[]) ∧ w' = w := by
  obtain ⟨j, hj, _⟩ := Option.map_eq_some_iff.1 Tryz.infoBld
  go_enter Tryz.func103, Tryz.ntmps103
  go_wp2
  rw [Lib.run_neq_ptr_same w _ Tryz.underlying84 hj]
  go_wp2
  go_end0
  exact ⟨rfl, rfl⟩

theorem bld_check_fresh (b : Nat) (w : World) (h0 : w.cell? ⟨b, 0, none⟩ = some (.pointer none)) (hsh : w.shape? b = some (87, 2)) (hfz : w.frozen? ⟨b, 0, none⟩ = false) :
    Calls Tryz.prog 103 #[.pointer (some ⟨b, 0, none⟩)] w fun e w' => e = .returned (.tuple #[]) ∧ w' = w.setCell ⟨b, 0, none⟩ (.pointer (some ⟨b, 0, none⟩)) := by
  obtain ⟨j, hj, hjs⟩ := Option.map_eq_some_iff.1 Tryz.infoBld
  go_enter Tryz.func103, Tryz.ntmps103
  go_wp2
  rw [Lib.run_to_unsafe w ⟨b, 0, none⟩ Tryz.underlying84 Tryz.underlying156 hj (by rw [hjs]; decide) hsh (Nat.zero_lt_succ 1)]
  simp only [Result.andThen]
  rw [Oper.upon_value]
  go_wp2
  rw [run_callFunc_extern Tryz.func126 (by kernel_rfl) (by kernel_rfl) (by kernel_rfl) (e := Extern.AbiNoEscape.same) (by kernel_rfl)]
  rw [Lib.run_noEscape]
  simp only [Result.andThen]
  rw [Oper.upon_value]
  go_wp2
  rw [Lib.run_from_unsafe w ⟨b, 0, none⟩ Tryz.underlying156 Tryz.underlying84 hj hsh (by kernel_rfl)]
  simp only [Result.andThen]
  rw [Oper.upon_value]
  go_wp2
  go_end0
  exact ⟨rfl, rfl⟩

theorem bld_check (B b : Nat) (bs : List Value) (w : World) (hI : Lib.IsBuilderF 87 5 B b bs w) :
    Calls Tryz.prog 103 #[.pointer (some ⟨b, 0, none⟩)] w fun e w' => e = .returned (.tuple #[]) ∧ (Lib.BuilderAtF 87 5 B b (.pointer (some ⟨b, 0, none⟩)) bs w' ∧ Below B w w' ∧ Lib.OthersKept 5 (some b) w w') := by
  rcases hI with hI | hI
  · refine (bld_check_fresh b w hI.cell0 hI.shape hI.frozen0).mono ?_
    rintro e w' ⟨rfl, rfl⟩
    exact ⟨rfl, hI.used _, (Below.refl B w).setCell (p := ⟨b, 0, none⟩) hI.1 _, (Lib.OthersKept.refl _ _ w).setCell ⟨b, 0, none⟩ rfl _⟩
  · refine (bld_check_used b w hI.cell0).mono ?_
    rintro e w' ⟨rfl, rfl⟩
    exact ⟨rfl, hI, Below.refl B _, Lib.OthersKept.refl _ _ _⟩

set_option maxHeartbeats 2000000 in
theorem bld_byte (B b : Nat) (bs : List Value) (c : Int) (w : World) (hI : Lib.IsBuilderF 87 5 B b bs w) (hlen : bs.length + 1 ≤ 140737488355328) (hBw : B ≤ w.heap.size) :
    Calls Tryz.prog 70 #[.pointer (some ⟨b, 0, none⟩), .int .u8 c] w fun e w' => e = .returned .nilIface ∧ (Lib.BuilderAtF 87 5 B b (.pointer (some ⟨b, 0, none⟩)) (bs ++ [.int .u8 c]) w' ∧ Below B w w' ∧ Lib.OthersKept 5 (some b) w w') := by
  obtain ⟨i0, hi, hz0, hz1, hz2⟩ := info_parts Tryz.infoByte
  go_enter Tryz.func70, Tryz.ntmps70
  go_wp2_with fail
  refine (bld_check B b bs _ hI).mono ?_
  rintro e w1 ⟨rfl, h1, hb1, hk1⟩
  obtain ⟨hB, v, hbk, hown, hne⟩ := h1
  have c0 : w1.cell? ⟨b, 0, none⟩ = some (.pointer (some ⟨b, 0, none⟩)) := by rw [Lib.cell_of_heap hbk]; rfl
  have c1 : w1.cell? ⟨b, 1, none⟩ = some v := by rw [Lib.cell_of_heap hbk]; rfl
  go_wp2_with (at_builtin; refine wpList_append_ownF _ rfl _ _ 85 rfl B 5 i0 (.int .u8 0) 1 1 Tryz.underlying85 hi hz0 hz1 hz2 rfl (by decide) _ _ _ rfl (hown.alloc _) ⟨w1.heap.size, 0, none⟩ 1 1 [.int .u8 c] rfl rfl ?c1 ?c2 ?c3 ?c4 ?c5 ?_)
  case c1 =>
    intro j u hj
    match j, hj with
    | 0, hj => simp at hj; subst hj; simp [Addr.add]
  case c2 => intro u hu; simp at hu; subst hu; rfl
  case c3 => unfold maxLen; omega
  case c4 => omega
  case c5 => have := hb1.size; simp; omega
  intro v' w2 hown' hgrow _
  have hlt : b < w1.heap.size := lt_of_block hbk
  have hb2 : w2.heap[b]? = some (.cells #[.pointer (some ⟨b, 0, none⟩), v] 87 (0, 0)) := by
    rw [hgrow.block b (by simp; omega) (fun e => hne e.symm), Lib.alloc_old w1 _ b hlt]
    exact hbk
  have d0 : w2.cell? ⟨b, 0, none⟩ = some (.pointer (some ⟨b, 0, none⟩)) := by rw [Lib.cell_of_heap hb2]; rfl
  have d1 : w2.cell? ⟨b, 1, none⟩ = some v := by rw [Lib.cell_of_heap hb2]; rfl
  have f1 : w2.frozen? ⟨b, 1, none⟩ = false := Lib.frozen_of_heap hb2 1
  obtain ⟨g, cap, rfl⟩ : ∃ g cap, v' = .slice (some ⟨g, 0, none⟩) (bs.length + 1) cap := by
    rcases hown'.2 with ⟨_, h0⟩ | ⟨g, cap, cur, fz, hv, _⟩
    · omega
    · exact ⟨g, cap, hv⟩
  go_wp2
  go_ret
  refine ⟨rfl, ?_, ?_, ((hk1.alloc _).grown hgrow (Lib.ownsRowF_kind (hown.alloc _))).setCell ⟨b, 1, none⟩ rfl _⟩
  · exact Lib.BuilderAtF.put (T := 87) (e := 5) hB hb2 (bs' := bs ++ [.int .u8 c]) (by simpa using hown') (by decide)
  · exact ((hb1.alloc (by have := hb1.size; omega) _).grown hgrow (by have := hb1.size; simp; omega) (fun k hk => (hown.lt k hk).1)).setCell (p := ⟨b, 1, none⟩) hB _

set_option maxHeartbeats 2000000 in
theorem bld_string (B b : Nat) (bs : List Value) (s : ByteArray) (w : World) (hI : Lib.IsBuilderF 87 5 B b bs w) (hlen : bs.length + s.size ≤ 140737488355328) (hBw : B ≤ w.heap.size) :
    Calls Tryz.prog 74 #[.pointer (some ⟨b, 0, none⟩), .string s] w fun e w' => e = .returned (.tuple #[.int .i64 s.size, .nilIface]) ∧ (Lib.BuilderAtF 87 5 B b (.pointer (some ⟨b, 0, none⟩)) (bs ++ Lib.strCells s) w' ∧ Below B w w' ∧ Lib.OthersKept 5 (some b) w w') := by
  obtain ⟨i0, hi, hz0, hz1, hz2⟩ := info_parts Tryz.infoByte
  go_enter Tryz.func74, Tryz.ntmps74
  go_wp2_with fail
  refine (bld_check B b bs _ hI).mono ?_
  rintro e w1 ⟨rfl, h1, hb1, hk1⟩
  obtain ⟨hB, v, hbk, hown, hne⟩ := h1
  have c0 : w1.cell? ⟨b, 0, none⟩ = some (.pointer (some ⟨b, 0, none⟩)) := by rw [Lib.cell_of_heap hbk]; rfl
  have c1 : w1.cell? ⟨b, 1, none⟩ = some v := by rw [Lib.cell_of_heap hbk]; rfl
  go_wp2_with (at_builtin; refine Lib.wpList_append_own_stringF _ rfl _ _ 85 9 rfl B 5 i0 Tryz.underlying85 Tryz.underlying9 hi hz0 hz1 hz2 _ _ _ rfl hown s rfl ?c3 ?c4 ?c5 ?_)
  case c3 => unfold maxLen; omega
  case c4 => omega
  case c5 => have := hb1.size; omega
  intro v' w2 hown' hgrow _
  have hlt : b < w1.heap.size := lt_of_block hbk
  have hb2 : w2.heap[b]? = some (.cells #[.pointer (some ⟨b, 0, none⟩), v] 87 (0, 0)) := by
    rw [hgrow.block b hlt (fun e => hne e.symm)]
    exact hbk
  have d0 : w2.cell? ⟨b, 0, none⟩ = some (.pointer (some ⟨b, 0, none⟩)) := by rw [Lib.cell_of_heap hb2]; rfl
  have d1 : w2.cell? ⟨b, 1, none⟩ = some v := by rw [Lib.cell_of_heap hb2]; rfl
  have f1 : w2.frozen? ⟨b, 1, none⟩ = false := Lib.frozen_of_heap hb2 1
  obtain ⟨ao, n', cap, rfl⟩ : ∃ ao n' cap, v' = .slice ao n' cap := by
    rcases hown'.2 with ⟨hv, _⟩ | ⟨g, cap, cur, fz, hv, _⟩
    · exact ⟨_, _, _, hv⟩
    · exact ⟨_, _, _, hv⟩
  go_wp2
  go_ret2
  refine ⟨rfl, ?_, ?_, (hk1.grown hgrow (Lib.ownsRowF_kind hown)).setCell ⟨b, 1, none⟩ rfl _⟩
  · exact Lib.BuilderAtF.put (T := 87) (e := 5) hB hb2 (bs' := bs ++ Lib.strCells s) (by simpa [Lib.strCells_length] using hown') (by decide)
  · exact (hb1.grown hgrow (by have := hb1.size; omega) (fun k hk => (hown.lt k hk).1)).setCell (p := ⟨b, 1, none⟩) hB _

set_option maxHeartbeats 2000000 in
theorem bld_rune (B b : Nat) (bs : List Value) (r : Int) (hr0 : -2147483648 ≤ r) (hr1 : r ≤ 2147483647) (w : World) (hI : Lib.IsBuilderF 87 5 B b bs w) (hlen : bs.length + 4 ≤ 140737488355328) (hBw : B ≤ w.heap.size) :
    Calls Tryz.prog 73 #[.pointer (some ⟨b, 0, none⟩), .int .i32 r] w fun e w' => e = .returned (.tuple #[.int .i64 (Lib.runeCells r).length, .nilIface]) ∧ (Lib.BuilderAtF 87 5 B b (.pointer (some ⟨b, 0, none⟩)) (bs ++ Lib.runeCells r) w' ∧ Below B w w' ∧ Lib.OthersKept 5 (some b) w w') := by
  have hk4 := Lib.runeCells_le r
  go_enter Tryz.func73, Tryz.ntmps73
  go_wp2_with fail
  refine (bld_check B b bs _ hI).mono ?_
  rintro e w1 ⟨rfl, h1, hb1, hk1⟩
  obtain ⟨hB, v, hbk, hown, hne⟩ := h1
  obtain ⟨ao, cap, rfl⟩ : ∃ ao cap, v = .slice ao bs.length cap := by
    rcases hown.2 with ⟨hv, h0⟩ | ⟨g, cap, cur, fz, hv, _⟩
    · exact ⟨none, 0, by rw [hv, h0]⟩
    · exact ⟨_, _, hv⟩
  have c0 : w1.cell? ⟨b, 0, none⟩ = some (.pointer (some ⟨b, 0, none⟩)) := by rw [Lib.cell_of_heap hbk]; rfl
  have c1 : w1.cell? ⟨b, 1, none⟩ = some (.slice ao bs.length cap) := by rw [Lib.cell_of_heap hbk]; rfl
  go_wp2_with fail
  refine (Tryz.utf8_AppendRune_row B _ bs.length bs r hr0 hr1 _ hown hlen (by have := hb1.size; omega)).mono ?_
  rintro e w2 ⟨v', rfl, hown', o, hgrow⟩
  have hlt : b < w1.heap.size := lt_of_block hbk
  have hb2 : w2.heap[b]? = some (.cells #[.pointer (some ⟨b, 0, none⟩), .slice ao bs.length cap] 87 (0, 0)) := by
    rw [hgrow.block b (by simp; omega) (fun e => hne e.symm), Lib.alloc_old w1 _ b hlt]
    exact hbk
  have d0 : w2.cell? ⟨b, 0, none⟩ = some (.pointer (some ⟨b, 0, none⟩)) := by rw [Lib.cell_of_heap hb2]; rfl
  have d1 : w2.cell? ⟨b, 1, none⟩ = some (.slice ao bs.length cap) := by rw [Lib.cell_of_heap hb2]; rfl
  have f1 : w2.frozen? ⟨b, 1, none⟩ = false := Lib.frozen_of_heap hb2 1
  obtain ⟨g, cap', rfl⟩ : ∃ g cap', v' = .slice (some ⟨g, 0, none⟩) (bs.length + (Lib.runeCells r).length) cap' := by
    rcases hown'.2 with ⟨_, h0⟩ | ⟨g, cap', cur, fz, hv, _⟩
    · omega
    · exact ⟨g, cap', hv⟩
  go_wp2
  go_ret2
  refine ⟨?_, ?_, ?_, ((hk1.alloc _).grown hgrow (Lib.ownsRowF_kind (hown.alloc _))).setCell ⟨b, 1, none⟩ rfl _⟩
  · have e : ((bs.length : Int) + ((Lib.runeCells r).length : Int) - (bs.length : Int)) = ((Lib.runeCells r).length : Int) := by omega
    simp [e]
  · exact Lib.BuilderAtF.put (T := 87) (e := 5) hB hb2 (bs' := bs ++ Lib.runeCells r) (by simpa using hown') (by decide)
  · exact ((hb1.alloc (by have := hb1.size; omega) _).grown hgrow (by have := hb1.size; simp; omega) (fun k hk => (hown.lt k hk).1)).setCell (p := ⟨b, 1, none⟩) hB _

end Go.Proofs.YtnlmfoccdmkncaaGreatDoor

/-
  repair.Space, Fold: a text by which names are alike.
-/
namespace Go.Proofs.YtnlmfoccdmkncaaGreatDoor
open Go.RowKit
set_option maxRecDepth 100000
set_option linter.unusedVariables false
set_option linter.unusedSimpArgs false

def spaceSps : List (Int × Int) := [(9, 10), (12, 13), (32, 32), (160, 160), (5760, 5760), (8192, 8202), (8239, 8239), (8287, 8287), (12288, 12288)]
def upSps : List (Int × Int) := [(65, 90), (192, 214), (216, 222)]

def foldGo : Nat → List UInt8 → Bool → List UInt8 → List UInt8
  | 0, _, _, acc => acc
  | n + 1, l, sp, acc =>
    if l = [] then acc
    else if inSps (Lib.decodeL l).1 spaceSps then foldGo n (l.drop (Lib.decodeL l).2) true acc
    else foldGo n (l.drop (Lib.decodeL l).2) false
      ((if sp && decide (0 < acc.length) then acc ++ [32] else acc) ++ (if inSps (Lib.decodeL l).1 upSps then Lib.encodeRune ((Lib.decodeL l).1 + 32 : Int) else l.take (Lib.decodeL l).2))
def fold (l : List UInt8) : List UInt8 := foldGo l.length l false []

theorem foldGo_nil (n : Nat) (sp : Bool) (acc : List UInt8) : foldGo n [] sp acc = acc := by cases n <;> simp [foldGo]

theorem space_any (r : Int) (w : World) :
    Calls Tryz.prog 68 #[.int .i32 r] w fun e w' => e = .returned (.bool (inSps r spaceSps)) ∧ Below w.heap.size w w' := by
  let o : Obj := .cells #[.int .i32 9, .int .i32 10, .int .i32 12, .int .i32 13, .int .i32 32, .int .i32 32, .int .i32 160, .int .i32 160, .int .i32 5760, .int .i32 5760, .int .i32 8192, .int .i32 8202, .int .i32 8239, .int .i32 8239, .int .i32 8287, .int .i32 8287, .int .i32 12288, .int .i32 12288] 97
  have hba : Below w.heap.size w (w.alloc o) := (Below.refl _ _).alloc (Nat.le_refl _) _
  have hsp : SpAt (w.alloc o) w.heap.size spaceSps := by
    refine ⟨by simp, fun i hi => ?_⟩
    have : i = 0 ∨ i = 1 ∨ i = 2 ∨ i = 3 ∨ i = 4 ∨ i = 5 ∨ i = 6 ∨ i = 7 ∨ i = 8 := by simp [spaceSps] at hi; omega
    rcases this with rfl | rfl | rfl | rfl | rfl | rfl | rfl | rfl | rfl <;> simp [spaceSps, o]
  have hcall := among_any spaceSps r w.heap.size 9 (w.alloc o) (by decide) hsp
  have HC := Lib.hid hcall
  have HB := Lib.hid hba
  clear hcall hba hsp
  go_enter Tryz.func68, Tryz.ntmps68
  go_wp2_with fail
  refine HC.out.mono ?_
  rintro e w2 ⟨rfl, hb⟩
  go_wp2_with fail
  go_ret
  rw [World.size_alloc] at hb
  exact ⟨rfl, HB.out.trans (hb.mono (by omega))⟩

/-- The three spans of great letters, as Fold lays them. -/
def upObj : Obj := .cells #[.int .i32 65, .int .i32 90, .int .i32 192, .int .i32 214, .int .i32 216, .int .i32 222] 97
theorem up_any (r : Int) (w : World) (g : Nat) (hg : g = w.heap.size) :
    Calls Tryz.prog 72 #[.int .i32 r, .slice (some ⟨g, 0, none⟩) 3 3] (w.alloc (.cells #[.int .i32 65, .int .i32 90, .int .i32 192, .int .i32 214, .int .i32 216, .int .i32 222] 97)) fun e w' => e = .returned (.bool (inSps r upSps)) ∧ Below w.heap.size w w' := by
  subst hg
  have hba : Below w.heap.size w (w.alloc upObj) := (Below.refl _ _).alloc (Nat.le_refl _) _
  have hsp : SpAt (w.alloc upObj) w.heap.size upSps := by
    refine ⟨by simp, fun i hi => ?_⟩
    have : i = 0 ∨ i = 1 ∨ i = 2 := by simp [upSps] at hi; omega
    rcases this with rfl | rfl | rfl <;> simp [upSps, upObj]
  refine (among_any upSps r w.heap.size 3 (w.alloc upObj) (by decide) hsp).mono ?_
  rintro e w2 ⟨rfl, hb⟩
  rw [World.size_alloc] at hb
  exact ⟨rfl, hba.trans (hb.mono (by omega))⟩

theorem width4 (l : List UInt8) : (Lib.decodeL l).2 ≤ 4 := by rw [Lib.decodeL_N]; exact (Lib.decodeN_conts _ _ _ _ _).2.2.2

theorem decodeGo_at (s : ByteArray) (pos : Nat) (h : pos < s.size) : Lib.decodeGo (s.extract pos s.size) = Lib.decodeL (s.data.toList.drop pos) := by
  have hsz : (s.extract pos s.size).size ≠ 0 := by rw [Lib.size_eq, Lib.extract_to_end]; simp; omega
  unfold Lib.decodeGo
  rw [if_neg hsz, ← Lib.decodeL_drop (s.extract pos s.size) 0, List.drop_zero, Lib.extract_to_end]

def FoldRel (s : ByteArray) (w : World) (sp : Bool) (pos : Nat) (wr : World) : Prop :=
  ∃ (f : Nat) (acc : List UInt8), Lib.IsBuilderF 87 5 w.heap.size w.heap.size (Lib.byteCells acc) wr ∧ wr.heap[w.heap.size + 1]? = some (.stringIter s pos) ∧ Below w.heap.size w wr ∧ foldGo f (s.data.toList.drop pos) sp acc = fold s.data.toList ∧ s.size ≤ pos + f ∧ acc.length ≤ 5 * pos

theorem iter_below {W W' : World} {k pos : Nat} {s : ByteArray} (h : W.heap[k]? = some (.stringIter s pos)) (hb : Below W.heap.size W W') : W'.heap[k]? = some (.stringIter s pos) :=
  (hb.block k (Array.getElem?_eq_some_iff.1 h).1).trans h

set_option maxHeartbeats 4000000 in
theorem fold_any (s : ByteArray) (w : World) (hE : Env w) (hs : s.size ≤ 1000000000) :
    Calls Tryz.prog 20 #[.string s] w fun e w' => e = .returned (.string ⟨(fold s.data.toList).toArray⟩) ∧ Below w.heap.size w w' := by
  have HE := Lib.hid hE
  clear hE
  go_enter Tryz.func20, Tryz.ntmps20
  go_wp2_with fail
  go_loopw [4] (fun u4 wr => ∃ (sp : Bool) (pos : Nat), u4 = .bool sp ∧ FoldRel s w sp pos wr) (fun _ wr => s.size - wr.iterPos (w.heap.size + 1))
  case atStart =>
    refine ⟨false, 0, rfl, s.size, [], (Lib.IsBuilderF.of (Lib.fresh_isBuilder 87 5 w)).alloc _, ?_, ((Below.refl _ w).alloc (Nat.le_refl _) _).alloc (by simp) _, by unfold fold; rw [← Lib.size_eq]; rfl, by omega, by simp⟩
    have := World.iter_heap (w.alloc (.cells #[.pointer none, .slice none 0 0] 87)) s 0
    simpa using this
  case round =>
    obtain ⟨sp, pos, rfl, f, acc, hI, hit, hbw, hacc, hfu, hal⟩ := hrel
    have hsz : w.heap.size + 1 < wr.heap.size := (Array.getElem?_eq_some_iff.1 hit).1
    by_cases hp : pos < s.size
    · have hnx : ∀ ty, (Instr.next (.pointer (some ⟨w.heap.size + 1, 0, none⟩)) true ty).run Tryz.prog wr = _ := fun ty => Lib.run_next_any_at wr (w.heap.size + 1) s pos ty hit hp
      have hI2 := hI.iterAt hit (pos + (Utf8.decode s pos).2)
      have hit2 := Lib.iterAt_heap wr (w.heap.size + 1) s pos (pos + (Utf8.decode s pos).2) hit
      have hbw2 := Lib.below_iterAt hbw (k := w.heap.size + 1) (by omega) s (pos + (Utf8.decode s pos).2)
      obtain ⟨f, rfl⟩ : ∃ g, f = g + 1 := ⟨f - 1, by omega⟩
      have hdl := Lib.decodeL_drop s pos
      have hwd := Lib.decodeL_width (s.data.toList.drop pos)
      have hrl := Lib.decodeL_rune (s.data.toList.drop pos)
      have hne : s.data.toList.drop pos ≠ [] := by intro h0; have := congrArg List.length h0; simp at this; omega
      have hwl := Lib.decodeL_le _ hne
      rw [foldGo, if_neg hne, List.drop_drop] at hacc
      have hgo := decodeGo_at s pos hp
      obtain ⟨S, hS⟩ : ∃ S : ByteArray, s.extract pos s.size = S := ⟨_, rfl⟩
      obtain ⟨Y, hY⟩ : ∃ Y : ByteArray, s.extract pos (pos + (Lib.decodeL (s.data.toList.drop pos)).2) = Y := ⟨_, rfl⟩
      have hYl : Y.data.toList = (s.data.toList.drop pos).take (Lib.decodeL (s.data.toList.drop pos)).2 := by rw [← hY, Lib.extract_data]; congr 1; omega
      rw [← hYl] at hacc
      have hYz : Y.size = (Lib.decodeL (s.data.toList.drop pos)).2 := by rw [Lib.size_eq, hYl]; simp at hwl ⊢; omega
      rw [hS] at hgo
      rw [← hdl] at hnx hI2 hit2 hbw2
      obtain ⟨r, n, hrn⟩ : ∃ r n, Lib.decodeL (s.data.toList.drop pos) = (r, n) := ⟨_, _, rfl⟩
      rw [hrn] at hnx hI2 hit2 hbw2 hwd hrl hwl hacc hgo hY hYz
      simp only at hnx hI2 hit2 hbw2 hwd hrl hwl hacc hY hYz
      have hn4 : n ≤ 4 := by
        have := width4 (s.data.toList.drop pos)
        rw [hrn] at this; exact this
      have hpn : pos + n ≤ s.size := by simp at hwl; omega
      have HACC := Lib.hid hacc
      have HGO := Lib.hid hgo
      clear hacc hgo hrn hdl hYl hI hbw
      obtain ⟨wi, hwi⟩ : ∃ wi, wr.iterAt (w.heap.size + 1) s (pos + n) = wi := ⟨_, rfl⟩
      rw [hwi] at hI2 hit2 hbw2
      cases hsp : inSps (r : Int) spaceSps
      · have HSP := Lib.hid hsp
        have hacc' := HACC.out
        rw [hsp, if_neg (by simp)] at hacc'
        clear hsp
        have hYL := hYz
        rw [Lib.size_eq] at hYL
        have HYL := Lib.hid hYL
        clear hYL
        cases sp
        · simp only [Bool.false_and, Bool.false_eq_true, if_false] at hacc'
          cases hup : inSps (r : Int) upSps
          · rw [hup] at hacc'
            simp only [Bool.false_eq_true, if_false] at hacc'
            have HA2 := Lib.hid hacc'
            have HUP := Lib.hid hup
            clear hacc' hup
            go_wp2_with fail
            refine (space_any (r : Int) _).mono ?_
            rintro e w2 ⟨rfl, b2⟩
            rw [HSP.out]
            have hI3 := bld_below hI2 b2
            have hit3 := iter_below hit2 b2
            have hbw3 := below_step hbw2 b2
            go_wp2_with fail
            refine (Tryz.utf8_DecodeRuneInString S _ (HE.out.below hbw3).u8).mono ?_
            rintro e w4 ⟨rfl, b4⟩
            have hI4 := bld_below hI3 b4
            have hit4 := iter_below hit3 b4
            have hbw4 := below_step hbw3 b4
            rw [HGO.out]
            go_wp2_with fail
            refine (up_any (r : Int) _ _ (by simp)).mono ?_
            rintro e w5 ⟨rfl, b5⟩
            have hI5 := bld_below hI4 b5
            have hit5 := iter_below hit4 b5
            have hbw5 := below_step hbw4 b5
            rw [HUP.out]
            go_wp2_with fail
            refine (bld_string w.heap.size w.heap.size _ Y _ hI5 (by rw [Lib.byteCells_length]; omega) hbw5.size).mono ?_
            rintro e w6 ⟨rfl, h6, b6, k6⟩
            go_wp2_with fail
            go_roundw
            case rel => exact ⟨false, pos + n, rfl, f, acc ++ Y.data.toList, by rw [Lib.byteCells_append]; exact Or.inr h6, k6.iter hit5 (by omega), hbw5.trans b6, HA2.out, by omega, by have := HYL.out; simp only [List.length_append, List.length_cons, List.length_nil]; omega⟩
            case measure => simp only [World.iterPos, k6.iter hit5 (by omega), hit]; omega
          · rw [hup] at hacc'
            simp only [if_true] at hacc'
            have HA2 := Lib.hid hacc'
            have HUP := Lib.hid hup
            clear hacc' hup
            go_wp2_with fail
            refine (space_any (r : Int) _).mono ?_
            rintro e w2 ⟨rfl, b2⟩
            rw [HSP.out]
            have hI3 := bld_below hI2 b2
            have hit3 := iter_below hit2 b2
            have hbw3 := below_step hbw2 b2
            go_wp2_with fail
            refine (Tryz.utf8_DecodeRuneInString S _ (HE.out.below hbw3).u8).mono ?_
            rintro e w4 ⟨rfl, b4⟩
            have hI4 := bld_below hI3 b4
            have hit4 := iter_below hit3 b4
            have hbw4 := below_step hbw3 b4
            rw [HGO.out]
            go_wp2_with fail
            refine (up_any (r : Int) _ _ (by simp)).mono ?_
            rintro e w5 ⟨rfl, b5⟩
            have hI5 := bld_below hI4 b5
            have hit5 := iter_below hit4 b5
            have hbw5 := below_step hbw4 b5
            rw [HUP.out]
            go_wp2_with fail
            refine (bld_rune w.heap.size w.heap.size _ ((r : Int) + 32) (by omega) (by omega) _ hI5 (by rw [Lib.byteCells_length]; omega) hbw5.size).mono ?_
            rintro e w6 ⟨rfl, h6, b6, k6⟩
            have hl4 := Lib.runeCells_le ((r : Int) + 32)
            rw [Lib.runeCells_length] at hl4
            have HL4 := Lib.hid hl4
            clear hl4
            go_wp2_with fail
            go_roundw
            case rel => exact ⟨false, pos + n, rfl, f, acc ++ Lib.encodeRune ((r : Int) + 32), by rw [Lib.byteCells_append, Lib.byteCells_encodeRune]; exact Or.inr h6, k6.iter hit5 (by omega), hbw5.trans b6, HA2.out, by omega, by have := HL4.out; simp only [List.length_append, List.length_cons, List.length_nil]; omega⟩
            case measure => simp only [World.iterPos, k6.iter hit5 (by omega), hit]; omega
        · by_cases h0 : 0 < acc.length
          · have h0' : (0 : Int) < (acc.length : Int) := by omega
            rw [decide_eq_true h0] at hacc'
            simp only [Bool.and_true, if_true] at hacc'
            cases hup : inSps (r : Int) upSps
            · rw [hup] at hacc'
              simp only [Bool.false_eq_true, if_false] at hacc'
              have HA2 := Lib.hid hacc'
              have HUP := Lib.hid hup
              clear hacc' hup
              go_wp2_with fail
              refine (space_any (r : Int) _).mono ?_
              rintro e w2 ⟨rfl, b2⟩
              rw [HSP.out]
              have hI3 := bld_below hI2 b2
              have hit3 := iter_below hit2 b2
              have hbw3 := below_step hbw2 b2
              go_wp2_with fail
              refine (Tryz.Builder_Len_f w.heap.size w.heap.size _ _ hI3).mono ?_
              rintro e w3 ⟨rfl, rfl⟩
              rw [Lib.byteCells_length]
              go_wp2_with fail
              refine (bld_byte w.heap.size w.heap.size _ 32 _ hI3 (by rw [Lib.byteCells_length]; omega) hbw3.size).mono ?_
              rintro e w7 ⟨rfl, h7, b7, k7⟩
              have hI7 : Lib.IsBuilderF 87 5 w.heap.size w.heap.size (Lib.byteCells (acc ++ [32])) w7 := by rw [Lib.byteCells_append]; exact Or.inr h7
              have hit7 := k7.iter hit3 (by omega)
              have hbw7 := hbw3.trans b7
              have hal7 : (acc ++ [32]).length ≤ 5 * pos + 1 := by simp; omega
              go_wp2_with fail
              refine (Tryz.utf8_DecodeRuneInString S _ (HE.out.below hbw7).u8).mono ?_
              rintro e w4 ⟨rfl, b4⟩
              have hI4 := bld_below hI7 b4
              have hit4 := iter_below hit7 b4
              have hbw4 := below_step hbw7 b4
              rw [HGO.out]
              go_wp2_with fail
              refine (up_any (r : Int) _ _ (by simp)).mono ?_
              rintro e w5 ⟨rfl, b5⟩
              have hI5 := bld_below hI4 b5
              have hit5 := iter_below hit4 b5
              have hbw5 := below_step hbw4 b5
              rw [HUP.out]
              go_wp2_with fail
              refine (bld_string w.heap.size w.heap.size _ Y _ hI5 (by rw [Lib.byteCells_length]; omega) hbw5.size).mono ?_
              rintro e w6 ⟨rfl, h6, b6, k6⟩
              go_wp2_with fail
              go_roundw
              case rel => exact ⟨false, pos + n, rfl, f, (acc ++ [32]) ++ Y.data.toList, by rw [Lib.byteCells_append]; exact Or.inr h6, k6.iter hit5 (by omega), hbw5.trans b6, HA2.out, by omega, by have := HYL.out; simp only [List.length_append, List.length_cons, List.length_nil]; omega⟩
              case measure => simp only [World.iterPos, k6.iter hit5 (by omega), hit]; omega
            · rw [hup] at hacc'
              simp only [if_true] at hacc'
              have HA2 := Lib.hid hacc'
              have HUP := Lib.hid hup
              clear hacc' hup
              go_wp2_with fail
              refine (space_any (r : Int) _).mono ?_
              rintro e w2 ⟨rfl, b2⟩
              rw [HSP.out]
              have hI3 := bld_below hI2 b2
              have hit3 := iter_below hit2 b2
              have hbw3 := below_step hbw2 b2
              go_wp2_with fail
              refine (Tryz.Builder_Len_f w.heap.size w.heap.size _ _ hI3).mono ?_
              rintro e w3 ⟨rfl, rfl⟩
              rw [Lib.byteCells_length]
              go_wp2_with fail
              refine (bld_byte w.heap.size w.heap.size _ 32 _ hI3 (by rw [Lib.byteCells_length]; omega) hbw3.size).mono ?_
              rintro e w7 ⟨rfl, h7, b7, k7⟩
              have hI7 : Lib.IsBuilderF 87 5 w.heap.size w.heap.size (Lib.byteCells (acc ++ [32])) w7 := by rw [Lib.byteCells_append]; exact Or.inr h7
              have hit7 := k7.iter hit3 (by omega)
              have hbw7 := hbw3.trans b7
              have hal7 : (acc ++ [32]).length ≤ 5 * pos + 1 := by simp; omega
              go_wp2_with fail
              refine (Tryz.utf8_DecodeRuneInString S _ (HE.out.below hbw7).u8).mono ?_
              rintro e w4 ⟨rfl, b4⟩
              have hI4 := bld_below hI7 b4
              have hit4 := iter_below hit7 b4
              have hbw4 := below_step hbw7 b4
              rw [HGO.out]
              go_wp2_with fail
              refine (up_any (r : Int) _ _ (by simp)).mono ?_
              rintro e w5 ⟨rfl, b5⟩
              have hI5 := bld_below hI4 b5
              have hit5 := iter_below hit4 b5
              have hbw5 := below_step hbw4 b5
              rw [HUP.out]
              go_wp2_with fail
              refine (bld_rune w.heap.size w.heap.size _ ((r : Int) + 32) (by omega) (by omega) _ hI5 (by rw [Lib.byteCells_length]; omega) hbw5.size).mono ?_
              rintro e w6 ⟨rfl, h6, b6, k6⟩
              have hl4 := Lib.runeCells_le ((r : Int) + 32)
              rw [Lib.runeCells_length] at hl4
              have HL4 := Lib.hid hl4
              clear hl4
              go_wp2_with fail
              go_roundw
              case rel => exact ⟨false, pos + n, rfl, f, (acc ++ [32]) ++ Lib.encodeRune ((r : Int) + 32), by rw [Lib.byteCells_append, Lib.byteCells_encodeRune]; exact Or.inr h6, k6.iter hit5 (by omega), hbw5.trans b6, HA2.out, by omega, by have := HL4.out; simp only [List.length_append, List.length_cons, List.length_nil]; omega⟩
              case measure => simp only [World.iterPos, k6.iter hit5 (by omega), hit]; omega
          · have h0' : ¬ (0 : Int) < (acc.length : Int) := by omega
            rw [decide_eq_false h0] at hacc'
            simp only [Bool.and_false, Bool.false_eq_true, if_false] at hacc'
            cases hup : inSps (r : Int) upSps
            · rw [hup] at hacc'
              simp only [Bool.false_eq_true, if_false] at hacc'
              have HA2 := Lib.hid hacc'
              have HUP := Lib.hid hup
              clear hacc' hup
              go_wp2_with fail
              refine (space_any (r : Int) _).mono ?_
              rintro e w2 ⟨rfl, b2⟩
              rw [HSP.out]
              have hI3 := bld_below hI2 b2
              have hit3 := iter_below hit2 b2
              have hbw3 := below_step hbw2 b2
              go_wp2_with fail
              refine (Tryz.Builder_Len_f w.heap.size w.heap.size _ _ hI3).mono ?_
              rintro e w3 ⟨rfl, rfl⟩
              rw [Lib.byteCells_length]
              go_wp2_with fail
              refine (Tryz.utf8_DecodeRuneInString S _ (HE.out.below hbw3).u8).mono ?_
              rintro e w4 ⟨rfl, b4⟩
              have hI4 := bld_below hI3 b4
              have hit4 := iter_below hit3 b4
              have hbw4 := below_step hbw3 b4
              rw [HGO.out]
              go_wp2_with fail
              refine (up_any (r : Int) _ _ (by simp)).mono ?_
              rintro e w5 ⟨rfl, b5⟩
              have hI5 := bld_below hI4 b5
              have hit5 := iter_below hit4 b5
              have hbw5 := below_step hbw4 b5
              rw [HUP.out]
              go_wp2_with fail
              refine (bld_string w.heap.size w.heap.size _ Y _ hI5 (by rw [Lib.byteCells_length]; omega) hbw5.size).mono ?_
              rintro e w6 ⟨rfl, h6, b6, k6⟩
              go_wp2_with fail
              go_roundw
              case rel => exact ⟨false, pos + n, rfl, f, acc ++ Y.data.toList, by rw [Lib.byteCells_append]; exact Or.inr h6, k6.iter hit5 (by omega), hbw5.trans b6, HA2.out, by omega, by have := HYL.out; simp only [List.length_append, List.length_cons, List.length_nil]; omega⟩
              case measure => simp only [World.iterPos, k6.iter hit5 (by omega), hit]; omega
            · rw [hup] at hacc'
              simp only [if_true] at hacc'
              have HA2 := Lib.hid hacc'
              have HUP := Lib.hid hup
              clear hacc' hup
              go_wp2_with fail
              refine (space_any (r : Int) _).mono ?_
              rintro e w2 ⟨rfl, b2⟩
              rw [HSP.out]
              have hI3 := bld_below hI2 b2
              have hit3 := iter_below hit2 b2
              have hbw3 := below_step hbw2 b2
              go_wp2_with fail
              refine (Tryz.Builder_Len_f w.heap.size w.heap.size _ _ hI3).mono ?_
              rintro e w3 ⟨rfl, rfl⟩
              rw [Lib.byteCells_length]
              go_wp2_with fail
              refine (Tryz.utf8_DecodeRuneInString S _ (HE.out.below hbw3).u8).mono ?_
              rintro e w4 ⟨rfl, b4⟩
              have hI4 := bld_below hI3 b4
              have hit4 := iter_below hit3 b4
              have hbw4 := below_step hbw3 b4
              rw [HGO.out]
              go_wp2_with fail
              refine (up_any (r : Int) _ _ (by simp)).mono ?_
              rintro e w5 ⟨rfl, b5⟩
              have hI5 := bld_below hI4 b5
              have hit5 := iter_below hit4 b5
              have hbw5 := below_step hbw4 b5
              rw [HUP.out]
              go_wp2_with fail
              refine (bld_rune w.heap.size w.heap.size _ ((r : Int) + 32) (by omega) (by omega) _ hI5 (by rw [Lib.byteCells_length]; omega) hbw5.size).mono ?_
              rintro e w6 ⟨rfl, h6, b6, k6⟩
              have hl4 := Lib.runeCells_le ((r : Int) + 32)
              rw [Lib.runeCells_length] at hl4
              have HL4 := Lib.hid hl4
              clear hl4
              go_wp2_with fail
              go_roundw
              case rel => exact ⟨false, pos + n, rfl, f, acc ++ Lib.encodeRune ((r : Int) + 32), by rw [Lib.byteCells_append, Lib.byteCells_encodeRune]; exact Or.inr h6, k6.iter hit5 (by omega), hbw5.trans b6, HA2.out, by omega, by have := HL4.out; simp only [List.length_append, List.length_cons, List.length_nil]; omega⟩
              case measure => simp only [World.iterPos, k6.iter hit5 (by omega), hit]; omega
      · have hacc' := HACC.out
        rw [hsp, if_pos rfl] at hacc'
        have HA2 := Lib.hid hacc'
        have HSP := Lib.hid hsp
        clear hsp hacc'
        go_wp2_with fail
        refine (space_any (r : Int) _).mono ?_
        rintro e w2 ⟨rfl, b2⟩
        rw [HSP.out]
        have hI3 := bld_below hI2 b2
        have hit3 := iter_below hit2 b2
        have hbw3 := below_step hbw2 b2
        go_wp2_with fail
        go_roundw
        case rel => exact ⟨true, pos + n, rfl, f, acc, hI3, hit3, hbw3, HA2.out, by omega, by omega⟩
        case measure => simp only [World.iterPos, hit3, hit]; omega
    · have hnx : ∀ ty, (Instr.next (.pointer (some ⟨w.heap.size + 1, 0, none⟩)) true ty).run Tryz.prog wr = _ := fun ty => Lib.run_next_end_at wr (w.heap.size + 1) s pos ty hit hp
      rw [drop_end s pos (by omega), foldGo_nil] at hacc
      subst hacc
      go_wp2_with fail
      refine (Tryz.Builder_String_any_k w.heap.size w.heap.size _ wr hI hbw.size).mono ?_
      rintro e w2 ⟨rfl, _, hb2, _⟩
      go_wp2_with fail
      go_ret
      exact ⟨rfl, hbw.trans hb2⟩

end Go.Proofs.YtnlmfoccdmkncaaGreatDoor

/-
  target.Unescape: a text without its escapes.
-/
namespace Go.Proofs.YtnlmfoccdmkncaaGreatDoor
open Go.RowKit
set_option maxRecDepth 100000
set_option linter.unusedVariables false
set_option linter.unusedSimpArgs false

theorem unesc_sign (f : Nat) (d : UInt8) (l : List UInt8) (h : asciiP d = true) : unescF (f + 1) (92 :: d :: l) = d :: unescF f l := by
  conv => lhs; unfold unescF
  rw [if_pos ⟨rfl, by simp [h]⟩]
  rfl
theorem unesc_slash (f : Nat) (l : List UInt8) (h : ∀ d r, l = d :: r → asciiP d = false) : unescF (f + 1) (92 :: l) = 92 :: unescF f l := by
  conv => lhs; unfold unescF
  rw [if_neg, entAt_other _ _ (by decide), if_neg (by simp)]
  rintro ⟨_, h2⟩
  cases l with
  | nil => simp at h2
  | cons d r => simp [h d r rfl] at h2
theorem unesc_ent (f : Nat) (c : UInt8) (l : List UInt8) (hc : c ≠ 92) (h : 0 < (entAt (c :: l)).2) : unescF (f + 1) (c :: l) = (entAt (c :: l)).1 ++ unescF f ((c :: l).drop (entAt (c :: l)).2) := by
  conv => lhs; unfold unescF
  rw [if_neg (fun h => hc h.1), if_pos h]
theorem unesc_self (f : Nat) (c : UInt8) (l : List UInt8) (hc : c ≠ 92) (h : ¬ 0 < (entAt (c :: l)).2) : unescF (f + 1) (c :: l) = c :: unescF f l := by
  conv => lhs; unfold unescF
  rw [if_neg (fun h => hc h.1), if_neg h]
theorem unesc_end (f : Nat) : unescF f [] = [] := by cases f <;> rfl

def UnRel (s : ByteArray) (w : World) (i : Nat) (wr : World) : Prop := ∃ (f : Nat) (acc : List UInt8), Lib.IsBuilderF 87 5 w.heap.size w.heap.size (Lib.byteCells acc) wr ∧ Below w.heap.size w wr ∧ acc ++ unescF f (s.data.toList.drop i) = unesc s.data.toList ∧ s.size ≤ i + f ∧ acc.length ≤ 4 * i

theorem UnRel.step {s : ByteArray} {w wr w1 : World} {i f n : Nat} {acc x : List UInt8} (hB : Below w.heap.size w wr) (hacc : acc ++ unescF (f + 1) (s.data.toList.drop i) = unesc s.data.toList) (hf : s.size ≤ i + (f + 1)) (hl : acc.length ≤ 4 * i)
    (hu : unescF (f + 1) (s.data.toList.drop i) = x ++ unescF f (s.data.toList.drop (i + n))) (hn : 1 ≤ n) (hx : x.length ≤ 4)
    (hI : Lib.IsBuilderF 87 5 w.heap.size w.heap.size (Lib.byteCells (acc ++ x)) w1) (hb1 : Below w.heap.size w w1) : UnRel s w (i + n) w1 :=
  ⟨f, acc ++ x, hI, hb1, by rw [List.append_assoc, ← hu]; exact hacc, by omega, by simp only [List.length_append]; omega⟩

set_option maxHeartbeats 4000000 in
theorem unesc_any (s : ByteArray) (w : World) (hE : Env w) (hz : s.size ≤ 1000000000) :
    Calls Tryz.prog 119 #[.string s] w fun e w' => e = .returned (.string ⟨(unesc s.data.toList).toArray⟩) ∧ Below w.heap.size w w' := by
  have HE := Lib.hid hE
  clear hE
  go_enter Tryz.func119, Tryz.ntmps119
  go_wp2_with fail
  go_loopw [4] (fun u4 wr => ∃ i : Nat, i ≤ 3000000000 ∧ u4 = .int .i64 i ∧ UnRel s w i wr) (fun u4 _ => s.size - (intOf u4).toNat)
  case atStart => exact ⟨0, by omega, rfl, s.size, [], Lib.IsBuilderF.of (Lib.fresh_isBuilder 87 5 w), (Below.refl _ _).alloc (Nat.le_refl _) _, by unfold unesc; rw [← Lib.size_eq]; rfl, by omega, by simp⟩
  case round =>
    obtain ⟨i, hi9, rfl, f, acc, hI, hB, hacc, hf, hal⟩ := hrel
    by_cases hlt : i < s.size
    · obtain ⟨f, rfl⟩ : ∃ g, f = g + 1 := ⟨f - 1, by omega⟩
      have hda := drop_at s i hlt
      obtain ⟨c, hc⟩ : ∃ c, s[i] = c := ⟨_, rfl⟩
      rw [hc] at hda
      obtain ⟨S, hS⟩ : ∃ S : ByteArray, s.extract i s.size = S := ⟨_, rfl⟩
      have hSl : S.data.toList = s.data.toList.drop i := by rw [← hS, Lib.extract_to_end]
      have hSz : S.size ≤ 1000000000 := by rw [Lib.size_eq, hSl]; simp; omega
      have hat := at_any S wr (HE.out.below hB) hSz
      have hes := entAt_size (s.data.toList.drop i)
      rw [hSl] at hat
      obtain ⟨p, hp⟩ : ∃ p, entAt (s.data.toList.drop i) = p := ⟨_, rfl⟩
      rw [hp] at hat hes
      have hdl : (s.data.toList.drop i).length ≤ 1000000000 := by simp; omega
      obtain ⟨he1, he2⟩ := hes
      have hp2 : p.2 ≤ 1000000011 := by omega
      have HAT := Lib.hid hat
      have HP := Lib.hid hp
      have HD := Lib.hid hda
      have HACC := Lib.hid hacc
      clear hat hp hda hacc hSl he2 hdl
      have hbl : (Lib.byteCells acc).length ≤ 12000000000 := by rw [Lib.byteCells_length]; omega
      by_cases c1 : c.toNat = 92
      · have hc92 : c = 92 := UInt8.toNat.inj (by simpa using c1)
        have ht : ((c.toNat : Int) == 92) = true := by simp; omega
        have hp0 : p.2 = 0 := by have := HP.out; rw [HD.out, hc92, entAt_other _ _ (by decide)] at this; rw [← this]
        have HC := Lib.hid hc92
        clear c1 hc92
        have hp0' : ¬ (0 : Int) < (p.2 : Int) := by omega
        by_cases c2 : i + 1 < s.size
        · have hdb := drop_at s (i + 1) c2
          obtain ⟨d, hd⟩ : ∃ d, s[i + 1] = d := ⟨_, rfl⟩
          rw [hd] at hdb
          have HDB := Lib.hid hdb
          clear hdb
          have hI64 : IntKind.i64.wrap ((i : Int) + 1) = ((i + 1 : Nat) : Int) := by rw [wrap_small _ (by omega) (by omega)]; omega
          have hlt1 : ((i + 1 : Nat) : Int) < (s.size : Int) := by omega
          cases hsd : asciiP d
          · have hu : unescF (f + 1) (s.data.toList.drop i) = [c] ++ unescF f (s.data.toList.drop (i + 1)) := by
              rw [HD.out, HC.out, unesc_slash _ _ (fun d' r' h => by rw [HDB.out] at h; cases h; exact hsd)]; rfl
            have HU := Lib.hid hu
            have HSD := Lib.hid hsd
            clear hu hsd
            go_wp2_with fail
            refine (HAT.out).mono ?_
            rintro e w1 ⟨rfl, hb1⟩
            have hI1 := bld_below hI hb1
            have hB1 := below_step hB hb1
            go_wp2_with fail
            refine (ascii_any d _).mono ?_
            rintro e w2 ⟨rfl, hb2⟩
            have hI2 := bld_below hI1 hb2
            have hB2 := below_step hB1 hb2
            rw [HSD.out]
            go_wp2_with fail
            refine (bld_byte w.heap.size w.heap.size _ _ _ hI2 (by omega) hB2.size).mono ?_
            rintro e w3 ⟨rfl, h3, hb3, k3⟩
            have hB3 := hB2.trans hb3
            go_wp2_with fail
            go_roundw
            case rel => exact ⟨i + 1, by omega, by go_num, UnRel.step (n := 1) hB HACC.out hf hal HU.out (by omega) (by simp) (by rw [Lib.byteCells_append]; exact Or.inr h3) hB3⟩
            case measure => simp [intOf]; omega
          · have hu : unescF (f + 1) (s.data.toList.drop i) = [d] ++ unescF f (s.data.toList.drop (i + 2)) := by
              rw [HD.out, HC.out, HDB.out, unesc_sign _ _ _ hsd]; rfl
            have HU := Lib.hid hu
            have HSD := Lib.hid hsd
            clear hu hsd
            go_wp2_with fail
            refine (HAT.out).mono ?_
            rintro e w1 ⟨rfl, hb1⟩
            have hI1 := bld_below hI hb1
            have hB1 := below_step hB hb1
            go_wp2_with fail
            refine (ascii_any d _).mono ?_
            rintro e w2 ⟨rfl, hb2⟩
            have hI2 := bld_below hI1 hb2
            have hB2 := below_step hB1 hb2
            rw [HSD.out]
            go_wp2_with fail
            refine (bld_byte w.heap.size w.heap.size _ _ _ hI2 (by omega) hB2.size).mono ?_
            rintro e w3 ⟨rfl, h3, hb3, k3⟩
            have hB3 := hB2.trans hb3
            go_wp2_with fail
            go_roundw
            case rel => exact ⟨i + 2, by omega, by go_num, UnRel.step (n := 2) hB HACC.out hf hal HU.out (by omega) (by simp) (by rw [Lib.byteCells_append]; exact Or.inr h3) hB3⟩
            case measure => simp [intOf]; omega
        · have hu : unescF (f + 1) (s.data.toList.drop i) = [c] ++ unescF f (s.data.toList.drop (i + 1)) := by
            rw [HD.out, HC.out, unesc_slash _ _ (fun d' r' h => by rw [drop_end s (i + 1) (by omega)] at h; cases h)]; rfl
          have HU := Lib.hid hu
          clear hu
          have hlt1 : ¬ (i : Int) + 1 < (s.size : Int) := by omega
          go_wp2_with fail
          refine (HAT.out).mono ?_
          rintro e w1 ⟨rfl, hb1⟩
          have hI1 := bld_below hI hb1
          have hB1 := below_step hB hb1
          go_wp2_with fail
          refine (bld_byte w.heap.size w.heap.size _ _ _ hI1 (by omega) hB1.size).mono ?_
          rintro e w3 ⟨rfl, h3, hb3, k3⟩
          have hB3 := hB1.trans hb3
          go_wp2_with fail
          go_roundw
          case rel => exact ⟨i + 1, by omega, by go_num, UnRel.step (n := 1) hB HACC.out hf hal HU.out (by omega) (by simp) (by rw [Lib.byteCells_append]; exact Or.inr h3) hB3⟩
          case measure => simp [intOf]; omega
      · have ht : ((c.toNat : Int) == 92) = false := by simp; omega
        have hc92 : c ≠ 92 := fun e => c1 (by rw [e]; rfl)
        clear c1
        by_cases hp0 : 0 < p.2
        · have hu : unescF (f + 1) (s.data.toList.drop i) = p.1 ++ unescF f (s.data.toList.drop (i + p.2)) := by
            rw [HD.out, unesc_ent _ _ _ hc92 (by rw [← HD.out, HP.out]; exact hp0), ← HD.out, HP.out, List.drop_drop]
          have HU := Lib.hid hu
          have HC := Lib.hid hc92
          clear hu hc92
          have hp0' : (0 : Int) < (p.2 : Int) := by omega
          have hsz : (ByteArray.mk p.1.toArray).size ≤ 4 := by rw [Lib.size_eq]; exact he1
          go_wp2_with fail
          refine (HAT.out).mono ?_
          rintro e w1 ⟨rfl, hb1⟩
          have hI1 := bld_below hI hb1
          have hB1 := below_step hB hb1
          go_wp2_with fail
          refine (bld_string w.heap.size w.heap.size _ _ _ hI1 (by omega) hB1.size).mono ?_
          rintro e w3 ⟨rfl, h3, hb3, k3⟩
          have hB3 := hB1.trans hb3
          go_wp2_with fail
          go_roundw
          case rel => exact ⟨i + p.2, by omega, by go_num, UnRel.step (n := p.2) hB HACC.out hf hal HU.out (by omega) he1 (by rw [Lib.byteCells_append]; exact Or.inr h3) hB3⟩
          case measure => simp [intOf]; omega
        · have hu : unescF (f + 1) (s.data.toList.drop i) = [c] ++ unescF f (s.data.toList.drop (i + 1)) := by
            rw [HD.out, unesc_self _ _ _ hc92 (by rw [← HD.out, HP.out]; exact hp0)]; rfl
          have HU := Lib.hid hu
          have HC := Lib.hid hc92
          clear hu hc92
          have hp0' : ¬ (0 : Int) < (p.2 : Int) := by omega
          go_wp2_with fail
          refine (HAT.out).mono ?_
          rintro e w1 ⟨rfl, hb1⟩
          have hI1 := bld_below hI hb1
          have hB1 := below_step hB hb1
          go_wp2_with fail
          refine (bld_byte w.heap.size w.heap.size _ _ _ hI1 (by omega) hB1.size).mono ?_
          rintro e w3 ⟨rfl, h3, hb3, k3⟩
          have hB3 := hB1.trans hb3
          go_wp2_with fail
          go_roundw
          case rel => exact ⟨i + 1, by omega, by go_num, UnRel.step (n := 1) hB HACC.out hf hal HU.out (by omega) (by simp) (by rw [Lib.byteCells_append]; exact Or.inr h3) hB3⟩
          case measure => simp [intOf]; omega
    · rw [drop_end s i (by omega), unesc_end, List.append_nil] at hacc
      subst hacc
      go_wp2_with fail
      refine (Tryz.Builder_String_any_k w.heap.size w.heap.size _ wr hI hB.size).mono ?_
      rintro e w2 ⟨rfl, _, hb2, _⟩
      go_wp2_with fail
      go_ret
      exact ⟨rfl, hB.trans hb2⟩

end Go.Proofs.YtnlmfoccdmkncaaGreatDoor

/-
  target.zero, angled, Dest: the target with which a text begins.
-/
namespace Go.Proofs.YtnlmfoccdmkncaaGreatDoor
open Go.RowKit
set_option maxRecDepth 100000
set_option linter.unusedVariables false
set_option linter.unusedSimpArgs false

theorem zero_any (s : ByteArray) (i : Int) (n : Nat) (hn : i = n) (w : World) (hs : s.size ≤ 1000000000) :
    Calls Tryz.prog 120 #[.string s, .int .i64 i] w fun e w' => e = .returned (.bool (decide (s.data.toList[n]? = some 0))) ∧ w' = w := by
  subst hn
  by_cases h : n < s.size
  · obtain ⟨c, hc⟩ : ∃ c, s[n] = c := ⟨_, rfl⟩
    have hd : s.data.toList[n]? = some c := by rw [← hc]; exact Lib.data_getElem? s n h
    rw [hd]
    have HR := Lib.hid (show (some c = some 0) = ((c.toNat : Int) = 0) from propext (by
      constructor
      · intro h; cases h; rfl
      · intro h; congr 1; exact UInt8.toNat.inj (by simpa using h)))
    clear hd
    have h' : (n : Int) < (s.size : Int) := by omega
    go_enter Tryz.func120, Tryz.ntmps120
    go_wp2_with fail
    go_ret
    refine ⟨ret_bool ?_, rfl⟩
    rw [Bool.eq_iff_iff]; simp only [decide_eq_true_eq, beq_iff_eq]; rw [HR.out]
  · have hd : s.data.toList[n]? = none := by rw [List.getElem?_eq_none]; simp; omega
    rw [hd]
    have h' : ¬ (n : Int) < (s.size : Int) := by omega
    go_enter Tryz.func120, Tryz.ntmps120
    go_wp2_with fail
    go_ret
    exact ⟨rfl, rfl⟩

/-- The rest of a scan. -/
def ScanTo (s : ByteArray) (e : UInt8) (bad : UInt8 → Bool) (i : Nat) (R : Option Nat) : Prop := ∃ f, scanTo e bad f (s.data.toList.drop i) i = R ∧ s.size ≤ i + f

theorem scan_slash0 {s : ByteArray} {e : UInt8} {bad : UInt8 → Bool} {i : Nat} {R : Option Nat} (h : ScanTo s e bad i R) (hi : i < s.size) (hc : s[i] = 92) (hz : s.data.toList[i + 1]? = some 0) : R = none := by
  obtain ⟨f, h, hf⟩ := h
  obtain ⟨f, rfl⟩ : ∃ g, f = g + 1 := ⟨f - 1, by omega⟩
  rw [drop_at s i hi, hc] at h
  unfold scanTo at h
  rw [if_pos rfl, if_pos (by rw [List.head?_drop]; exact hz)] at h
  exact h.symm
theorem scan_slash1 {s : ByteArray} {e : UInt8} {bad : UInt8 → Bool} {i : Nat} {R : Option Nat} (h : ScanTo s e bad i R) (hi : i < s.size) (hc : s[i] = 92) (hz : s.data.toList[i + 1]? ≠ some 0) : ScanTo s e bad (i + 2) R := by
  obtain ⟨f, h, hf⟩ := h
  obtain ⟨f, rfl⟩ : ∃ g, f = g + 1 := ⟨f - 1, by omega⟩
  rw [drop_at s i hi, hc] at h
  unfold scanTo at h
  rw [if_pos rfl, if_neg (by rw [List.head?_drop]; exact hz), List.drop_drop] at h
  exact ⟨f, h, by omega⟩
theorem scan_hit0 {s : ByteArray} {e : UInt8} {bad : UInt8 → Bool} {i : Nat} {R : Option Nat} (h : ScanTo s e bad i R) (hi : i < s.size) (hc : s[i] = e) (he : e ≠ 92) : R = some i := by
  obtain ⟨f, h, hf⟩ := h
  obtain ⟨f, rfl⟩ : ∃ g, f = g + 1 := ⟨f - 1, by omega⟩
  rw [drop_at s i hi, hc] at h
  unfold scanTo at h
  rw [if_neg he, if_pos rfl] at h
  exact h.symm
theorem scan_bad0 {s : ByteArray} {e c : UInt8} {bad : UInt8 → Bool} {i : Nat} {R : Option Nat} (h : ScanTo s e bad i R) (hi : i < s.size) (hc : s[i] = c) (h92 : c ≠ 92) (he : c ≠ e) (hb : bad c = true ∨ c = 0) : R = none := by
  obtain ⟨f, h, hf⟩ := h
  obtain ⟨f, rfl⟩ : ∃ g, f = g + 1 := ⟨f - 1, by omega⟩
  rw [drop_at s i hi, hc] at h
  unfold scanTo at h
  rw [if_neg h92, if_neg he, if_pos hb] at h
  exact h.symm
theorem scan_next {s : ByteArray} {e c : UInt8} {bad : UInt8 → Bool} {i : Nat} {R : Option Nat} (h : ScanTo s e bad i R) (hi : i < s.size) (hc : s[i] = c) (h92 : c ≠ 92) (he : c ≠ e) (hb : ¬ (bad c = true ∨ c = 0)) : ScanTo s e bad (i + 1) R := by
  obtain ⟨f, h, hf⟩ := h
  obtain ⟨f, rfl⟩ : ∃ g, f = g + 1 := ⟨f - 1, by omega⟩
  rw [drop_at s i hi, hc] at h
  unfold scanTo at h
  rw [if_neg h92, if_neg he, if_neg hb] at h
  exact ⟨f, h, by omega⟩
theorem scan_end0 {s : ByteArray} {e : UInt8} {bad : UInt8 → Bool} {i : Nat} {R : Option Nat} (h : ScanTo s e bad i R) (hi : ¬ i < s.size) : R = none := by
  obtain ⟨f, h, hf⟩ := h
  rw [drop_end s i (by omega)] at h
  cases f <;> exact h.symm

def angBad (c : UInt8) : Bool := c == 60 || c == 10

theorem byte_ne {c : UInt8} {n : Nat} (hn : n < 256) (h : c.toNat ≠ n) : c ≠ UInt8.ofNat n := fun e => h (by rw [e, UInt8.toNat_ofNat']; omega)
theorem byte_eq {c : UInt8} {n : Nat} (h : c.toNat = n) : c = UInt8.ofNat n := by rw [← h]; simp

theorem angled_some {l : List UInt8} {i : Nat} (h : scanTo 62 angBad l.length (l.drop 1) 1 = some i) : angled l = (unesc (l.take i).tail, i + 1, true) := by
  unfold angled
  rw [show (fun c : UInt8 => c == 60 || c == 10) = angBad from rfl, h]
  simp only [List.drop_one]
theorem angled_none {l : List UInt8} (h : scanTo 62 angBad l.length (l.drop 1) 1 = none) : angled l = ([], 0, false) := by
  unfold angled
  rw [show (fun c : UInt8 => c == 60 || c == 10) = angBad from rfl, h]

theorem ext_list (s : ByteArray) (i : Nat) : (s.extract 1 i).data.toList = (s.data.toList.take i).tail := by
  rw [Lib.extract_data, ← List.drop_take, List.drop_one]

set_option maxHeartbeats 4000000 in
theorem angled_any (s : ByteArray) (w : World) (hE : Env w) (hz : s.size ≤ 1000000000) :
    Calls Tryz.prog 118 #[.string s] w fun e w' => e = .returned (.tuple #[.string ⟨(angled s.data.toList).1.toArray⟩, .int .i64 (angled s.data.toList).2.1, .bool (angled s.data.toList).2.2]) ∧ Below w.heap.size w w' := by
  obtain ⟨R, hR⟩ : ∃ R, scanTo 62 angBad s.data.toList.length (s.data.toList.drop 1) 1 = R := ⟨_, rfl⟩
  have h0 : ScanTo s 62 angBad 1 R := ⟨_, hR, by rw [Lib.size_eq]; omega⟩
  have HR := Lib.hid hR
  clear hR
  go_enter Tryz.func118, Tryz.ntmps118
  go_wp2_with fail
  go_loop [5] (fun u5 => ∃ i : Nat, 1 ≤ i ∧ i ≤ 1000000002 ∧ u5 = .int .i64 i ∧ ScanTo s 62 angBad i R) (fun u5 => s.size - (intOf u5).toNat)
  case atStart => exact ⟨1, by omega, by omega, rfl, h0⟩
  case round =>
    obtain ⟨i, hi1, hi2, rfl, hsc⟩ := hrel
    by_cases hlt : i < s.size
    · obtain ⟨c, hc⟩ : ∃ c, s[i] = c := ⟨_, rfl⟩
      have HSC := Lib.hid hsc
      have HC := Lib.hid hc
      clear hsc
      by_cases c1 : c.toNat = 92
      · have ht : ((c.toNat : Int) == 92) = true := by simp; omega
        have hc92 : c = 92 := byte_eq c1
        have hzC : ∀ W, Calls Tryz.prog 120 #[.string s, .int .i64 ((i : Int) + 1)] W fun e w' => e = .returned (.bool (decide (s.data.toList[i + 1]? = some 0))) ∧ w' = W := fun W => zero_any s _ (i + 1) (by omega) W hz
        by_cases hzz : s.data.toList[i + 1]? = some 0
        · rw [decide_eq_true hzz] at hzC
          have HZ := Lib.hid hzC
          have HN := Lib.hid (angled_none (by rw [HR.out]; exact scan_slash0 HSC.out hlt (by rw [HC.out, hc92]) hzz))
          clear hzC hzz c1 hc92
          go_wp2_with fail
          refine (HZ.out _).mono ?_
          rintro e w' ⟨rfl, rfl⟩
          go_wp2_with fail
          go_ret3
          exact ⟨ret_sib HN.out rfl, Below.refl _ _⟩
        · rw [decide_eq_false hzz] at hzC
          have HZ := Lib.hid hzC
          have HN := Lib.hid (scan_slash1 HSC.out hlt (by rw [HC.out, hc92]) hzz)
          clear hzC hzz c1 hc92
          go_wp2_with fail
          refine (HZ.out _).mono ?_
          rintro e w' ⟨rfl, rfl⟩
          go_wp2_with fail
          go_round
          case rel => exact ⟨i + 2, by omega, by omega, by go_num, HN.out⟩
          case measure => simp [intOf]; omega
      · have ht : ((c.toNat : Int) == 92) = false := by simp; omega
        have h92 : c ≠ 92 := byte_ne (n := 92) (by omega) c1
        clear c1
        by_cases c2 : c.toNat = 60
        · have ht2 : ((c.toNat : Int) == 60) = true := by simp; omega
          have HN := Lib.hid (angled_none (by rw [HR.out]; exact scan_bad0 HSC.out hlt HC.out h92 (by rw [byte_eq c2]; decide) (Or.inl (by rw [byte_eq c2]; decide))))
          clear c2 h92
          go_wp2_with fail
          go_ret3
          exact ⟨ret_sib HN.out rfl, Below.refl _ _⟩
        · have ht2 : ((c.toNat : Int) == 60) = false := by simp; omega
          have h60 : c ≠ 60 := byte_ne (n := 60) (by omega) c2
          clear c2
          by_cases c3 : c.toNat = 10
          · have ht3 : ((c.toNat : Int) == 10) = true := by simp; omega
            have HN := Lib.hid (angled_none (by rw [HR.out]; exact scan_bad0 HSC.out hlt HC.out h92 (by rw [byte_eq c3]; decide) (Or.inl (by rw [byte_eq c3]; decide))))
            clear c3 h92 h60
            go_wp2_with fail
            go_ret3
            exact ⟨ret_sib HN.out rfl, Below.refl _ _⟩
          · have ht3 : ((c.toNat : Int) == 10) = false := by simp; omega
            have h10 : c ≠ 10 := byte_ne (n := 10) (by omega) c3
            clear c3
            by_cases c4 : c.toNat = 62
            · have ht4 : ((c.toNat : Int) == 62) = true := by simp; omega
              have HN := Lib.hid (angled_some (by rw [HR.out]; exact scan_hit0 HSC.out hlt (by rw [HC.out, byte_eq c4]; rfl) (by decide)))
              clear c4 h92 h60 h10
              obtain ⟨S, hS⟩ : ∃ S : ByteArray, s.extract 1 i = S := ⟨_, rfl⟩
              have hSl : S.data.toList = (s.data.toList.take i).tail := by rw [← hS, ext_list]
              have hSz : S.size ≤ 1000000000 := by rw [Lib.size_eq, hSl]; simp; omega
              have hun := unesc_any S w hE hSz
              rw [hSl] at hun
              have HU := Lib.hid hun
              clear hun hSl
              go_wp2_with fail
              refine (HU.out).mono ?_
              rintro e w' ⟨rfl, hb⟩
              go_wp2_with fail
              go_ret3
              exact ⟨ret_sib (m := i + 1) HN.out (by simp), hb⟩
            · have ht4 : ((c.toNat : Int) == 62) = false := by simp; omega
              have h62 : c ≠ 62 := byte_ne (n := 62) (by omega) c4
              clear c4
              have hzC : ∀ W, Calls Tryz.prog 120 #[.string s, .int .i64 (i : Int)] W fun e w' => e = .returned (.bool (decide (s.data.toList[i]? = some 0))) ∧ w' = W := fun W => zero_any s _ i rfl W hz
              have hgi : s.data.toList[i]? = some c := by rw [← HC.out]; exact Lib.data_getElem? s i hlt
              rw [hgi] at hzC
              have hbad : angBad c = false := by unfold angBad; simp [h60, h10]
              by_cases c5 : c = 0
              · rw [decide_eq_true (congrArg some c5)] at hzC
                have HZ := Lib.hid hzC
                have HN := Lib.hid (angled_none (by rw [HR.out]; exact scan_bad0 HSC.out hlt HC.out h92 h62 (Or.inr c5)))
                clear hzC hgi hbad c5 h92 h60 h10 h62
                go_wp2_with fail
                refine (HZ.out _).mono ?_
                rintro e w' ⟨rfl, rfl⟩
                go_wp2_with fail
                go_ret3
                exact ⟨ret_sib HN.out rfl, Below.refl _ _⟩
              · rw [decide_eq_false (fun h => c5 (Option.some.inj h))] at hzC
                have HZ := Lib.hid hzC
                have HN := Lib.hid (scan_next HSC.out hlt HC.out h92 h62 (by rw [hbad]; simp [c5]))
                clear hzC hgi hbad c5 h92 h60 h10 h62
                go_wp2_with fail
                refine (HZ.out _).mono ?_
                rintro e w' ⟨rfl, rfl⟩
                go_wp2_with fail
                go_round
                case rel => exact ⟨i + 1, by omega, by omega, by go_num, HN.out⟩
                case measure => simp [intOf]; omega
    · have HN := Lib.hid (angled_none (by rw [HR.out]; exact scan_end0 hsc hlt))
      clear hsc
      go_wp2_with fail
      go_ret3
      exact ⟨ret_sib HN.out rfl, Below.refl _ _⟩

/-- The rest of a target's way. -/
def DGo (s : ByteArray) (o i : Nat) (R : Nat × Nat) : Prop := ∃ f, destGo f (s.data.toList.drop i) o i = R ∧ s.size ≤ i + f

theorem dgo_end {s : ByteArray} {o i : Nat} {R : Nat × Nat} (h : DGo s o i R) (hi : ¬ i < s.size) : R = (o, i) := by
  obtain ⟨f, h, hf⟩ := h
  rw [drop_end s i (by omega)] at h
  cases f <;> exact h.symm
theorem dgo_open {s : ByteArray} {o i : Nat} {R : Nat × Nat} {c : UInt8} (h : DGo s o i R) (hi : i < s.size) (hc : s[i] = c) : ∃ f, s.size ≤ (i + 1) + f ∧
    (if isWhite c = true then (o, i)
    else if c = 92 ∧ ((s.data.toList.drop (i + 1)).head?.map (fun d => !isWhite d)).getD false = true then destGo f (s.data.toList.drop (i + 2)) o (i + 2)
    else if c = 40 then destGo f (s.data.toList.drop (i + 1)) (o + 1) (i + 1)
    else if c = 41 ∧ o = 0 then (o, i)
    else if c = 41 then destGo f (s.data.toList.drop (i + 1)) (o - 1) (i + 1)
    else destGo f (s.data.toList.drop (i + 1)) o (i + 1)) = R := by
  obtain ⟨f, h, hf⟩ := h
  obtain ⟨f, rfl⟩ : ∃ g, f = g + 1 := ⟨f - 1, by omega⟩
  rw [drop_at s i hi, hc] at h
  unfold destGo at h
  rw [List.drop_drop] at h
  exact ⟨f, by omega, h⟩
theorem dgo_white {s : ByteArray} {o i : Nat} {R : Nat × Nat} {c : UInt8} (h : DGo s o i R) (hi : i < s.size) (hc : s[i] = c) (h1 : isWhite c = true) : R = (o, i) := by
  obtain ⟨f, _, h⟩ := dgo_open h hi hc
  rw [if_pos h1] at h
  exact h.symm
theorem dgo_slash {s : ByteArray} {o i : Nat} {R : Nat × Nat} {d : UInt8} (h : DGo s o i R) (hi : i < s.size) (hc : s[i] = 92) (hd : s.data.toList[i + 1]? = some d) (h1 : isWhite d = false) : DGo s o (i + 2) R := by
  obtain ⟨f, hf, h⟩ := dgo_open h hi hc
  rw [if_neg (by decide), if_pos ⟨rfl, by rw [List.head?_drop, hd]; simp [h1]⟩] at h
  exact ⟨f, h, by omega⟩
theorem dgo_one {s : ByteArray} {o i : Nat} {R : Nat × Nat} {c : UInt8} (h : DGo s o i R) (hi : i < s.size) (hc : s[i] = c) (h1 : isWhite c = false) (h2 : c = 92 → ∀ d, s.data.toList[i + 1]? = some d → isWhite d = true) :
    (c = 40 → DGo s (o + 1) (i + 1) R) ∧ (c = 41 → o = 0 → R = (o, i)) ∧ (c = 41 → o ≠ 0 → DGo s (o - 1) (i + 1) R) ∧ (c ≠ 40 → c ≠ 41 → DGo s o (i + 1) R) := by
  obtain ⟨f, hf, h⟩ := dgo_open h hi hc
  rw [if_neg (by rw [h1]; simp), if_neg (by
    rintro ⟨e, h3⟩
    rw [List.head?_drop] at h3
    cases hd : s.data.toList[i + 1]? with
    | none => rw [hd] at h3; simp at h3
    | some d => rw [hd] at h3; simp [h2 e d hd] at h3)] at h
  refine ⟨fun e => ?_, fun e e0 => ?_, fun e e0 => ?_, fun e e' => ?_⟩
  · rw [if_pos e] at h; exact ⟨f, h, by omega⟩
  · rw [if_neg (by rw [e]; decide), if_pos ⟨e, e0⟩] at h; exact h.symm
  · rw [if_neg (by rw [e]; decide), if_neg (fun h => e0 h.2), if_pos e] at h; exact ⟨f, h, by omega⟩
  · rw [if_neg e, if_neg (fun h => e' h.1), if_neg e'] at h; exact ⟨f, h, by omega⟩

theorem white_test (c : UInt8) : isWhite c = (decide ((c.toNat : Int) ≤ 32) || ((c.toNat : Int) == 127)) :=
  allB (p := fun c => isWhite c = (decide ((c.toNat : Int) ≤ 32) || ((c.toNat : Int) == 127))) (by unfold AllB; decide +kernel) c

theorem dest_eq (l : List UInt8) (o i : Nat) (h0 : l.head? ≠ some 60) (h : destGo l.length l 0 0 = (o, i)) : dest l = if i = 0 ∨ 0 < o then ([], 0, false) else (unesc (l.take i), i, true) := by
  unfold dest
  rw [if_neg h0, h]

theorem pre_one (l : List UInt8) (c : UInt8) : Lib.hasPrefix l [c] = decide (l.head? = some c) := by
  unfold Lib.hasPrefix
  cases l with
  | nil => simp [List.isPrefixOf]
  | cons d r => simp [List.isPrefixOf]; rw [Bool.eq_iff_iff]; simp; exact eq_comm

set_option maxHeartbeats 4000000 in
theorem dest_any (s : ByteArray) (w : World) (hE : Env w) (hz : s.size ≤ 1000000000) :
    Calls Tryz.prog 81 #[.string s] w fun e w' => e = .returned (.tuple #[.string ⟨(dest s.data.toList).1.toArray⟩, .int .i64 (dest s.data.toList).2.1, .bool (dest s.data.toList).2.2]) ∧ Below w.heap.size w w' := by
  have hpre := Tryz.strings_HasPrefix s ⟨#[60]⟩
  rw [show (ByteArray.mk #[60]).data.toList = [60] from rfl, pre_one] at hpre
  by_cases h0 : s.data.toList.head? = some 60
  · rw [decide_eq_true h0] at hpre
    have HP := Lib.hid hpre
    have HD := Lib.hid (show dest s.data.toList = angled s.data.toList by unfold dest; rw [if_pos h0])
    clear hpre h0
    go_enter Tryz.func81, Tryz.ntmps81
    go_wp2_with fail
    go_step3
    go_wp2_with fail
    refine (HP.out _).mono ?_
    rintro e w' ⟨rfl, rfl⟩
    go_wp2_with fail
    refine (angled_any s _ hE hz).mono ?_
    rintro e w' ⟨rfl, hb⟩
    go_wp2_with fail
    try rw [Exit.noGoto_ret]
    go_ret3
    exact ⟨by rw [HD.out]; rfl, hb⟩
  · rw [decide_eq_false h0] at hpre
    have HP := Lib.hid hpre
    obtain ⟨⟨O, I⟩, hR⟩ : ∃ R, destGo s.data.toList.length s.data.toList 0 0 = R := ⟨_, rfl⟩
    have hd0 : DGo s 0 0 (O, I) := ⟨_, by rw [List.drop_zero]; exact hR, by rw [Lib.size_eq]; omega⟩
    have HD := Lib.hid (dest_eq s.data.toList O I h0 hR)
    clear hpre h0 hR
    go_enter Tryz.func81, Tryz.ntmps81
    go_wp2_with fail
    go_step3
    go_wp2_with fail
    refine (HP.out _).mono ?_
    rintro e w' ⟨rfl, rfl⟩
    go_wp2_with fail
    go_step3
    go_upto_block 0 with (fail)
    go_cut [5, 6] (fun u5 u6 wc => u5 = .int .i64 O ∧ u6 = .int .i64 I ∧ I ≤ s.size ∧ wc = w')
    case first =>
      go_wp2_with fail
      go_loop [5, 6] (fun u5 u6 => ∃ o i : Nat, u5 = .int .i64 o ∧ u6 = .int .i64 i ∧ o ≤ i ∧ i ≤ s.size ∧ DGo s o i (O, I)) (fun _ u6 => s.size - (intOf u6).toNat)
      case atStart => exact ⟨0, 0, rfl, rfl, by omega, by omega, hd0⟩
      case round =>
        obtain ⟨o, i, rfl, rfl, hoi, hi9, hgo⟩ := hrel
        have HG := Lib.hid hgo
        clear hgo hd0
        by_cases hlt : i < s.size
        · obtain ⟨c, hc⟩ : ∃ c, s[i] = c := ⟨_, rfl⟩
          have HC := Lib.hid hc
          have hwt := white_test c
          cases hw : isWhite c
          · rw [hw] at hwt
            have t1 : ¬ (c.toNat : Int) ≤ 32 := by intro h; rw [decide_eq_true h] at hwt; cases hwt
            have t2 : ((c.toNat : Int) == 127) = false := by cases h : ((c.toNat : Int) == 127); rfl; rw [h] at hwt; simp at hwt
            have HW := Lib.hid hw
            clear hwt hw
            by_cases c1 : c.toNat = 92
            · have t3 : ((c.toNat : Int) == 92) = true := by simp; omega
              have t4 : ((c.toNat : Int) == 40) = false := by simp; omega
              have t5 : ((c.toNat : Int) == 41) = false := by simp; omega
              have hc92 : c = 92 := byte_eq c1
              have HC92 := Lib.hid hc92
              clear c1 hc92
              have one : (∀ d, s.data.toList[i + 1]? = some d → isWhite d = true) → DGo s o (i + 1) (O, I) := fun h =>
                (dgo_one HG.out hlt HC.out HW.out (fun _ => h)).2.2.2 (by rw [HC92.out]; decide) (by rw [HC92.out]; decide)
              have HONE := Lib.hid one
              clear one
              by_cases c2 : i + 1 < s.size
              · have hlt1 : (i : Int) + 1 < (s.size : Int) := by omega
                have hi1 : IntKind.i64.wrap ((i : Int) + 1) = ((i + 1 : Nat) : Int) := by rw [wrap_small _ (by omega) (by omega)]; omega
                obtain ⟨d, hd⟩ : ∃ d, s[i + 1] = d := ⟨_, rfl⟩
                have HD1 := Lib.hid (show s.data.toList[i + 1]? = some d by rw [← hd]; exact Lib.data_getElem? s (i + 1) c2)
                have hdt := white_test d
                cases hdw : isWhite d
                · rw [hdw] at hdt
                  have t6 : (32 : Int) < (d.toNat : Int) := by
                    apply Classical.byContradiction; intro h; rw [decide_eq_true (show (d.toNat : Int) ≤ 32 by omega)] at hdt; cases hdt
                  have t7 : ((d.toNat : Int) != 127) = true := by
                    cases h : ((d.toNat : Int) == 127)
                    · simp only [bne, h]; rfl
                    · rw [h] at hdt; simp at hdt
                  have HN := Lib.hid (dgo_slash HG.out hlt (by rw [HC.out, HC92.out]) HD1.out hdw)
                  clear hdt hdw
                  go_wp2_with fail
                  go_round
                  case rel => exact ⟨o, i + 2, by go_num, by go_num, by omega, by omega, HN.out⟩
                  case measure => simp [intOf]; omega
                · rw [hdw] at hdt
                  have HN := Lib.hid (HONE.out (fun d' h => by rw [HD1.out] at h; cases h; exact hdw))
                  clear hdw
                  by_cases t6 : (d.toNat : Int) ≤ 32
                  · have t6' : ¬ (32 : Int) < (d.toNat : Int) := by omega
                    clear hdt
                    go_wp2_with fail
                    go_round
                    case rel => exact ⟨o, i + 1, by go_num, by go_num, by omega, by omega, HN.out⟩
                    case measure => simp [intOf]; omega
                  · have t6' : (32 : Int) < (d.toNat : Int) := by omega
                    have t7 : ((d.toNat : Int) != 127) = false := by
                      rw [decide_eq_false t6] at hdt
                      simp only [bne]
                      rw [show ((d.toNat : Int) == 127) = true from hdt.symm]; rfl
                    clear hdt
                    go_wp2_with fail
                    go_round
                    case rel => exact ⟨o, i + 1, by go_num, by go_num, by omega, by omega, HN.out⟩
                    case measure => simp [intOf]; omega
              · have hlt1 : ¬ (i : Int) + 1 < (s.size : Int) := by omega
                have HN := Lib.hid (HONE.out (fun d h => by rw [List.getElem?_eq_none (by simp; omega)] at h; cases h))
                go_wp2_with fail
                go_round
                case rel => exact ⟨o, i + 1, by go_num, by go_num, by omega, by omega, HN.out⟩
                case measure => simp [intOf]; omega
            · have t3 : ((c.toNat : Int) == 92) = false := by simp; omega
              have one := dgo_one HG.out hlt HC.out HW.out (fun e => absurd (by rw [e]; rfl) c1)
              have HONE := Lib.hid one
              clear one c1
              by_cases c2 : c.toNat = 40
              · have t4 : ((c.toNat : Int) == 40) = true := by simp; omega
                have HN := Lib.hid (HONE.out.1 (byte_eq c2))
                clear c2
                go_wp2_with fail
                go_round
                case rel => exact ⟨o + 1, i + 1, by go_num, by go_num, by omega, by omega, HN.out⟩
                case measure => simp [intOf]; omega
              · have t4 : ((c.toNat : Int) == 40) = false := by simp; omega
                have h40 := Lib.hid (byte_ne (n := 40) (by omega) c2)
                clear c2
                by_cases c3 : c.toNat = 41
                · have t5 : ((c.toNat : Int) == 41) = true := by simp; omega
                  have HC41 := Lib.hid (byte_eq c3)
                  clear c3
                  by_cases c4 : o = 0
                  · have HE2 := Lib.hid (HONE.out.2.1 HC41.out c4)
                    have t6 : ((o : Int) == 0) = true := by simp; omega
                    clear c4
                    go_wp2_with fail
                    go_meet
                    case rel => exact ⟨by have := HE2.out; cases this; rfl, by have := HE2.out; cases this; rfl, by have := HE2.out; cases this; omega, rfl⟩
                  · have HN := Lib.hid (HONE.out.2.2.1 HC41.out c4)
                    have t6 : ((o : Int) == 0) = false := by simp; omega
                    have t8 : IntKind.i64.wrap ((o : Int) - 1) = ((o - 1 : Nat) : Int) := by rw [wrap_small _ (by omega) (by omega)]; omega
                    have t9 : (o : Int) - 1 = ((o - 1 : Nat) : Int) := by omega
                    have HT9 := Lib.hid t9
                    clear t9
                    go_wp2_with fail
                    go_round
                    case rel => exact ⟨o - 1, i + 1, by rw [← HT9.out], by go_num, by omega, by omega, HN.out⟩
                    case measure => simp [intOf]; omega
                · have t5 : ((c.toNat : Int) == 41) = false := by simp; omega
                  have HN := Lib.hid (HONE.out.2.2.2 h40.out (byte_ne (n := 41) (by omega) c3))
                  clear c3
                  go_wp2_with fail
                  go_round
                  case rel => exact ⟨o, i + 1, by go_num, by go_num, by omega, by omega, HN.out⟩
                  case measure => simp [intOf]; omega
          · rw [hw] at hwt
            have HE2 := Lib.hid (dgo_white HG.out hlt HC.out hw)
            clear hw
            by_cases t1 : (c.toNat : Int) ≤ 32
            · clear hwt
              go_wp2_with fail
              go_meet
              case rel => exact ⟨by have := HE2.out; cases this; rfl, by have := HE2.out; cases this; rfl, by have := HE2.out; cases this; omega, rfl⟩
            · have t2 : ((c.toNat : Int) == 127) = true := by rw [decide_eq_false t1] at hwt; exact hwt.symm
              clear hwt
              go_wp2_with fail
              go_meet
              case rel => exact ⟨by have := HE2.out; cases this; rfl, by have := HE2.out; cases this; rfl, by have := HE2.out; cases this; omega, rfl⟩
        · have HE2 := Lib.hid (dgo_end HG.out hlt)
          go_wp2_with fail
          go_meet
          case rel => exact ⟨by have := HE2.out; cases this; rfl, by have := HE2.out; cases this; rfl, by have := HE2.out; cases this; omega, rfl⟩
    case rest =>
      obtain ⟨rfl, rfl, hI9, rfl⟩ := hcut
      by_cases hI : I = 0 ∨ 0 < O
      · have HR := Lib.hid (show dest s.data.toList = ([], 0, false) by rw [HD.out, if_pos hI])
        by_cases hI0 : I = 0
        · subst hI0
          clear hI
          go_wp2_with fail
          try rw [Exit.noGoto_ret]
          go_ret3
          exact ⟨ret_sib HR.out rfl, Below.refl _ _⟩
        · have t1 : ((I : Int) == 0) = false := by simp; omega
          have t2 : (0 : Int) < (O : Int) := by omega
          clear hI hI0
          go_wp2_with fail
          try rw [Exit.noGoto_ret]
          go_ret3
          exact ⟨ret_sib HR.out rfl, Below.refl _ _⟩
      · have HR := Lib.hid (show dest s.data.toList = (unesc (s.data.toList.take I), I, true) by rw [HD.out, if_neg hI])
        have t1 : ((I : Int) == 0) = false := by simp; omega
        have t2 : ¬ (0 : Int) < (O : Int) := by omega
        obtain ⟨S, hS⟩ : ∃ S : ByteArray, s.extract 0 I = S := ⟨_, rfl⟩
        have hSl : S.data.toList = s.data.toList.take I := by rw [← hS, Lib.extract_data]; simp
        have hSz : S.size ≤ 1000000000 := by rw [Lib.size_eq, hSl]; simp; omega
        have hun := unesc_any S wc hE hSz
        rw [hSl] at hun
        have HU := Lib.hid hun
        clear hun hSl hI
        go_wp2_with fail
        refine (HU.out).mono ?_
        rintro e w1 ⟨rfl, hb⟩
        go_wp2_with fail
        try rw [Exit.noGoto_ret]
        go_ret3
        exact ⟨ret_sib HR.out rfl, hb⟩

end Go.Proofs.YtnlmfoccdmkncaaGreatDoor

/-
  target's plain functions: what a byte of a url becomes; the whole.
-/
namespace Go.Proofs.YtnlmfoccdmkncaaGreatDoor
open Go.RowKit

def isDigit (c : UInt8) : Bool := 48 ≤ c && c ≤ 57
def isLetter (c : UInt8) : Bool := (65 ≤ c && c ≤ 90) || (97 ≤ c && c ≤ 122)
def stayL : List UInt8 := [45, 46, 95, 126, 58, 47, 63, 35, 64, 33, 36, 38, 39, 40, 41, 42, 43, 44, 59, 61, 37]
def okUrl (c : UInt8) : Bool := isDigit c || isLetter c || stayL.contains c
def hexD (n : UInt8) : UInt8 := if n < 10 then 48 + n else 55 + n
def encB (c : UInt8) : List UInt8 := if okUrl c then [c] else [37, hexD (c / 16), hexD (c % 16)]
def encode (l : List UInt8) : List UInt8 := l.flatMap encB

theorem or_letter (c : UInt8) : (decide (97 ≤ bits BinOp.or IntKind.u8 (c.toNat : Int) 32) && decide (bits BinOp.or IntKind.u8 (c.toNat : Int) 32 ≤ 122)) = isLetter c :=
  allB (p := fun c => (decide (97 ≤ bits BinOp.or IntKind.u8 (c.toNat : Int) 32) && decide (bits BinOp.or IntKind.u8 (c.toNat : Int) 32 ≤ 122)) = isLetter c) (by unfold AllB; decide +kernel) c
theorem stay_index (c : UInt8) : decide (0 ≤ Lib.indexByte stayL ((c.toNat : Int).toNat.toUInt8)) = stayL.contains c :=
  allB (p := fun c => decide (0 ≤ Lib.indexByte stayL ((c.toNat : Int).toNat.toUInt8)) = stayL.contains c) (by unfold AllB; decide +kernel) c

theorem dig_test (c : UInt8) : isDigit c = (decide (48 ≤ (c.toNat : Int)) && decide ((c.toNat : Int) ≤ 57)) :=
  allB (p := fun c => isDigit c = (decide (48 ≤ (c.toNat : Int)) && decide ((c.toNat : Int) ≤ 57))) (by unfold AllB; decide +kernel) c

theorem and15 (c : UInt8) : bits BinOp.and IntKind.u8 (c.toNat : Int) 15 = ((c.toNat % 16 : Nat) : Int) :=
  allB (p := fun c => bits BinOp.and IntKind.u8 (c.toNat : Int) 15 = ((c.toNat % 16 : Nat) : Int)) (by unfold AllB; decide +kernel) c

theorem hexS (c : UInt8) : (ByteArray.mk #[37] ++ (ByteArray.mk #[48, 49, 50, 51, 52, 53, 54, 55, 56, 57, 65, 66, 67, 68, 69, 70]).extract (c.toNat / 16) (c.toNat / 16 + 1) ++ (ByteArray.mk #[48, 49, 50, 51, 52, 53, 54, 55, 56, 57, 65, 66, 67, 68, 69, 70]).extract (c.toNat % 16) (c.toNat % 16 + 1)).data.toList = [37, hexD (c / 16), hexD (c % 16)] :=
  allB (p := fun c => (ByteArray.mk #[37] ++ (ByteArray.mk #[48, 49, 50, 51, 52, 53, 54, 55, 56, 57, 65, 66, 67, 68, 69, 70]).extract (c.toNat / 16) (c.toNat / 16 + 1) ++ (ByteArray.mk #[48, 49, 50, 51, 52, 53, 54, 55, 56, 57, 65, 66, 67, 68, 69, 70]).extract (c.toNat % 16) (c.toNat % 16 + 1)).data.toList = [37, hexD (c / 16), hexD (c % 16)]) (by unfold AllB; decide +kernel) c

theorem encB_len (c : UInt8) : (encB c).length ≤ 3 := by unfold encB; split <;> simp
theorem encode_len' (l : List UInt8) : (encode l).length ≤ 3 * l.length := by
  unfold encode
  induction l with
  | nil => simp
  | cons c l ih => rw [List.flatMap_cons, List.length_append, List.length_cons]; have := encB_len c; omega
theorem encode_len (s : List UInt8) (k : Nat) : (encode (s.take k)).length ≤ 3 * k := by
  have := encode_len' (s.take k); have := List.length_take_le k s; omega
theorem encode_snoc (s : ByteArray) (k : Nat) (hk : k < s.size) (c : UInt8) (hc : c = s[k]) : encode (s.data.toList.take (k + 1)) = encode (s.data.toList.take k) ++ encB c := by
  rw [take_succ s k hk, ← hc]; simp [encode]

end Go.Proofs.YtnlmfoccdmkncaaGreatDoor

/-
  target.Safe's plain function: a url without what is no letter to it, and the four schemes.
-/
namespace Go.Proofs.YtnlmfoccdmkncaaGreatDoor
open Go.RowKit

def lowR (r : Nat) : Nat := if 65 ≤ r ∧ r ≤ 90 then r + 32 else r
def keepR (r : Nat) : List UInt8 := if 32 < r ∧ r ≠ 127 then Lib.encodeRune r else []
def stripFrom (s : ByteArray) : Nat → Nat → List UInt8
  | 0, _ => []
  | fuel + 1, pos => if pos < s.size then keepR (lowR (Utf8.decode s pos).1) ++ stripFrom s fuel (pos + (Utf8.decode s pos).2) else []
def strip (s : ByteArray) : List UInt8 := stripFrom s s.size 0
def schemes : List (List UInt8) := [[106, 97, 118, 97, 115, 99, 114, 105, 112, 116, 58], [118, 98, 115, 99, 114, 105, 112, 116, 58], [102, 105, 108, 101, 58], [100, 97, 116, 97, 58]]
def safeL (l : List UInt8) : Bool := !(schemes.any fun p => Lib.hasPrefix l p)
def safe (s : ByteArray) : Bool := safeL (strip s)

theorem width_pos (s : ByteArray) (pos : Nat) (h : pos < s.size) : 1 ≤ (Utf8.decode s pos).2 := by
  by_cases ha : (s[pos]'h).toNat < 128
  · rw [decode_ascii s pos h ha]
    exact Nat.le_refl _
  · exact (decode_high s pos h (by omega)).2

theorem stripFrom_end (s : ByteArray) (fuel pos : Nat) (h : ¬ pos < s.size) : stripFrom s fuel pos = [] := by
  cases fuel with
  | zero => rfl
  | succ f => simp [stripFrom, h]

theorem stripFrom_succ (s : ByteArray) (f pos : Nat) (h : pos < s.size) : stripFrom s (f + 1) pos = keepR (lowR (Utf8.decode s pos).1) ++ stripFrom s f (pos + (Utf8.decode s pos).2) := by
  simp [stripFrom, h]

end Go.Proofs.YtnlmfoccdmkncaaGreatDoor

/-
  What target's readers make of plain text: plain facts, no program in sight.
-/
namespace Go.Proofs.YtnlmfoccdmkncaaGreatDoor
open Go.RowKit

/-- Small letters. -/
def Letters (l : List UInt8) : Prop := ∀ b ∈ l, 97 ≤ b.toNat ∧ b.toNat ≤ 122

theorem Letters.tail {c : UInt8} {l : List UInt8} (h : Letters (c :: l)) : Letters l := fun b hb => h b (List.mem_cons_of_mem _ hb)
theorem Letters.head {c : UInt8} {l : List UInt8} (h : Letters (c :: l)) : 97 ≤ c.toNat ∧ c.toNat ≤ 122 := h c (List.mem_cons_self ..)
theorem Letters.append {a b : List UInt8} (ha : Letters a) (hb : Letters b) : Letters (a ++ b) := fun x hx => by
  rcases List.mem_append.1 hx with h | h
  · exact ha x h
  · exact hb x h

theorem ne_of_toNat {c d : UInt8} (h : c.toNat ≠ d.toNat) : c ≠ d := fun e => h (by rw [e])

/-- Bytes that a text without its escapes keeps as they are. -/
def PlainB (l : List UInt8) : Prop := ∀ b ∈ l, b ≠ 92 ∧ b ≠ 38

theorem Letters.plain {l : List UInt8} (h : Letters l) : PlainB l := fun b hb => by
  have := h b hb
  exact ⟨ne_of_toNat (by simp; omega), ne_of_toNat (by simp; omega)⟩

theorem unescF_plain : ∀ (l : List UInt8) (m : Nat) (r : List UInt8), PlainB l → unescF (l.length + m) (l ++ r) = l ++ unescF m r := by
  intro l
  induction l with
  | nil => intro m r _; simp
  | cons c l ih =>
    intro m r h
    have hc := h c (List.mem_cons_self ..)
    rw [show (c :: l).length + m = (l.length + m) + 1 by simp; omega, List.cons_append]
    conv => lhs; unfold unescF
    rw [if_neg (by rintro ⟨h1, _⟩; exact hc.1 h1), entAt_other c _ hc.2, if_neg (by simp)]
    rw [ih m r (fun b hb => h b (List.mem_cons_of_mem _ hb))]
    rfl

theorem unescF_nil (m : Nat) : unescF m [] = [] := by cases m <;> rfl

theorem unesc_plain (l : List UInt8) (h : PlainB l) : unesc l = l := by
  have := unescF_plain l 0 [] h
  simp [unescF_nil] at this
  exact this

theorem unescF_sign (m : Nat) (d : UInt8) (l : List UInt8) (h : asciiP d = true) : unescF (m + 1) (92 :: d :: l) = d :: unescF m l := by
  conv => lhs; unfold unescF
  rw [if_pos ⟨rfl, by simp [h]⟩]
  rfl

theorem scan_plain (e : UInt8) (bad : UInt8 → Bool) : ∀ (a : List UInt8) (m i : Nat) (l : List UInt8), (∀ b ∈ a, b ≠ 92 ∧ b ≠ e ∧ bad b = false ∧ b ≠ 0) → scanTo e bad (a.length + m) (a ++ l) i = scanTo e bad m l (i + a.length) := by
  intro a
  induction a with
  | nil => intro m i l _; simp
  | cons c a ih =>
    intro m i l h
    obtain ⟨h1, h2, h3, h4⟩ := h c (List.mem_cons_self ..)
    rw [show (c :: a).length + m = (a.length + m) + 1 by simp; omega, List.cons_append]
    conv => lhs; unfold scanTo
    rw [if_neg h1, if_neg h2, if_neg (by rintro (h | h); rw [h3] at h; cases h; exact h4 h)]
    rw [ih m (i + 1) l (fun b hb => h b (List.mem_cons_of_mem _ hb)), show i + 1 + a.length = i + (c :: a).length by simp; omega]

theorem scan_slash (e : UInt8) (bad : UInt8 → Bool) (m i : Nat) (d : UInt8) (l : List UInt8) (h : d ≠ 0) : scanTo e bad (m + 1) (92 :: d :: l) i = scanTo e bad m l (i + 2) := by
  conv => lhs; unfold scanTo
  rw [if_pos rfl, if_neg (by simpa using h)]
  rfl

theorem scan_hit (e : UInt8) (bad : UInt8 → Bool) (m i : Nat) (l : List UInt8) (h : e ≠ 92) : scanTo e bad (m + 1) (e :: l) i = some i := by
  unfold scanTo
  rw [if_neg h, if_pos rfl]

theorem scan_nil (e : UInt8) (bad : UInt8 → Bool) (m i : Nat) : scanTo e bad m [] i = none := by cases m <;> rfl

theorem dest_plain : ∀ (a : List UInt8) (m o i : Nat) (l : List UInt8), Letters a → destGo (a.length + m) (a ++ l) o i = destGo m l o (i + a.length) := by
  intro a
  induction a with
  | nil => intro m o i l _; simp
  | cons c a ih =>
    intro m o i l h
    have hc := h.head
    rw [show (c :: a).length + m = (a.length + m) + 1 by simp; omega, List.cons_append]
    conv => lhs; unfold destGo
    have hw : isWhite c = false := by
      unfold isWhite
      simp only [Bool.or_eq_false_iff, decide_eq_false_iff_not, beq_eq_false_iff_ne, UInt8.le_iff_toNat_le]
      exact ⟨by simp; omega, ne_of_toNat (by simp; omega)⟩
    rw [if_neg (by rw [hw]; simp), if_neg (by rintro ⟨h1, _⟩; exact ne_of_toNat (c := c) (d := 92) (by simp; omega) h1), if_neg (ne_of_toNat (by simp; omega)), if_neg (by rintro ⟨h1, _⟩; exact ne_of_toNat (c := c) (d := 41) (by simp; omega) h1), if_neg (ne_of_toNat (by simp; omega))]
    rw [ih m o (i + 1) l h.tail, show i + 1 + a.length = i + (c :: a).length by simp; omega]

theorem destGo_stop (m o i : Nat) (c : UInt8) (l : List UInt8) (h : isWhite c = true ∨ (c = 41 ∧ o = 0)) : destGo (m + 1) (c :: l) o i = (o, i) := by
  unfold destGo
  rcases h with h | ⟨rfl, rfl⟩
  · rw [if_pos h]
  · rw [if_neg (by decide), if_neg (by rintro ⟨h, _⟩; exact absurd h (by decide)), if_neg (by decide), if_pos ⟨rfl, rfl⟩]

/-- A target of letters with white, or a bracket, behind it. -/
theorem dest_letters (url l : List UInt8) (c : UInt8) (hu : Letters url) (hne : url ≠ []) (hc : isWhite c = true ∨ c = 41) : dest (url ++ c :: l) = (url, url.length, true) := by
  unfold dest
  obtain ⟨u, us, rfl⟩ : ∃ u us, url = u :: us := by cases url with | nil => exact absurd rfl hne | cons u us => exact ⟨u, us, rfl⟩
  have hu0 := hu.head
  rw [if_neg (by simp; exact ne_of_toNat (by simp; omega))]
  have hgo : destGo ((u :: us) ++ c :: l).length ((u :: us) ++ c :: l) 0 0 = (0, (u :: us).length) := by
    rw [show ((u :: us) ++ c :: l).length = (u :: us).length + (l.length + 1) by simp; omega, dest_plain (u :: us) (l.length + 1) 0 0 (c :: l) hu]
    rw [destGo_stop _ _ _ _ _ (by rcases hc with h | h; exact Or.inl h; exact Or.inr ⟨h, rfl⟩)]
    simp
  rw [hgo]
  simp only
  rw [if_neg (by simp), List.take_left', unesc_plain _ hu.plain]
  rfl

theorem dest_sharp (url l : List UInt8) (hu : Letters url) : dest (60 :: (url ++ 32 :: url ++ 62 :: l)) = (url ++ 32 :: url, 2 * url.length + 3, true) := by
  unfold dest
  rw [if_pos (by simp)]
  unfold angled
  have hs : scanTo 62 (fun c => c == 60 || c == 10) (60 :: (url ++ 32 :: url ++ 62 :: l)).length (url ++ 32 :: url ++ 62 :: l) 1 = some (2 * url.length + 2) := by
    have hp : ∀ b ∈ url ++ 32 :: url, b ≠ 92 ∧ b ≠ 62 ∧ (b == 60 || b == 10) = false ∧ b ≠ 0 := by
      intro b hb
      have hb' : b = 32 ∨ (97 ≤ b.toNat ∧ b.toNat ≤ 122) := by
        rcases List.mem_append.1 hb with h | h
        · exact Or.inr (hu b h)
        · rcases List.mem_cons.1 h with h | h
          · exact Or.inl h
          · exact Or.inr (hu b h)
      rcases hb' with rfl | hb'
      · decide
      · refine ⟨ne_of_toNat (by simp; omega), ne_of_toNat (by simp; omega), ?_, ne_of_toNat (by simp; omega)⟩
        simp only [Bool.or_eq_false_iff, beq_eq_false_iff_ne]
        exact ⟨ne_of_toNat (by simp; omega), ne_of_toNat (by simp; omega)⟩
    rw [show (60 :: (url ++ 32 :: url ++ 62 :: l)).length = (url ++ 32 :: url).length + ((l.length + 1) + 1) by simp; omega]
    rw [scan_plain 62 _ (url ++ 32 :: url) _ _ (62 :: l) hp, scan_hit _ _ _ _ _ (by decide)]
    congr 1
    simp; omega
  rw [show (60 :: (url ++ 32 :: url ++ 62 :: l)).drop 1 = url ++ 32 :: url ++ 62 :: l from rfl, hs]
  simp only
  have ht : ((60 :: (url ++ 32 :: url ++ 62 :: l)).take (2 * url.length + 2)).drop 1 = url ++ 32 :: url := by
    rw [List.take_cons (by omega)]
    simp only [List.drop_succ_cons, List.drop_zero]
    exact List.take_left' (by simp; omega)
  rw [ht, unesc_plain]
  · intro b hb
    rcases List.mem_append.1 hb with h | h
    · exact hu.plain b h
    · rcases List.mem_cons.1 h with h | h
      · subst h; decide
      · exact hu.plain b h

/-! ### Encode -/
theorem encB_ok : ∀ c : UInt8, (encB c).all okUrl = true := fun c => allB (p := fun c => (encB c).all okUrl = true) (by unfold AllB; decide +kernel) c
theorem encB_len1 : ∀ c : UInt8, 1 ≤ (encB c).length := fun c => allB (p := fun c => 1 ≤ (encB c).length) (by unfold AllB; decide +kernel) c
theorem encode_ok (l : List UInt8) : ∀ b ∈ encode l, okUrl b = true := by
  intro b hb
  obtain ⟨c, _, h⟩ := List.mem_flatMap.1 hb
  exact List.all_eq_true.1 (encB_ok c) b h
theorem encode_fix : ∀ (l : List UInt8), (∀ b ∈ l, okUrl b = true) → encode l = l := by
  intro l
  induction l with
  | nil => intro _; rfl
  | cons c l ih =>
    intro h
    unfold encode at *
    rw [List.flatMap_cons, ih (fun b hb => h b (List.mem_cons_of_mem _ hb))]
    unfold encB
    rw [if_pos (h c (List.mem_cons_self ..))]
    rfl
theorem encode_twice (l : List UInt8) : encode (encode l) = encode l := encode_fix _ (encode_ok l)
theorem encode_long (l : List UInt8) : l.length ≤ (encode l).length := by
  unfold encode
  induction l with
  | nil => simp
  | cons c l ih => rw [List.flatMap_cons, List.length_append, List.length_cons]; have := encB_len1 c; omega
/-- The test of the law on a byte. -/
def badUrl (b : UInt8) : Bool := b ≤ 32 || 127 ≤ b || b == 34 || b == 60 || b == 62 || b == 92 || b == 96
theorem okUrl_good (b : UInt8) : okUrl b = true → badUrl b = false :=
  allB (p := fun b => okUrl b = true → badUrl b = false) (by unfold AllB; decide +kernel) b
theorem letters_ok {l : List UInt8} (h : Letters l) : ∀ b ∈ l, okUrl b = true := fun b hb => by
  have := h b hb
  unfold okUrl isLetter
  have h1 : (97 : UInt8) ≤ b := by rw [UInt8.le_iff_toNat_le]; simpa using this.1
  have h2 : b ≤ 122 := by rw [UInt8.le_iff_toNat_le]; simpa using this.2
  simp [h1, h2]
theorem encode_letters (l : List UInt8) (h : Letters l) : encode l = l := encode_fix l (letters_ok h)

end Go.Proofs.YtnlmfoccdmkncaaGreatDoor
