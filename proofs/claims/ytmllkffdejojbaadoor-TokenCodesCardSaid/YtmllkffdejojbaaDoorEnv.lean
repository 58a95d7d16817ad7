/-
  The package-level variables of the library that the walks read, as the row's condition and the world's shape give them; carried to later worlds.
-/
import Derived.Test.YtmllkffdejojbaaDoorRows
import Derived.Test.YtmllkffdejojbaaDoorShelf
import Derived.WalkSmall
import Derived.Shelf.Unicode.IsSpaceAny
import Derived.Shelf.Unicode.DecodeSlow
import Derived.Deep.DeepFit
import Derived.WalkKit
namespace Go.Proofs.YtmllkffdejojbaaDoor
open Go.RowKit

structure Env (w : World) : Prop where
  sp : Lib.TabIs Tryd.prog w "strings.asciiSpace" .u8 Lib.asciiSpaceTab
  white : Lib.WhiteTab 4 w
  u8 : Lib.Utf8Tabs 0 1 w
  maxl : ∃ m, w.cell? ⟨3, 0, none⟩ = some (.int .i64 m)

theorem tab_below {n : String} {g : Nat} {k : IntKind} {zs : List Int} {w w' : World} (hg : Tryd.prog.globalNamed n = some g) (h : Lib.TabIs Tryd.prog w n k zs) (hb : Below w.heap.size w w') : Lib.TabIs Tryd.prog w' n k zs := by
  unfold Lib.TabIs at h ⊢
  refine var?_below hb hg ?_ h
  rcases Nat.lt_or_ge g w.heap.size with h' | h'
  · exact h'
  · unfold World.var? at h
    rw [hg] at h
    simp only [Option.bind_some] at h
    rw [Array.getElem?_eq_none h'] at h
    cases h

theorem Env.below {w w' : World} (h : Env w) (hb : Below w.heap.size w w') : Env w' :=
  ⟨tab_below (g := 2) (by kernel_rfl) h.sp hb, WhiteTab_below h.white hb, Utf8Tabs_below h.u8 hb, by
    obtain ⟨m, hm⟩ := h.maxl
    exact ⟨m, (hb.cell (p := ⟨3, 0, none⟩) (World.block_lt_of_cell? _ _ hm)).trans hm⟩⟩

theorem below_drewN (w : World) (n : Nat) : Below w.heap.size w (w.drewN n) := ⟨rfl, rfl, rfl, Nat.le_refl _, fun _ _ => rfl⟩
theorem below_step {w w1 w2 : World} (h1 : Below w.heap.size w w1) (h2 : Below w1.heap.size w1 w2) : Below w.heap.size w w2 := h1.trans (h2.mono h1.size)

end Go.Proofs.YtmllkffdejojbaaDoor
