/-
  string([]byte{c}): a byte as a text.
-/
import Derived.Test.YtmllkffdejojbaaDoorStr
import Derived.Test.YtmllkffdejojbaaDoorRows
import Derived.Laws.IdiomStrings
namespace Go.Proofs.YtmllkffdejojbaaDoor
open Go.RowKit

theorem one_byte (W : World) (c : UInt8) (g : Nat) (hg : g = W.heap.size) :
    (convert 25 9 (.slice (some ⟨g, 0, none⟩) 1 1)).run Tryd.prog (W.alloc (.cells #[.int .u8 (c.toNat : Int)] 5)) = .ok (.string ⟨#[c]⟩) (W.alloc (.cells #[.int .u8 (c.toNat : Int)] 5)) := by
  subst hg
  exact run_convert_bytes_back (W.alloc (.cells #[.int .u8 (c.toNat : Int)] 5)) 25 9 5 ⟨W.heap.size, 0, none⟩ 1 [c] Tryd.underlying25 Tryd.underlying5 Tryd.underlying9 (fun j hj => by
    have : j = 0 := by simp at hj; exact hj
    subst this
    simp [Addr.add])

end Go.Proofs.YtmllkffdejojbaaDoor
