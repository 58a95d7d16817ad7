/-
  The texts Group, TokAmong, TokAtom, TokCode, TokLe, TokWt, ParBound, Par, RestLaw, one behind the other.
-/
import Derived.Test.YtahljcbmckldhaaGreatDoorInlC
import Derived.Deep.LoopGhost
import Derived.Lib.Replace
import Derived.Lib.CountLaws
import Derived.Shelf.Strings.Replace

/-
  emph.Group: the nodes of items.
-/
namespace Go.Proofs.YtahljcbmckldhaaGreatDoor
open Go.RowKit
set_option maxRecDepth 100000
set_option linter.unusedVariables false
set_option linter.unusedSimpArgs false

def startP (l : List ItemV) : List PieceV := l.map fun x => (⟨x.1, x.1.n, false⟩, x.2)
def itemsV (l : List ItemV) : List IItem := l.map Prod.fst
theorem startP_fst (l : List ItemV) : piecesV (startP l) = piecesOf (itemsV l) := by
  unfold piecesV startP piecesOf itemsV
  rw [List.map_map, List.map_map]
  rfl
theorem startP_snoc (l : List ItemV) (x : ItemV) : startP (l ++ [x]) = startP l ++ [(⟨x.1, x.1.n, false⟩, x.2)] := by unfold startP; rw [List.map_append]; rfl
theorem startP_len (l : List ItemV) : (startP l).length = l.length := by unfold startP; simp

/-- The cells of an item in a row that is read from anywhere. -/
theorem RowR.item {w : World} {g o n : Nat} {l : List ItemV} (h : RowR w 5 (some ⟨g, o, none⟩) n (l.flatMap itemCells)) (k : Nat) (x : ItemV) (hk : l[k]? = some x) :
    w.cell? ⟨g, o + k * 5, none⟩ = some (.int .u8 (x.1.sign.toNat : Int)) ∧ w.cell? ⟨g, o + k * 5 + 1, none⟩ = some (.int .i64 (x.1.n : Int)) ∧ w.cell? ⟨g, o + k * 5 + 2, none⟩ = some (.bool x.1.op) ∧ w.cell? ⟨g, o + k * 5 + 3, none⟩ = some (.bool x.1.cl) ∧ w.cell? ⟨g, o + k * 5 + 4, none⟩ = some x.2 :=
  ⟨h.cell item_len k 0 x _ hk (by omega) rfl, h.cell item_len k 1 x _ hk (by omega) rfl, h.cell item_len k 2 x _ hk (by omega) rfl, h.cell item_len k 3 x _ hk (by omega) rfl, h.cell item_len k 4 x _ hk (by omega) rfl⟩

/-- Each piece's nodes lie where its value says. -/
def PNodes (w : World) (ps : List PieceV) : Prop := ∀ q ∈ ps, InlsAt w q.2 q.1.it.l
theorem PNodes.below {w w' : World} {ps : List PieceV} (h : PNodes w ps) (hb : Below w.heap.size w w') : PNodes w' ps := fun q hq => (h q hq).below hb
theorem piecesV_len (ps : List PieceV) : (piecesV ps).length = ps.length := by unfold piecesV; simp
theorem piecesV_mem {ps : List PieceV} {q : PieceV} (h : q ∈ ps) : q.1 ∈ piecesV ps := List.mem_map.2 ⟨q, h, rfl⟩
theorem piecesV_take (ps : List PieceV) (k : Nat) : piecesV (ps.take k) = (piecesV ps).take k := by unfold piecesV; rw [List.map_take]
theorem piecesV_drop (ps : List PieceV) (k : Nat) : piecesV (ps.drop k) = (piecesV ps).drop k := by unfold piecesV; rw [List.map_drop]
theorem go_stop (f : Nat) (p : List Piece) (i : Nat) (h : p.length ≤ i) : groupGo f p i = p := by
  cases f with
  | zero => rfl
  | succ f => rw [groupGo, if_pos h]

theorem flat_setAt {α : Type} (f : α → List Value) (k : Nat) (hf : ∀ x, (f x).length = k) : ∀ (l : List α) (i : Nat) (x y : α) (j : Nat) (u : Value), l[i]? = some x → j < k → (f x).set j u = f y → (l.flatMap f).set (i * k + j) u = (l.set i y).flatMap f
  | [], i, x, y, j, u, hi, _, _ => by simp at hi
  | z :: l, 0, x, y, j, u, hi, hj, hu => by
    simp at hi
    subst hi
    rw [List.flatMap_cons, List.set_cons_zero, List.flatMap_cons, List.set_append_left _ _ (by rw [hf]; omega), ← hu]
    congr 2; omega
  | z :: l, i + 1, x, y, j, u, hi, hj, hu => by
    rw [List.flatMap_cons, List.set_cons_succ, List.flatMap_cons, List.set_append_right _ _ (by rw [hf, Nat.add_mul]; omega), ← flat_setAt f k hf l i x y j u (by simpa using hi) hj hu]
    congr 2
    rw [hf, Nat.add_mul]; omega
theorem own_inP {w : World} {base : Nat} {v : Value} {n : Nat} {xs : List Value} (h : w.ownsRow base 104 7 v n xs) (hn : 0 < n) :
    ∃ g cap cur, v = .slice (some ⟨g, 0, none⟩) n cap ∧ base ≤ g ∧ n ≤ cap ∧ w.heap[g]? = some (.cells cur 104 (0, 0)) := by
  rcases h.2 with ⟨_, h2⟩ | ⟨g, cap, cur, hv, hb, hg, hnc, _⟩
  · omega
  · exact ⟨g, cap, cur, hv, hb, hnc, hg⟩
theorem PNodes.setCell {w : World} {ps : List PieceV} (h : PNodes w ps) {a : Addr} {cs : Array Value} {fr : Nat × Nat} (hg : w.heap[a.block]? = some (.cells cs 104 fr)) (u : Value) : PNodes (w.setCell a u) ps :=
  fun q hq => (h q hq).setCell hg (by decide) u
theorem piecesV_set (ps : List PieceV) (i : Nat) (q : PieceV) : piecesV (ps.set i q) = (piecesV ps).set i q.1 := by unfold piecesV; rw [List.map_set]
theorem mem_set {α : Type} {l : List α} {i : Nat} {x y : α} (h : y ∈ l.set i x) : y ∈ l ∨ y = x := List.mem_or_eq_of_mem_set h

theorem rowR_drop {α : Type} {w : World} {f : α → List Value} {k : Nat} {b o n : Nat} {l : List α} (h : RowR w k (some ⟨b, o, none⟩) n (l.flatMap f)) (hf : ∀ x, (f x).length = k) (hl : l.length = n) (i : Nat) (hi : i ≤ n) : RowR w k (some ⟨b, o + i * k, none⟩) (n - i) ((l.drop i).flatMap f) := by
  refine ⟨by rw [flat_len f k hf, List.length_drop, hl], (fun h => by cases h), fun ad had => ?_⟩
  obtain rfl := Option.some.inj had
  refine ⟨rfl, fun j u hu => ?_⟩
  rw [← flat_drop f k hf, List.getElem?_drop] at hu
  have := (h.at' _ rfl).2 _ u hu
  rw [add_at _ rfl] at this ⊢
  rw [← this]
  simp only
  congr 2
  omega
theorem rowR_take {α : Type} {w : World} {f : α → List Value} {k : Nat} {ad : Addr} {n : Nat} {l : List α} (h : RowR w k (some ad) n (l.flatMap f)) (hf : ∀ x, (f x).length = k) (i : Nat) : ∀ j u, ((l.take i).flatMap f)[j]? = some u → w.cell? (ad.add j) = some u := by
  intro j u hu
  rw [← flat_take f k hf, List.getElem?_take] at hu
  split at hu
  · exact (h.at' _ rfl).2 j u hu
  · cases hu
theorem sets_take {α : Type} (l : List α) (f i : Nat) (a b : α) (hf : f < i) (hi : i < l.length) : ((l.set f a).set i b).take (f + 1) = l.take f ++ [a] := by
  rw [List.take_set, List.set_eq_of_length_le (by simp; omega), List.take_set, List.take_succ_eq_append_getElem (by omega), List.set_append_right _ _ (by simp; omega), List.length_take, Nat.min_eq_left (by omega), Nat.sub_self]
  rfl
theorem sets_drop {α : Type} (l : List α) (f i : Nat) (a b : α) (hf : f < i) (hi : i < l.length) : ((l.set f a).set i b).drop i = b :: l.drop (i + 1) := by
  rw [List.drop_set, if_neg (by omega), Nat.sub_self, List.drop_set_of_lt hf, ← List.getElem_cons_drop hi, List.set_cons_zero]

theorem InlsAt.kept {w w' : World} {v : Value} {l : List Inl} (h : InlsAt w v l) {base : Nat} {u : Value} {n : Nat} {xs : List Value} (hu : w.ownsRow base 104 7 u n xs) (hg : w.grownBy w' u.ownBlock) : InlsAt w' v l :=
  World.ownsRow.kept h hg (own_apart h hu (by decide))
theorem InlsAt.grown0 {w w' : World} {v : Value} {l : List Inl} (h : InlsAt w v l) (hg : w.grownBy w' none) : InlsAt w' v l := World.ownsRow.kept h hg (Classical.em _)
theorem hz_sub (a n : Nat) (h : n ≤ a) : ((a : Int) - (n : Int)) = ((a - n : Nat) : Int) := by omega
theorem pieceCells_left (q : PieceV) (n : Nat) (u : Int) (hu : u = (n : Int)) (h : n ≤ q.1.left) : (pieceCells q).set 5 (.int .i64 ((q.1.left : Int) - u)) = pieceCells (lessL q.1 n, q.2) := by
  rw [hu, hz_sub _ _ h]; rfl
set_option maxHeartbeats 16000000 in
theorem group_any (ao : Option Addr) (cap : Nat) (its : List ItemV) (w : World) (hR : RowR w 5 ao its.length (its.flatMap itemCells)) (hN : ∀ x ∈ its, InlsAt w x.2 x.1.l) (hG : GB 100000000000 (piecesOf (itemsV its))) :
    Calls Tryz.prog 20 #[.slice ao its.length cap] w fun e w' => ∃ v', e = .returned v' ∧ InlsAt w' v' (groupL (itemsV its)) ∧ Below w.heap.size w w' := by
  obtain ⟨i0, hi, hz0, hz1, hz2⟩ := info_parts infoInl
  obtain ⟨j0, hj, hy0, hy1, hy2⟩ := info_parts infoPiece
  have HR := Lib.hid hR
  have HN := Lib.hid hN
  have HG := Lib.hid hG
  have hlen : its.length ≤ 100000000000 := by have := hG.len; simp [piecesOf, itemsV] at this; omega
  clear hR hN hG
  go_enter Tryz.func20, Tryz.ntmps20
  go_wp2_with fail
  go_loopw [3, 19] (fun u3 u19 wr => ∃ k : Nat, k ≤ its.length ∧ u19 = .int .i64 k ∧ wr.ownsRow w.heap.size 104 7 u3 k ((startP (its.take k)).flatMap pieceCells) ∧ Below w.heap.size w wr) (fun _ u19 _ => its.length - (intOf u19).toNat)
  case atStart => exact ⟨0, Nat.zero_le _, rfl, World.ownsRow_nil _ _ _ _, Below.refl _ _⟩
  case round =>
    obtain ⟨k, hk, rfl, hown, hB⟩ := hrel
    by_cases hlt : k < its.length
    · obtain ⟨x, hx⟩ := getElem?_ex its k hlt
      obtain ⟨g, o, rfl⟩ := HR.out.addr (by omega)
      obtain ⟨c0, c1, c2, c3, c4⟩ := (HR.out.below hB).item k x hx
      have hln := HN.out x (List.mem_of_getElem? hx)
      obtain ⟨lao, lc, hlv, _⟩ := own_slice hln
      have HTK := Lib.hid (take_snoc its k x hx)
      have hxn : x.1.n ≤ 100000000000 := HG.out.num ⟨x.1, x.1.n, false⟩ (List.mem_map.2 ⟨x.1, List.mem_map.2 ⟨x, List.mem_of_getElem? hx, rfl⟩, rfl⟩)
      have hx0 : (0 : Int) ≤ (x.1.n : Int) := by omega
      clear hx hln
      rw [hlv] at c4
      have HLV := Lib.hid hlv
      clear hlv
      go_wp2_with (first
        | (at_builtin; refine wpList_append_own _ rfl _ _ 102 rfl w.heap.size 104 j0 (.agg #[.int .u8 0, .int .i64 0, .bool false, .bool false, .slice none 0 0, .int .i64 0, .bool false]) 7 64 Tryz.underlying102 hj hy0 hy1 hy2 rfl (by decide) _ _ _ rfl ((hown.alloc _).alloc _) ⟨wr.heap.size + 1, 0, none⟩ 1 1 [.int .u8 (x.1.sign.toNat : Int), .int .i64 (x.1.n : Int), .bool x.1.op, .bool x.1.cl, .slice lao x.1.l.length lc, .int .i64 (x.1.n : Int), .bool false] rfl rfl ?c1 ?c2 ?c3 ?c4 ?c5 ?_))
      case c1 => exact cells_new _ _ _ _ (by simp)
      case c2 => intro u hu; simp at hu; rcases hu with rfl | rfl | rfl | rfl | rfl | rfl | rfl <;> rfl
      case c3 => unfold maxLen; omega
      case c4 => omega
      case c5 => have := hB.size; simp; omega
      intro v' w4 hown4 hgrow _
      have hB4 := ((hB.alloc hB.size (.cells #[.int .u8 (x.1.sign.toNat : Int), .int .i64 (x.1.n : Int), .bool x.1.op, .bool x.1.cl, .slice lao x.1.l.length lc] 95)).alloc (by have := hB.size; simp; omega) (.cells #[.int .u8 (x.1.sign.toNat : Int), .int .i64 (x.1.n : Int), .bool x.1.op, .bool x.1.cl, .slice lao x.1.l.length lc, .int .i64 (x.1.n : Int), .bool false] 104)).grown hgrow (by have := hB.size; simp; omega) (fun j hj => (hown.lt j hj).1)
      have HO := Lib.hid (show w4.ownsRow w.heap.size 104 7 v' (k + 1) ((startP (its.take (k + 1))).flatMap pieceCells) by
        rw [HTK.out, startP_snoc, List.flatMap_append, List.flatMap_cons, List.flatMap_nil, List.append_nil]
        unfold pieceCells at hown4 ⊢
        simp only [HLV.out]
        exact hown4)
      clear hgrow hown hB hown4
      go_wp2_with fail
      go_roundw
      case rel => exact ⟨k + 1, by omega, by go_num, HO.out, hB4⟩
      case measure => simp [intOf]; omega
    · obtain rfl : k = its.length := by omega
      rw [List.take_length] at hown
      have hPN : PNodes wr (startP its) := fun q hq => by
        obtain ⟨x, hx, rfl⟩ := List.mem_map.1 hq
        exact (HN.out x hx).below hB
      have hGB := HG.out
      rw [← startP_fst] at hGB
      obtain ⟨R, hR0⟩ : ∃ R, groupP (piecesV (startP its)) = R := ⟨_, rfl⟩
      have HR0 := Lib.hid hR0
      obtain ⟨F, hF⟩ : ∃ F, signsOf (piecesV (startP its)) + (piecesV (startP its)).length + 1 = F := ⟨_, rfl⟩
      have hR1 : groupGo F (piecesV (startP its)) 0 = R := by rw [← hR0, ← hF]; rfl
      have hF1 : signsOf (piecesV (startP its)) + (startP its).length < 0 + F := by
        have : (piecesV (startP its)).length = (startP its).length := by unfold piecesV; simp
        omega
      rw [← startP_len] at hown
      obtain ⟨ps0, hps⟩ : ∃ ps, startP its = ps := ⟨_, rfl⟩
      rw [hps] at hown hPN hGB hR1 hF1
      have HQ := Lib.hid (And.intro hown (And.intro hPN (And.intro hGB (And.intro hR1 hF1))))
      clear hown hPN hGB hR1 hF1 hps hR0 hF
      go_wp2_with fail
      go_loopg [3, 6] F (fun f u3 u6 wq => ∃ (ps : List PieceV) (i : Nat), u6 = .int .i64 i ∧ wq.ownsRow w.heap.size 104 7 u3 ps.length (ps.flatMap pieceCells) ∧ PNodes wq ps ∧ Below w.heap.size w wq ∧ GB 100000000000 (piecesV ps) ∧ groupGo f (piecesV ps) i = R ∧ signsOf (piecesV ps) + ps.length < i + f)
      case atStart => exact ⟨ps0, 0, rfl, HQ.out.1, HQ.out.2.1, hB, HQ.out.2.2.1, HQ.out.2.2.2.1, HQ.out.2.2.2.2⟩
      case round =>
        clear hB HQ
        rename World => wq
        obtain ⟨ps, i, rfl, hown, hPN, hB, hGB, hgo, hfu⟩ := hrel
        by_cases hit : i < ps.length
        · obtain ⟨y, hy⟩ := getElem?_ex ps i hit
          obtain ⟨g, pc, cur, hu3, hbg, hpc, hheap⟩ := own_inP hown (by omega)
          subst hu3
          obtain ⟨f, rfl⟩ : ∃ f, gk = f + 1 := ⟨gk - 1, by omega⟩
          have hyD := piecesV_at hy
          have hplen : ps.length ≤ 100000000000 := by have := hGB.len; rw [piecesV_len] at this; omega
          have hilt : (i : Int) < (ps.length : Int) := by omega
          rw [groupGo, if_neg (by rw [piecesV_len]; omega)] at hgo
          unfold groupStep at hgo
          rw [hyD] at hgo
          obtain ⟨c0, c1, c2, c3, c4, c5, c6⟩ := RowR.piece (own_rowR hown).2.1 i y hy
          simp only [Nat.zero_add] at c0 c1 c2 c3 c4 c5 c6
          cases hid : idle y.1
          · obtain ⟨s1, s2, s3, s4⟩ := not_idle (c := y.1) (by rw [hid]; simp)
            rw [hid, if_neg (by simp)] at hgo
            have k0 := byte_zero s1
            have k3 : ((y.1.left : Int) == 0) = false := by simp; omega
            rw [s2] at c3
            rw [s3] at c6
            have HY := Lib.hid (And.intro s1 (And.intro s2 (And.intro s3 s4)))
            have hop := opener_any g 0 pc ps i y wq (own_rowR hown).2.1 (fun x hx => by have := hGB.num x.1 (piecesV_mem hx); omega) (by omega) hy
            have HOP := Lib.hid hop
            have HYY := Lib.hid hy
            have HGO := Lib.hid hgo
            have HGB := Lib.hid hGB
            have HPN := Lib.hid hPN
            have HFU := Lib.hid hfu
            clear s1 s2 s3 s4 hid hop hy hgo hGB hPN hfu hyD
            go_wp2_with fail
            refine HOP.out.mono ?_
            rintro e w2 ⟨rfl, b2⟩
            have hB2 := hB.trans (b2.mono hB.size)
            have hown2 := own_below hown b2
            have hheap2 : w2.heap[g]? = some (.cells cur 104 (0, 0)) := (b2.block g (Array.getElem?_eq_some_iff.1 hheap).1).trans hheap
            have HPN2 := Lib.hid (HPN.out.below b2)
            clear c0 c1 c2 c3 c4 c5 c6
            obtain ⟨c0, c1, c2, c3, c4, c5, c6⟩ := RowR.piece (own_rowR hown2).2.1 i y HYY.out
            simp only [Nat.zero_add] at c0 c1 c2 c3 c4 c5 c6
            rw [HY.out.2.1] at c3
            rw [HY.out.2.2.1] at c6
            clear hown hheap b2 hB HPN HOP
            cases hopn : openerL (piecesV ps) y.1 i with
            | none =>
              have hgo := HGO.out
              rw [hopn] at hgo
              have hst := (hown2.stored (i * 7 + 6) (.bool true)).1
              have hfz := hown2.frozenAt (i * 7 + 6)
              rw [flat_setAt pieceCells 7 piece_len ps i y ({ y.1 with shut := true }, y.2) 6 (.bool true) HYY.out (by omega) rfl] at hst
              have hgb := set_gb _ (piecesV ps) i { y.1 with shut := true } (by rw [piecesV_len]; exact hit) (by rw [piecesV_at HYY.out]) HGB.out
              have hpn : PNodes (w2.setCell ⟨g, i * 7 + 6, none⟩ (.bool true)) (ps.set i ({ y.1 with shut := true }, y.2)) := by
                have h1 := PNodes.setCell HPN2.out (a := ⟨g, i * 7 + 6, none⟩) hheap2 (.bool true)
                intro q hq
                rcases mem_set hq with hq | rfl
                · exact h1 q hq
                · exact h1 y (List.mem_of_getElem? HYY.out)
              have hB3 := hB2.setCell (p := ⟨g, i * 7 + 6, none⟩) hbg (.bool true)
              have HI := Lib.hid (And.intro hst (And.intro hpn (And.intro hB3 (And.intro hgb (And.intro hgo HFU.out)))))
              clear hst hpn hB3 hgb hgo hown2 hheap2 hB2 HPN2 HGO HGB HFU hopn
              rw [show openInt none = -1 from rfl]
              go_wp2_with fail
              go_roundg f
              case measure => omega
              case rel =>
                refine ⟨ps.set i ({ y.1 with shut := true }, y.2), i + 1, by go_num, ?_, HI.out.2.1, HI.out.2.2.1, ?_, ?_, ?_⟩
                · rw [List.length_set]; exact HI.out.1
                · rw [piecesV_set]; exact HI.out.2.2.2.1.1
                · rw [piecesV_set]; exact HI.out.2.2.2.2.1
                · rw [piecesV_set, HI.out.2.2.2.1.2, List.length_set]; have := HI.out.2.2.2.2.2; omega
            | some f0 =>
              have hgo := HGO.out
              rw [hopn] at hgo
              obtain ⟨hf0, hprs⟩ := opener_pairs _ _ _ _ hopn
              obtain ⟨z, hz⟩ := getElem?_ex ps f0 (by omega)
              simp only at hgo
              rw [piecesV_at hz] at hprs hgo
              obtain ⟨hsg, hz1⟩ := pairs_facts hprs
              obtain ⟨d0, d1, d2, d3, d4, d5, d6⟩ := RowR.piece (own_rowR hown2).2.1 f0 z hz
              simp only [Nat.zero_add] at d0 d1 d2 d3 d4 d5 d6
              have hfl : (f0 : Int) < (ps.length : Int) := by omega
              have hf00 : ¬ (f0 : Int) < 0 := by omega
              rw [show openInt (some f0) = (f0 : Int) from rfl]
              have HGO2 := Lib.hid hgo
              have HZ := Lib.hid (And.intro hz (And.intro hsg hz1))
              clear hgo hopn hprs hz hsg hz1 HGO
              by_cases t1 : 1 < z.1.left
              · have t1' : (1 : Int) < (z.1.left : Int) := by omega
                by_cases t2 : 1 < y.1.left
                · have t2' : (1 : Int) < (y.1.left : Int) := by omega
                  have hK : pairK z.1 y.1 = 4 := by unfold pairK; rw [if_pos ⟨t1, t2⟩]
                  have hN : pairN z.1 y.1 = 2 := by unfold pairN; rw [if_pos ⟨t1, t2⟩]
                  have HKN := Lib.hid (And.intro hK hN)
                  clear hK hN
                  have hw3 := (Below.refl w2.heap.size w2).alloc (Nat.le_refl _) (.cells #[.int .i64 4, .int .i64 0, .string ⟨#[]⟩, .string ⟨#[]⟩, .string ⟨#[]⟩] 28)
                  have hlit := World.ownsRow_lit (base := w2.heap.size) (e := 28) (size := 5) w2 #[.int .i64 4, .int .i64 0, .string ⟨#[]⟩, .string ⟨#[]⟩, .string ⟨#[]⟩] 1 (Nat.le_refl _) (by unfold maxLen; omega) rfl
                  have HW3 := Lib.hid hw3
                  have HLIT := Lib.hid hlit
                  obtain ⟨mid, hmid⟩ : ∃ m, (ps.take i).drop (f0 + 1) = m := ⟨_, rfl⟩
                  have hmlen : mid.length = i - (f0 + 1) := by rw [← hmid]; simp; omega
                  have hmat : ∀ k x, mid[k]? = some x → ps[f0 + 1 + k]? = some x := by
                    intro k x hx
                    rw [← hmid, List.getElem?_drop, List.getElem?_take] at hx
                    split at hx
                    · exact hx
                    · cases hx
                  have HMID := Lib.hid (And.intro hmid (And.intro hmlen hmat))
                  have hcap1 : ¬ pc = f0 + 1 := by omega
                  have hcap2 : (f0 : Int) + 1 ≤ (i : Int) := by omega
                  have hcap3 : (i : Int) ≤ (pc : Int) := by omega
                  clear hw3 hlit hmid hmlen hmat
                  go_wp2_with fail
                  go_loopw [10, 103] (fun u10 u103 wr => ∃ k : Nat, k ≤ mid.length ∧ u103 = .int .i64 k ∧ wr.ownsRow w2.heap.size 28 5 u10 (madeL 4 (piecesV (mid.take k))).length (inlCells (madeL 4 (piecesV (mid.take k)))) ∧ Below w2.heap.size w2 wr) (fun _ u103 _ => mid.length - (intOf u103).toNat)
                  case atStart => exact ⟨0, Nat.zero_le _, rfl, HLIT.out, HW3.out⟩
                  case round =>
                    rename World => wx
                    obtain ⟨k, hk, rfl, hownx, hBx⟩ := hrel
                    have hml := HMID.out.2.1
                    by_cases hlt3 : k < mid.length
                    · obtain ⟨x, hx⟩ := getElem?_ex mid k hlt3
                      have hxp := HMID.out.2.2 k x hx
                      have hmem := List.mem_of_getElem? hxp
                      obtain ⟨e0, e1, e2, e3, e4, e5, e6⟩ := (((own_rowR hown2).2.1).below hBx).piece (f0 + 1 + k) x hxp
                      simp only [Nat.zero_add, show (f0 + 1 + k) * 7 = (f0 + 1) * 7 + k * 7 by omega] at e0 e1 e2 e3 e4 e5 e6
                      have hln := HPN2.out x hmem
                      obtain ⟨lao, lc, hlv, _⟩ := own_slice hln
                      have hxl : x.1.left ≤ 100000000000 := by have := signs_mem (piecesV_mem hmem); have := HGB.out.len; omega
                      have hbx1 := hBx.alloc hBx.size (.cells #[.int .u8 (x.1.it.sign.toNat : Int), .int .i64 (x.1.it.n : Int), .bool x.1.it.op, .bool x.1.it.cl, .slice lao x.1.it.l.length lc, .int .i64 (x.1.left : Int), .bool x.1.shut] 104)
                      have hnd := nodes_any x _ (hln.below hbx1) (by omega)
                      unfold pieceVal at hnd
                      rw [hlv] at hnd e4
                      have hown1 := hownx.alloc (.cells #[.int .u8 (x.1.it.sign.toNat : Int), .int .i64 (x.1.it.n : Int), .bool x.1.it.op, .bool x.1.it.cl, .slice lao x.1.it.l.length lc, .int .i64 (x.1.left : Int), .bool x.1.shut] 104)
                      have HND := Lib.hid hnd
                      have hsnoc : madeL 4 (piecesV (mid.take (k + 1))) = madeL 4 (piecesV (mid.take k)) ++ deeperL x.1.nodes := by
                        rw [take_snoc mid k x hx, show piecesV (mid.take k ++ [x]) = piecesV (mid.take k) ++ [x.1] by unfold piecesV; simp, madeL_snoc]
                      have hl1 : (madeL 4 (piecesV (mid.take k))).length ≤ 100000000001 := by
                        have h1 := madeL_len 4 (piecesV (mid.take k))
                        have h2 := totW_take (piecesV mid) k
                        have h3 : totW (piecesV mid) ≤ totW (piecesV ps) := by
                          rw [← HMID.out.1, piecesV_drop, piecesV_take]
                          exact Nat.le_trans (totW_drop _ _) (totW_take _ _)
                        have h4 := HGB.out.wt
                        rw [← piecesV_take] at h2
                        omega
                      have hl2 := node_len HGB.out (piecesV_mem hmem)
                      have hl3 := node_depth HGB.out (piecesV_mem hmem)
                      have HSN := Lib.hid hsnoc
                      have HL3 := Lib.hid hl3
                      obtain ⟨mk, hmk⟩ : ∃ m, madeL 4 (piecesV (mid.take k)) = m := ⟨_, rfl⟩
                      rw [hmk] at hown1 hl1
                      have HMK := Lib.hid hmk
                      clear hnd hx hxp hmem hln hlv hsnoc hl3 hmk hownx
                      have hkml : (k : Int) < ((i - (f0 + 1) : Nat) : Int) := by omega
                      clear hml
                      go_wp2_with fail
                      refine HND.out.mono ?_
                      rintro e w5 ⟨v, rfl, hv, b5⟩
                      have hbx2 := hbx1.trans (b5.mono hbx1.size)
                      have hown5 := own_below hown1 b5
                      have hdp := deeper_any v x.1.nodes w5 hv (by omega) (fun n hn => by have := HL3.out n hn; omega)
                      have HDP := Lib.hid hdp
                      obtain ⟨v1, vc1, hv1, _⟩ := own_slice hv
                      subst hv1
                      clear b5 hown1 hbx1 hv hdp
                      go_wp2_with fail
                      refine HDP.out.mono ?_
                      rintro e w6 ⟨v6, rfl, hv6, b6⟩
                      have hbx6 := hbx2.trans (b6.mono hbx2.size)
                      have hown6 := own_below hown5 b6
                      have hdl : (deeperL x.1.nodes).length = x.1.nodes.length := by unfold deeperL; simp
                      obtain ⟨vao, vc, hvv, hvR, hvn, _⟩ := own_slice hv6
                      subst hvv
                      rw [hdl] at hvR
                      clear b6 hown5 hbx2
                      go_wp2_with (first
                        | (at_builtin; refine wpList_append_row w6 rfl _ _ 25 rfl w2.heap.size 28 i0 (.agg #[.int .i64 0, .int .i64 0, .string ⟨#[]⟩, .string ⟨#[]⟩, .string ⟨#[]⟩]) 5 64 Tryz.underlying25 hi hz0 hz1 hz2 rfl (by decide) _ _ _ rfl hown6 vao _ vc _ rfl hvR hvn (inl_oneCell _) ?c3a ?c4a ?c5a ?_))
                      case c3a => exact Nat.le_trans (Nat.add_le_add hl1 hl2) (by unfold maxLen; decide)
                      case c4a => exact Nat.le_trans (Nat.mul_le_mul_right 64 (Nat.add_le_add hl1 hl2)) (by decide)
                      case c5a => exact hbx6.size
                      intro v' w7 hown7 hgrow
                      have hB7 := hbx6.grown hgrow hbx6.size (fun j hj => (hown6.lt j hj).1)
                      have HO := Lib.hid (show w7.ownsRow w2.heap.size 28 5 v' (madeL 4 (piecesV (mid.take (k + 1)))).length (inlCells (madeL 4 (piecesV (mid.take (k + 1))))) by
                        rw [HSN.out, HMK.out, inlCells_append, List.length_append, hdl]; exact hown7)
                      clear hgrow hown6 hbx6 hown7 hdl hvR
                      go_wp2_with fail
                      go_roundw
                      case rel => exact ⟨k + 1, by omega, by go_num, HO.out, hB7⟩
                      case measure => simp [intOf]; omega
                    · obtain rfl : k = mid.length := by omega
                      rw [List.take_length] at hownx
                      have hmi := InlsAt.of hownx
                      have hml2 := (own_slice hownx)
                      obtain ⟨mao, mc, hmv, _⟩ := hml2
                      subst hmv
                      have HMI := Lib.hid hmi
                      obtain ⟨mz, hmz⟩ : ∃ z, (madeL 4 (piecesV mid)).length = z := ⟨_, rfl⟩
                      have HMZ := Lib.hid hmz
                      have hownP := own_below hown2 hBx
                      have hheap3 : wx.heap[g]? = some (.cells cur 104 (0, 0)) := (hBx.block g (Array.getElem?_eq_some_iff.1 hheap2).1).trans hheap2
                      have HPN3 := Lib.hid (HPN2.out.below hBx)
                      have hB3 := hB2.trans (hBx.mono hB2.size)
                      have hcx := fun (j : Nat) (hj : j < w2.heap.size) => hBx.cell (p := ⟨g, 0, none⟩)
                      have hg2 : g < w2.heap.size := (Array.getElem?_eq_some_iff.1 hheap2).1
                      have cc := fun (o : Nat) => hBx.cell (p := ⟨g, o, none⟩) hg2
                      rw [← cc] at c0 c1 c2 c3 c4 c5 c6 d0 d1 d2 d3 d4 d5 d6
                      have hz5 := HZ.out.2.2
                      have hy5 := HY.out.2.2.2
                      have hst1 := (hownP.stored (f0 * 7 + 5) (.int .i64 ((z.1.left : Int) - 2))).1
                      have hfz1 := hownP.frozenAt (f0 * 7 + 5)
                      rw [flat_setAt pieceCells 7 piece_len ps f0 z (lessL z.1 2, z.2) 5 _ HZ.out.1 (by omega) (pieceCells_left z 2 2 rfl (by omega))] at hst1
                      have hheap4 := heap_setCell_same wx g (f0 * 7 + 5) cur 104 (.int .i64 ((z.1.left : Int) - 2)) hheap3
                      have hfz2 := hst1.frozenAt (i * 7 + 5)
                      have hy2 : (ps.set f0 (lessL z.1 2, z.2))[i]? = some y := by rw [List.getElem?_set_ne (by omega)]; exact HYY.out
                      obtain ⟨x0, x1, x2, x3, x4, x5, x6⟩ := RowR.piece (own_rowR hst1).2.1 i y hy2
                      simp only [Nat.zero_add] at x5
                      have hst2 := (hst1.stored (i * 7 + 5) (.int .i64 ((y.1.left : Int) - 2))).1
                      rw [flat_setAt pieceCells 7 piece_len _ i y (lessL y.1 2, y.2) 5 _ hy2 (by omega) (pieceCells_left y 2 2 rfl (by omega))] at hst2
                      have hzb : z.1.left ≤ 100000000000 := by have := signs_mem (piecesV_mem (List.mem_of_getElem? HZ.out.1)); have := HGB.out.len; omega
                      have hyb : y.1.left ≤ 100000000000 := by have := signs_mem (piecesV_mem (List.mem_of_getElem? HYY.out)); have := HGB.out.len; omega
                      have hfz3 := hownP.frozenAt (i * 7 + 5)
                      have hpci : ¬ pc = i := by omega
                      obtain ⟨ps2, hps2⟩ : ∃ q, (ps.set f0 (lessL z.1 2, z.2)).set i (lessL y.1 2, y.2) = q := ⟨_, rfl⟩
                      have hps2l : ps2.length = ps.length := by rw [← hps2]; simp
                      rw [hps2] at hst2
                      have hRi := rowR_drop (own_rowR hst2).2.1 piece_len hps2l i (by omega)
                      have hxs := rowR_take (own_rowR hst2).2.1 piece_len (f0 + 1)
                      rw [Nat.zero_add] at hRi
                      obtain ⟨X2, hX2⟩ : ∃ X, (wx.setCell ⟨g, f0 * 7 + 5, none⟩ (.int .i64 ((z.1.left : Int) - 2))).setCell ⟨g, i * 7 + 5, none⟩ (.int .i64 ((y.1.left : Int) - 2)) = X := ⟨_, rfl⟩
                      have hX2z : X2.heap.size = wx.heap.size := by rw [← hX2]; simp [World.setCell]
                      have hBX := (hB3.setCell (p := ⟨g, f0 * 7 + 5, none⟩) hbg (.int .i64 ((z.1.left : Int) - 2))).setCell (p := ⟨g, i * 7 + 5, none⟩) hbg (.int .i64 ((y.1.left : Int) - 2))
                      have hPX := (PNodes.setCell HPN3.out (a := ⟨g, f0 * 7 + 5, none⟩) hheap3 (.int .i64 ((z.1.left : Int) - 2))).setCell (a := ⟨g, i * 7 + 5, none⟩) hheap4 (.int .i64 ((y.1.left : Int) - 2))
                      have hMX := (HMI.out.setCell (a := ⟨g, f0 * 7 + 5, none⟩) hheap3 (by decide) (.int .i64 ((z.1.left : Int) - 2))).setCell (a := ⟨g, i * 7 + 5, none⟩) hheap4 (by decide) (.int .i64 ((y.1.left : Int) - 2))
                      rw [hX2] at hBX hPX hMX hst2 hRi hxs
                      have HX := Lib.hid (And.intro hX2 (And.intro hX2z (And.intro hBX (And.intro hPX (And.intro hMX (And.intro hst2 (And.intro hRi (And.intro hxs (And.intro hps2 hps2l)))))))))
                      clear x0 x1 x2 x3 x4 x6 hst1 hmi hmz hcx cc hownx hown2 hheap2 HPN2 hB2 hst2 hps2 hps2l hRi hxs hX2 hX2z hBX hPX hMX hownP hheap3 hheap4 hy2 HPN3 hB3 HMI HW3 HLIT
                      go_upto_region 26 with fail
                      rw [HX.out.1]
                      obtain ⟨hX2z, hBX, hPX, hMX, hst2, hRi, hxs, hps2, hps2l⟩ := HX.out.2
                      have hlit := World.ownsRow_lit (base := X2.heap.size) (e := 104) (size := 7) X2 #[.int .u8 0, .int .i64 0, .bool false, .bool false, .slice mao (madeL 4 (piecesV mid)).length mc, .int .i64 0, .bool false] 1 (Nat.le_refl _) (by unfold maxLen; omega) rfl
                      have hRi2 := hRi.below ((Below.refl X2.heap.size X2).alloc (Nat.le_refl _) (.cells #[.int .u8 0, .int .i64 0, .bool false, .bool false, .slice mao (madeL 4 (piecesV mid)).length mc, .int .i64 0, .bool false] 104))
                      have hone : ∀ u ∈ (ps2.drop i).flatMap pieceCells, u.oneCell' = true := by
                        intro u hu
                        obtain ⟨q, hq, hu⟩ := List.mem_flatMap.1 hu
                        have hqs : ∃ l, InlsAt X2 q.2 l := by
                          rw [← hps2] at hq
                          rcases mem_set (List.mem_of_mem_drop hq) with hq | rfl
                          · rcases mem_set hq with hq | rfl
                            · exact ⟨_, hPX q hq⟩
                            · exact ⟨_, hPX z (List.mem_of_getElem? HZ.out.1)⟩
                          · exact ⟨_, hPX y (List.mem_of_getElem? HYY.out)⟩
                        obtain ⟨l, hl⟩ := hqs
                        have h2 := slice_oneCell hl
                        simp [pieceCells] at hu
                        rcases hu with rfl | rfl | rfl | rfl | rfl | rfl | rfl <;> first | rfl | exact h2
                      have HON := Lib.hid hone
                      have HX2 := Lib.hid (And.intro hBX (And.intro hPX (And.intro hMX (And.intro hst2 (And.intro hxs (And.intro hps2 hps2l))))))
                      clear HX hBX hPX hMX hst2 hRi hxs hps2 hps2l hone hX2z
                      go_wp2_with (first
                        | (at_builtin; refine wpList_append_row _ rfl _ _ 102 rfl X2.heap.size 104 j0 (.agg #[.int .u8 0, .int .i64 0, .bool false, .bool false, .slice none 0 0, .int .i64 0, .bool false]) 7 64 Tryz.underlying102 hj hy0 hy1 hy2 rfl (by decide) _ _ _ rfl hlit (some ⟨g, i * 7, none⟩) _ (pc - i) _ rfl hRi2 (fun h => by cases h) HON.out ?d3a ?d4a ?d5a ?_))
                      case d3a => unfold maxLen; omega
                      case d4a => omega
                      intro v4 X4 hown4 hgrow4
                      obtain ⟨g4, cap4, cur4, hv4, hb4, hc4, hh4⟩ := own_inP hown4 (by omega)
                      subst hv4
                      have hbe4 := ((Below.refl X2.heap.size X2).alloc (Nat.le_refl _) (.cells #[.int .u8 0, .int .i64 0, .bool false, .bool false, .slice mao (madeL 4 (piecesV mid)).length mc, .int .i64 0, .bool false] 104)).grown hgrow4 (by simp) (fun j hj => by simp [Value.ownBlock] at hj; omega)
                      have hr4 := (own_rowR hown4).2.1
                      have hn4 := hr4.at' _ rfl
                      have HH := Lib.hid (And.intro hbe4 (And.intro hr4.len (And.intro hn4.2 (show ∀ j u, ((ps2.take (f0 + 1)).flatMap pieceCells)[j]? = some u → X4.cell? ((⟨g, 0, none⟩ : Addr).add j) = some u from fun j u hu => by
                        have h1 := HX2.out.2.2.2.2.1 j u hu
                        exact (hbe4.cell (World.block_lt_of_cell? _ _ h1)).trans h1))))
                      have hX4z : w.heap.size ≤ X4.heap.size := Nat.le_trans HX2.out.1.size hbe4.size
                      clear hlit hRi2 HON hgrow4 hown4 hb4 hc4 hh4 hbe4 hr4 hn4
                      go_wp2_with (first
                        | (at_builtin; refine wpList_append_full _ rfl _ _ 102 rfl w.heap.size 104 j0 (.agg #[.int .u8 0, .int .i64 0, .bool false, .bool false, .slice none 0 0, .int .i64 0, .bool false]) 7 64 Tryz.underlying102 hj hy0 hy1 hy2 rfl ⟨g, 0, none⟩ (f0 + 1) ((ps2.take (f0 + 1)).flatMap pieceCells) rfl ?l1a HH.out.2.2.2 ⟨g4, 0, none⟩ _ cap4 _ rfl HH.out.2.1 HH.out.2.2.1 ?l2a ?l3a ?l4a ?l5a ?_))
                      case l1a => rw [flat_len pieceCells 7 piece_len, List.length_take, HX2.out.2.2.2.2.2.2, Nat.min_eq_left (by omega)]
                      case l2a => omega
                      case l3a => unfold maxLen; omega
                      case l4a => omega
                      case l5a => exact hX4z
                      intro v5 X5 hown5 hgrow5 cx5 hv5
                      clear hv5
                      obtain ⟨hBX, hPX, hMX, hst2, hxs, hps2, hps2l⟩ := HX2.out
                      have hbe4 := HH.out.1
                      have hB5 := (hBX.trans (hbe4.mono hBX.size)).grown hgrow5 hX4z (fun k h => by cases h)
                      have htk := sets_take ps f0 i (lessL z.1 2, z.2) (lessL y.1 2, y.2) hf0 hit
                      have hdr := sets_drop ps f0 i (lessL z.1 2, z.2) (lessL y.1 2, y.2) hf0 hit
                      rw [hps2] at htk hdr
                      obtain ⟨psn, hpsn⟩ : ∃ q, ps2.take (f0 + 1) ++ ((⟨⟨0, 0, false, false, madeL 4 (piecesV mid)⟩, 0, false⟩, .slice mao (madeL 4 (piecesV mid)).length mc) :: ps2.drop i) = q := ⟨_, rfl⟩
                      have hpl : psn.length = f0 + 1 + (1 + (ps.length - i)) := by
                        rw [← hpsn]; simp [hps2l]; omega
                      have hcl : psn.flatMap pieceCells = (ps2.take (f0 + 1)).flatMap pieceCells ++ (.int .u8 0 :: .int .i64 0 :: .bool false :: .bool false :: .slice mao (madeL 4 (piecesV mid)).length mc :: .int .i64 0 :: .bool false :: (ps2.drop i).flatMap pieceCells) := by
                        rw [← hpsn, List.flatMap_append, List.flatMap_cons]; rfl
                      have hnew : piecesV psn = (piecesV ps).take f0 ++ [lessL z.1 (pairN z.1 y.1), ⟨⟨0, 0, false, false, madeL (pairK z.1 y.1) (((piecesV ps).take i).drop (f0 + 1))⟩, 0, false⟩, lessL y.1 (pairN z.1 y.1)] ++ (piecesV ps).drop (i + 1) := by
                        rw [HKN.out.1, HKN.out.2, ← hpsn, htk, hdr, ← HMID.out.1, piecesV_drop, piecesV_take]
                        unfold piecesV
                        simp
                      have hpn5 : PNodes X5 psn := by
                        have hp4 := hPX.below hbe4
                        have hm4 := hMX.below hbe4
                        intro q hq
                        rw [← hpsn, htk, hdr] at hq
                        simp only [List.mem_append, List.mem_cons, List.not_mem_nil, or_false] at hq
                        rcases hq with (hq | rfl) | rfl | rfl | hq
                        · exact (hp4 q (List.mem_of_mem_take hq)).grown0 hgrow5
                        · exact (hp4 z (List.mem_of_getElem? HZ.out.1)).grown0 hgrow5
                        · exact hm4.grown0 hgrow5
                        · exact (hp4 y (List.mem_of_getElem? HYY.out)).grown0 hgrow5
                        · exact (hp4 q (List.mem_of_mem_drop hq)).grown0 hgrow5
                      have hsplit := pair_split (piecesV ps) f0 i hf0 (by rw [piecesV_len]; exact hit)
                      rw [piecesV_at HZ.out.1, piecesV_at HYY.out] at hsplit
                      have hgb0 : GB 100000000000 ((piecesV ps).take f0 ++ (z.1 :: (((piecesV ps).take i).drop (f0 + 1) ++ (y.1 :: (piecesV ps).drop (i + 1))))) := hsplit ▸ HGB.out
                      obtain ⟨hgb1, hsg1⟩ := pair_gb _ _ _ _ _ _ (pairK z.1 y.1) hgb0 HZ.out.2.1 HY.out.1 HZ.out.2.2 HY.out.2.2.2
                      rw [← hnew] at hgb1 hsg1
                      rw [← hsplit] at hsg1
                      have hgo5 := HGO2.out
                      rw [← hnew] at hgo5
                      have hfu5 := HFU.out
                      have HF := Lib.hid (And.intro (show X5.ownsRow w.heap.size 104 7 v5 psn.length (psn.flatMap pieceCells) by rw [hpl, hcl]; exact hown5) (And.intro hpn5 (And.intro hB5 (And.intro hgb1 (And.intro hgo5 (show signsOf (piecesV psn) + psn.length < f0 + 2 + f by omega))))))
                      clear hown5 hgrow5 hBX hPX hMX hst2 hxs hps2 hps2l hbe4 hB5 htk hdr hpsn hpl hcl hnew hpn5 hsplit hgb0 hgb1 hsg1 hgo5 hfu5 HX2 HH
                      go_wp2_with fail
                      go_roundg f
                      case measure => omega
                      case rel => exact ⟨psn, f0 + 2, by go_num, HF.out.1, HF.out.2.1, HF.out.2.2.1, HF.out.2.2.2.1, HF.out.2.2.2.2.1, HF.out.2.2.2.2.2⟩
                · have t2' : ¬ (1 : Int) < (y.1.left : Int) := by omega
                  have hK : pairK z.1 y.1 = 3 := by unfold pairK; rw [if_neg (fun h => t2 h.2)]
                  have hN : pairN z.1 y.1 = 1 := by unfold pairN; rw [if_neg (fun h => t2 h.2)]
                  have HKN := Lib.hid (And.intro hK hN)
                  clear hK hN
                  have hw3 := (Below.refl w2.heap.size w2).alloc (Nat.le_refl _) (.cells #[.int .i64 3, .int .i64 0, .string ⟨#[]⟩, .string ⟨#[]⟩, .string ⟨#[]⟩] 28)
                  have hlit := World.ownsRow_lit (base := w2.heap.size) (e := 28) (size := 5) w2 #[.int .i64 3, .int .i64 0, .string ⟨#[]⟩, .string ⟨#[]⟩, .string ⟨#[]⟩] 1 (Nat.le_refl _) (by unfold maxLen; omega) rfl
                  have HW3 := Lib.hid hw3
                  have HLIT := Lib.hid hlit
                  obtain ⟨mid, hmid⟩ : ∃ m, (ps.take i).drop (f0 + 1) = m := ⟨_, rfl⟩
                  have hmlen : mid.length = i - (f0 + 1) := by rw [← hmid]; simp; omega
                  have hmat : ∀ k x, mid[k]? = some x → ps[f0 + 1 + k]? = some x := by
                    intro k x hx
                    rw [← hmid, List.getElem?_drop, List.getElem?_take] at hx
                    split at hx
                    · exact hx
                    · cases hx
                  have HMID := Lib.hid (And.intro hmid (And.intro hmlen hmat))
                  have hcap1 : ¬ pc = f0 + 1 := by omega
                  have hcap2 : (f0 : Int) + 1 ≤ (i : Int) := by omega
                  have hcap3 : (i : Int) ≤ (pc : Int) := by omega
                  clear hw3 hlit hmid hmlen hmat
                  go_wp2_with fail
                  go_loopw [10, 103] (fun u10 u103 wr => ∃ k : Nat, k ≤ mid.length ∧ u103 = .int .i64 k ∧ wr.ownsRow w2.heap.size 28 5 u10 (madeL 3 (piecesV (mid.take k))).length (inlCells (madeL 3 (piecesV (mid.take k)))) ∧ Below w2.heap.size w2 wr) (fun _ u103 _ => mid.length - (intOf u103).toNat)
                  case atStart => exact ⟨0, Nat.zero_le _, rfl, HLIT.out, HW3.out⟩
                  case round =>
                    rename World => wx
                    obtain ⟨k, hk, rfl, hownx, hBx⟩ := hrel
                    have hml := HMID.out.2.1
                    by_cases hlt3 : k < mid.length
                    · obtain ⟨x, hx⟩ := getElem?_ex mid k hlt3
                      have hxp := HMID.out.2.2 k x hx
                      have hmem := List.mem_of_getElem? hxp
                      obtain ⟨e0, e1, e2, e3, e4, e5, e6⟩ := (((own_rowR hown2).2.1).below hBx).piece (f0 + 1 + k) x hxp
                      simp only [Nat.zero_add, show (f0 + 1 + k) * 7 = (f0 + 1) * 7 + k * 7 by omega] at e0 e1 e2 e3 e4 e5 e6
                      have hln := HPN2.out x hmem
                      obtain ⟨lao, lc, hlv, _⟩ := own_slice hln
                      have hxl : x.1.left ≤ 100000000000 := by have := signs_mem (piecesV_mem hmem); have := HGB.out.len; omega
                      have hbx1 := hBx.alloc hBx.size (.cells #[.int .u8 (x.1.it.sign.toNat : Int), .int .i64 (x.1.it.n : Int), .bool x.1.it.op, .bool x.1.it.cl, .slice lao x.1.it.l.length lc, .int .i64 (x.1.left : Int), .bool x.1.shut] 104)
                      have hnd := nodes_any x _ (hln.below hbx1) (by omega)
                      unfold pieceVal at hnd
                      rw [hlv] at hnd e4
                      have hown1 := hownx.alloc (.cells #[.int .u8 (x.1.it.sign.toNat : Int), .int .i64 (x.1.it.n : Int), .bool x.1.it.op, .bool x.1.it.cl, .slice lao x.1.it.l.length lc, .int .i64 (x.1.left : Int), .bool x.1.shut] 104)
                      have HND := Lib.hid hnd
                      have hsnoc : madeL 3 (piecesV (mid.take (k + 1))) = madeL 3 (piecesV (mid.take k)) ++ deeperL x.1.nodes := by
                        rw [take_snoc mid k x hx, show piecesV (mid.take k ++ [x]) = piecesV (mid.take k) ++ [x.1] by unfold piecesV; simp, madeL_snoc]
                      have hl1 : (madeL 3 (piecesV (mid.take k))).length ≤ 100000000001 := by
                        have h1 := madeL_len 3 (piecesV (mid.take k))
                        have h2 := totW_take (piecesV mid) k
                        have h3 : totW (piecesV mid) ≤ totW (piecesV ps) := by
                          rw [← HMID.out.1, piecesV_drop, piecesV_take]
                          exact Nat.le_trans (totW_drop _ _) (totW_take _ _)
                        have h4 := HGB.out.wt
                        rw [← piecesV_take] at h2
                        omega
                      have hl2 := node_len HGB.out (piecesV_mem hmem)
                      have hl3 := node_depth HGB.out (piecesV_mem hmem)
                      have HSN := Lib.hid hsnoc
                      have HL3 := Lib.hid hl3
                      obtain ⟨mk, hmk⟩ : ∃ m, madeL 3 (piecesV (mid.take k)) = m := ⟨_, rfl⟩
                      rw [hmk] at hown1 hl1
                      have HMK := Lib.hid hmk
                      clear hnd hx hxp hmem hln hlv hsnoc hl3 hmk hownx
                      have hkml : (k : Int) < ((i - (f0 + 1) : Nat) : Int) := by omega
                      clear hml
                      go_wp2_with fail
                      refine HND.out.mono ?_
                      rintro e w5 ⟨v, rfl, hv, b5⟩
                      have hbx2 := hbx1.trans (b5.mono hbx1.size)
                      have hown5 := own_below hown1 b5
                      have hdp := deeper_any v x.1.nodes w5 hv (by omega) (fun n hn => by have := HL3.out n hn; omega)
                      have HDP := Lib.hid hdp
                      obtain ⟨v1, vc1, hv1, _⟩ := own_slice hv
                      subst hv1
                      clear b5 hown1 hbx1 hv hdp
                      go_wp2_with fail
                      refine HDP.out.mono ?_
                      rintro e w6 ⟨v6, rfl, hv6, b6⟩
                      have hbx6 := hbx2.trans (b6.mono hbx2.size)
                      have hown6 := own_below hown5 b6
                      have hdl : (deeperL x.1.nodes).length = x.1.nodes.length := by unfold deeperL; simp
                      obtain ⟨vao, vc, hvv, hvR, hvn, _⟩ := own_slice hv6
                      subst hvv
                      rw [hdl] at hvR
                      clear b6 hown5 hbx2
                      go_wp2_with (first
                        | (at_builtin; refine wpList_append_row w6 rfl _ _ 25 rfl w2.heap.size 28 i0 (.agg #[.int .i64 0, .int .i64 0, .string ⟨#[]⟩, .string ⟨#[]⟩, .string ⟨#[]⟩]) 5 64 Tryz.underlying25 hi hz0 hz1 hz2 rfl (by decide) _ _ _ rfl hown6 vao _ vc _ rfl hvR hvn (inl_oneCell _) ?c3b ?c4b ?c5b ?_))
                      case c3b => exact Nat.le_trans (Nat.add_le_add hl1 hl2) (by unfold maxLen; decide)
                      case c4b => exact Nat.le_trans (Nat.mul_le_mul_right 64 (Nat.add_le_add hl1 hl2)) (by decide)
                      case c5b => exact hbx6.size
                      intro v' w7 hown7 hgrow
                      have hB7 := hbx6.grown hgrow hbx6.size (fun j hj => (hown6.lt j hj).1)
                      have HO := Lib.hid (show w7.ownsRow w2.heap.size 28 5 v' (madeL 3 (piecesV (mid.take (k + 1)))).length (inlCells (madeL 3 (piecesV (mid.take (k + 1))))) by
                        rw [HSN.out, HMK.out, inlCells_append, List.length_append, hdl]; exact hown7)
                      clear hgrow hown6 hbx6 hown7 hdl hvR
                      go_wp2_with fail
                      go_roundw
                      case rel => exact ⟨k + 1, by omega, by go_num, HO.out, hB7⟩
                      case measure => simp [intOf]; omega
                    · obtain rfl : k = mid.length := by omega
                      rw [List.take_length] at hownx
                      have hmi := InlsAt.of hownx
                      have hml2 := (own_slice hownx)
                      obtain ⟨mao, mc, hmv, _⟩ := hml2
                      subst hmv
                      have HMI := Lib.hid hmi
                      obtain ⟨mz, hmz⟩ : ∃ z, (madeL 3 (piecesV mid)).length = z := ⟨_, rfl⟩
                      have HMZ := Lib.hid hmz
                      have hownP := own_below hown2 hBx
                      have hheap3 : wx.heap[g]? = some (.cells cur 104 (0, 0)) := (hBx.block g (Array.getElem?_eq_some_iff.1 hheap2).1).trans hheap2
                      have HPN3 := Lib.hid (HPN2.out.below hBx)
                      have hB3 := hB2.trans (hBx.mono hB2.size)
                      have hcx := fun (j : Nat) (hj : j < w2.heap.size) => hBx.cell (p := ⟨g, 0, none⟩)
                      have hg2 : g < w2.heap.size := (Array.getElem?_eq_some_iff.1 hheap2).1
                      have cc := fun (o : Nat) => hBx.cell (p := ⟨g, o, none⟩) hg2
                      rw [← cc] at c0 c1 c2 c3 c4 c5 c6 d0 d1 d2 d3 d4 d5 d6
                      have hz5 := HZ.out.2.2
                      have hy5 := HY.out.2.2.2
                      have hst1 := (hownP.stored (f0 * 7 + 5) (.int .i64 ((z.1.left : Int) - 1))).1
                      have hfz1 := hownP.frozenAt (f0 * 7 + 5)
                      rw [flat_setAt pieceCells 7 piece_len ps f0 z (lessL z.1 1, z.2) 5 _ HZ.out.1 (by omega) (pieceCells_left z 1 1 rfl (by omega))] at hst1
                      have hheap4 := heap_setCell_same wx g (f0 * 7 + 5) cur 104 (.int .i64 ((z.1.left : Int) - 1)) hheap3
                      have hfz2 := hst1.frozenAt (i * 7 + 5)
                      have hy2 : (ps.set f0 (lessL z.1 1, z.2))[i]? = some y := by rw [List.getElem?_set_ne (by omega)]; exact HYY.out
                      obtain ⟨x0, x1, x2, x3, x4, x5, x6⟩ := RowR.piece (own_rowR hst1).2.1 i y hy2
                      simp only [Nat.zero_add] at x5
                      have hst2 := (hst1.stored (i * 7 + 5) (.int .i64 ((y.1.left : Int) - 1))).1
                      rw [flat_setAt pieceCells 7 piece_len _ i y (lessL y.1 1, y.2) 5 _ hy2 (by omega) (pieceCells_left y 1 1 rfl (by omega))] at hst2
                      have hzb : z.1.left ≤ 100000000000 := by have := signs_mem (piecesV_mem (List.mem_of_getElem? HZ.out.1)); have := HGB.out.len; omega
                      have hyb : y.1.left ≤ 100000000000 := by have := signs_mem (piecesV_mem (List.mem_of_getElem? HYY.out)); have := HGB.out.len; omega
                      have hfz3 := hownP.frozenAt (i * 7 + 5)
                      have hpci : ¬ pc = i := by omega
                      obtain ⟨ps2, hps2⟩ : ∃ q, (ps.set f0 (lessL z.1 1, z.2)).set i (lessL y.1 1, y.2) = q := ⟨_, rfl⟩
                      have hps2l : ps2.length = ps.length := by rw [← hps2]; simp
                      rw [hps2] at hst2
                      have hRi := rowR_drop (own_rowR hst2).2.1 piece_len hps2l i (by omega)
                      have hxs := rowR_take (own_rowR hst2).2.1 piece_len (f0 + 1)
                      rw [Nat.zero_add] at hRi
                      obtain ⟨X2, hX2⟩ : ∃ X, (wx.setCell ⟨g, f0 * 7 + 5, none⟩ (.int .i64 ((z.1.left : Int) - 1))).setCell ⟨g, i * 7 + 5, none⟩ (.int .i64 ((y.1.left : Int) - 1)) = X := ⟨_, rfl⟩
                      have hX2z : X2.heap.size = wx.heap.size := by rw [← hX2]; simp [World.setCell]
                      have hBX := (hB3.setCell (p := ⟨g, f0 * 7 + 5, none⟩) hbg (.int .i64 ((z.1.left : Int) - 1))).setCell (p := ⟨g, i * 7 + 5, none⟩) hbg (.int .i64 ((y.1.left : Int) - 1))
                      have hPX := (PNodes.setCell HPN3.out (a := ⟨g, f0 * 7 + 5, none⟩) hheap3 (.int .i64 ((z.1.left : Int) - 1))).setCell (a := ⟨g, i * 7 + 5, none⟩) hheap4 (.int .i64 ((y.1.left : Int) - 1))
                      have hMX := (HMI.out.setCell (a := ⟨g, f0 * 7 + 5, none⟩) hheap3 (by decide) (.int .i64 ((z.1.left : Int) - 1))).setCell (a := ⟨g, i * 7 + 5, none⟩) hheap4 (by decide) (.int .i64 ((y.1.left : Int) - 1))
                      rw [hX2] at hBX hPX hMX hst2 hRi hxs
                      have HX := Lib.hid (And.intro hX2 (And.intro hX2z (And.intro hBX (And.intro hPX (And.intro hMX (And.intro hst2 (And.intro hRi (And.intro hxs (And.intro hps2 hps2l)))))))))
                      clear x0 x1 x2 x3 x4 x6 hst1 hmi hmz hcx cc hownx hown2 hheap2 HPN2 hB2 hst2 hps2 hps2l hRi hxs hX2 hX2z hBX hPX hMX hownP hheap3 hheap4 hy2 HPN3 hB3 HMI HW3 HLIT
                      go_upto_region 26 with fail
                      rw [HX.out.1]
                      obtain ⟨hX2z, hBX, hPX, hMX, hst2, hRi, hxs, hps2, hps2l⟩ := HX.out.2
                      have hlit := World.ownsRow_lit (base := X2.heap.size) (e := 104) (size := 7) X2 #[.int .u8 0, .int .i64 0, .bool false, .bool false, .slice mao (madeL 3 (piecesV mid)).length mc, .int .i64 0, .bool false] 1 (Nat.le_refl _) (by unfold maxLen; omega) rfl
                      have hRi2 := hRi.below ((Below.refl X2.heap.size X2).alloc (Nat.le_refl _) (.cells #[.int .u8 0, .int .i64 0, .bool false, .bool false, .slice mao (madeL 3 (piecesV mid)).length mc, .int .i64 0, .bool false] 104))
                      have hone : ∀ u ∈ (ps2.drop i).flatMap pieceCells, u.oneCell' = true := by
                        intro u hu
                        obtain ⟨q, hq, hu⟩ := List.mem_flatMap.1 hu
                        have hqs : ∃ l, InlsAt X2 q.2 l := by
                          rw [← hps2] at hq
                          rcases mem_set (List.mem_of_mem_drop hq) with hq | rfl
                          · rcases mem_set hq with hq | rfl
                            · exact ⟨_, hPX q hq⟩
                            · exact ⟨_, hPX z (List.mem_of_getElem? HZ.out.1)⟩
                          · exact ⟨_, hPX y (List.mem_of_getElem? HYY.out)⟩
                        obtain ⟨l, hl⟩ := hqs
                        have h2 := slice_oneCell hl
                        simp [pieceCells] at hu
                        rcases hu with rfl | rfl | rfl | rfl | rfl | rfl | rfl <;> first | rfl | exact h2
                      have HON := Lib.hid hone
                      have HX2 := Lib.hid (And.intro hBX (And.intro hPX (And.intro hMX (And.intro hst2 (And.intro hxs (And.intro hps2 hps2l))))))
                      clear HX hBX hPX hMX hst2 hRi hxs hps2 hps2l hone hX2z
                      go_wp2_with (first
                        | (at_builtin; refine wpList_append_row _ rfl _ _ 102 rfl X2.heap.size 104 j0 (.agg #[.int .u8 0, .int .i64 0, .bool false, .bool false, .slice none 0 0, .int .i64 0, .bool false]) 7 64 Tryz.underlying102 hj hy0 hy1 hy2 rfl (by decide) _ _ _ rfl hlit (some ⟨g, i * 7, none⟩) _ (pc - i) _ rfl hRi2 (fun h => by cases h) HON.out ?d3b ?d4b ?d5b ?_))
                      case d3b => unfold maxLen; omega
                      case d4b => omega
                      intro v4 X4 hown4 hgrow4
                      obtain ⟨g4, cap4, cur4, hv4, hb4, hc4, hh4⟩ := own_inP hown4 (by omega)
                      subst hv4
                      have hbe4 := ((Below.refl X2.heap.size X2).alloc (Nat.le_refl _) (.cells #[.int .u8 0, .int .i64 0, .bool false, .bool false, .slice mao (madeL 3 (piecesV mid)).length mc, .int .i64 0, .bool false] 104)).grown hgrow4 (by simp) (fun j hj => by simp [Value.ownBlock] at hj; omega)
                      have hr4 := (own_rowR hown4).2.1
                      have hn4 := hr4.at' _ rfl
                      have HH := Lib.hid (And.intro hbe4 (And.intro hr4.len (And.intro hn4.2 (show ∀ j u, ((ps2.take (f0 + 1)).flatMap pieceCells)[j]? = some u → X4.cell? ((⟨g, 0, none⟩ : Addr).add j) = some u from fun j u hu => by
                        have h1 := HX2.out.2.2.2.2.1 j u hu
                        exact (hbe4.cell (World.block_lt_of_cell? _ _ h1)).trans h1))))
                      have hX4z : w.heap.size ≤ X4.heap.size := Nat.le_trans HX2.out.1.size hbe4.size
                      clear hlit hRi2 HON hgrow4 hown4 hb4 hc4 hh4 hbe4 hr4 hn4
                      go_wp2_with (first
                        | (at_builtin; refine wpList_append_full _ rfl _ _ 102 rfl w.heap.size 104 j0 (.agg #[.int .u8 0, .int .i64 0, .bool false, .bool false, .slice none 0 0, .int .i64 0, .bool false]) 7 64 Tryz.underlying102 hj hy0 hy1 hy2 rfl ⟨g, 0, none⟩ (f0 + 1) ((ps2.take (f0 + 1)).flatMap pieceCells) rfl ?l1b HH.out.2.2.2 ⟨g4, 0, none⟩ _ cap4 _ rfl HH.out.2.1 HH.out.2.2.1 ?l2b ?l3b ?l4b ?l5b ?_))
                      case l1b => rw [flat_len pieceCells 7 piece_len, List.length_take, HX2.out.2.2.2.2.2.2, Nat.min_eq_left (by omega)]
                      case l2b => omega
                      case l3b => unfold maxLen; omega
                      case l4b => omega
                      case l5b => exact hX4z
                      intro v5 X5 hown5 hgrow5 cx5 hv5
                      clear hv5
                      obtain ⟨hBX, hPX, hMX, hst2, hxs, hps2, hps2l⟩ := HX2.out
                      have hbe4 := HH.out.1
                      have hB5 := (hBX.trans (hbe4.mono hBX.size)).grown hgrow5 hX4z (fun k h => by cases h)
                      have htk := sets_take ps f0 i (lessL z.1 1, z.2) (lessL y.1 1, y.2) hf0 hit
                      have hdr := sets_drop ps f0 i (lessL z.1 1, z.2) (lessL y.1 1, y.2) hf0 hit
                      rw [hps2] at htk hdr
                      obtain ⟨psn, hpsn⟩ : ∃ q, ps2.take (f0 + 1) ++ ((⟨⟨0, 0, false, false, madeL 3 (piecesV mid)⟩, 0, false⟩, .slice mao (madeL 3 (piecesV mid)).length mc) :: ps2.drop i) = q := ⟨_, rfl⟩
                      have hpl : psn.length = f0 + 1 + (1 + (ps.length - i)) := by
                        rw [← hpsn]; simp [hps2l]; omega
                      have hcl : psn.flatMap pieceCells = (ps2.take (f0 + 1)).flatMap pieceCells ++ (.int .u8 0 :: .int .i64 0 :: .bool false :: .bool false :: .slice mao (madeL 3 (piecesV mid)).length mc :: .int .i64 0 :: .bool false :: (ps2.drop i).flatMap pieceCells) := by
                        rw [← hpsn, List.flatMap_append, List.flatMap_cons]; rfl
                      have hnew : piecesV psn = (piecesV ps).take f0 ++ [lessL z.1 (pairN z.1 y.1), ⟨⟨0, 0, false, false, madeL (pairK z.1 y.1) (((piecesV ps).take i).drop (f0 + 1))⟩, 0, false⟩, lessL y.1 (pairN z.1 y.1)] ++ (piecesV ps).drop (i + 1) := by
                        rw [HKN.out.1, HKN.out.2, ← hpsn, htk, hdr, ← HMID.out.1, piecesV_drop, piecesV_take]
                        unfold piecesV
                        simp
                      have hpn5 : PNodes X5 psn := by
                        have hp4 := hPX.below hbe4
                        have hm4 := hMX.below hbe4
                        intro q hq
                        rw [← hpsn, htk, hdr] at hq
                        simp only [List.mem_append, List.mem_cons, List.not_mem_nil, or_false] at hq
                        rcases hq with (hq | rfl) | rfl | rfl | hq
                        · exact (hp4 q (List.mem_of_mem_take hq)).grown0 hgrow5
                        · exact (hp4 z (List.mem_of_getElem? HZ.out.1)).grown0 hgrow5
                        · exact hm4.grown0 hgrow5
                        · exact (hp4 y (List.mem_of_getElem? HYY.out)).grown0 hgrow5
                        · exact (hp4 q (List.mem_of_mem_drop hq)).grown0 hgrow5
                      have hsplit := pair_split (piecesV ps) f0 i hf0 (by rw [piecesV_len]; exact hit)
                      rw [piecesV_at HZ.out.1, piecesV_at HYY.out] at hsplit
                      have hgb0 : GB 100000000000 ((piecesV ps).take f0 ++ (z.1 :: (((piecesV ps).take i).drop (f0 + 1) ++ (y.1 :: (piecesV ps).drop (i + 1))))) := hsplit ▸ HGB.out
                      obtain ⟨hgb1, hsg1⟩ := pair_gb _ _ _ _ _ _ (pairK z.1 y.1) hgb0 HZ.out.2.1 HY.out.1 HZ.out.2.2 HY.out.2.2.2
                      rw [← hnew] at hgb1 hsg1
                      rw [← hsplit] at hsg1
                      have hgo5 := HGO2.out
                      rw [← hnew] at hgo5
                      have hfu5 := HFU.out
                      have HF := Lib.hid (And.intro (show X5.ownsRow w.heap.size 104 7 v5 psn.length (psn.flatMap pieceCells) by rw [hpl, hcl]; exact hown5) (And.intro hpn5 (And.intro hB5 (And.intro hgb1 (And.intro hgo5 (show signsOf (piecesV psn) + psn.length < f0 + 2 + f by omega))))))
                      clear hown5 hgrow5 hBX hPX hMX hst2 hxs hps2 hps2l hbe4 hB5 htk hdr hpsn hpl hcl hnew hpn5 hsplit hgb0 hgb1 hsg1 hgo5 hfu5 HX2 HH
                      go_wp2_with fail
                      go_roundg f
                      case measure => omega
                      case rel => exact ⟨psn, f0 + 2, by go_num, HF.out.1, HF.out.2.1, HF.out.2.2.1, HF.out.2.2.2.1, HF.out.2.2.2.2.1, HF.out.2.2.2.2.2⟩
              · have t1' : ¬ (1 : Int) < (z.1.left : Int) := by omega
                have hK : pairK z.1 y.1 = 3 := by unfold pairK; rw [if_neg (fun h => t1 h.1)]
                have hN : pairN z.1 y.1 = 1 := by unfold pairN; rw [if_neg (fun h => t1 h.1)]
                have HKN := Lib.hid (And.intro hK hN)
                clear hK hN
                have hw3 := (Below.refl w2.heap.size w2).alloc (Nat.le_refl _) (.cells #[.int .i64 3, .int .i64 0, .string ⟨#[]⟩, .string ⟨#[]⟩, .string ⟨#[]⟩] 28)
                have hlit := World.ownsRow_lit (base := w2.heap.size) (e := 28) (size := 5) w2 #[.int .i64 3, .int .i64 0, .string ⟨#[]⟩, .string ⟨#[]⟩, .string ⟨#[]⟩] 1 (Nat.le_refl _) (by unfold maxLen; omega) rfl
                have HW3 := Lib.hid hw3
                have HLIT := Lib.hid hlit
                obtain ⟨mid, hmid⟩ : ∃ m, (ps.take i).drop (f0 + 1) = m := ⟨_, rfl⟩
                have hmlen : mid.length = i - (f0 + 1) := by rw [← hmid]; simp; omega
                have hmat : ∀ k x, mid[k]? = some x → ps[f0 + 1 + k]? = some x := by
                  intro k x hx
                  rw [← hmid, List.getElem?_drop, List.getElem?_take] at hx
                  split at hx
                  · exact hx
                  · cases hx
                have HMID := Lib.hid (And.intro hmid (And.intro hmlen hmat))
                have hcap1 : ¬ pc = f0 + 1 := by omega
                have hcap2 : (f0 : Int) + 1 ≤ (i : Int) := by omega
                have hcap3 : (i : Int) ≤ (pc : Int) := by omega
                clear hw3 hlit hmid hmlen hmat
                go_wp2_with fail
                go_loopw [10, 103] (fun u10 u103 wr => ∃ k : Nat, k ≤ mid.length ∧ u103 = .int .i64 k ∧ wr.ownsRow w2.heap.size 28 5 u10 (madeL 3 (piecesV (mid.take k))).length (inlCells (madeL 3 (piecesV (mid.take k)))) ∧ Below w2.heap.size w2 wr) (fun _ u103 _ => mid.length - (intOf u103).toNat)
                case atStart => exact ⟨0, Nat.zero_le _, rfl, HLIT.out, HW3.out⟩
                case round =>
                  rename World => wx
                  obtain ⟨k, hk, rfl, hownx, hBx⟩ := hrel
                  have hml := HMID.out.2.1
                  by_cases hlt3 : k < mid.length
                  · obtain ⟨x, hx⟩ := getElem?_ex mid k hlt3
                    have hxp := HMID.out.2.2 k x hx
                    have hmem := List.mem_of_getElem? hxp
                    obtain ⟨e0, e1, e2, e3, e4, e5, e6⟩ := (((own_rowR hown2).2.1).below hBx).piece (f0 + 1 + k) x hxp
                    simp only [Nat.zero_add, show (f0 + 1 + k) * 7 = (f0 + 1) * 7 + k * 7 by omega] at e0 e1 e2 e3 e4 e5 e6
                    have hln := HPN2.out x hmem
                    obtain ⟨lao, lc, hlv, _⟩ := own_slice hln
                    have hxl : x.1.left ≤ 100000000000 := by have := signs_mem (piecesV_mem hmem); have := HGB.out.len; omega
                    have hbx1 := hBx.alloc hBx.size (.cells #[.int .u8 (x.1.it.sign.toNat : Int), .int .i64 (x.1.it.n : Int), .bool x.1.it.op, .bool x.1.it.cl, .slice lao x.1.it.l.length lc, .int .i64 (x.1.left : Int), .bool x.1.shut] 104)
                    have hnd := nodes_any x _ (hln.below hbx1) (by omega)
                    unfold pieceVal at hnd
                    rw [hlv] at hnd e4
                    have hown1 := hownx.alloc (.cells #[.int .u8 (x.1.it.sign.toNat : Int), .int .i64 (x.1.it.n : Int), .bool x.1.it.op, .bool x.1.it.cl, .slice lao x.1.it.l.length lc, .int .i64 (x.1.left : Int), .bool x.1.shut] 104)
                    have HND := Lib.hid hnd
                    have hsnoc : madeL 3 (piecesV (mid.take (k + 1))) = madeL 3 (piecesV (mid.take k)) ++ deeperL x.1.nodes := by
                      rw [take_snoc mid k x hx, show piecesV (mid.take k ++ [x]) = piecesV (mid.take k) ++ [x.1] by unfold piecesV; simp, madeL_snoc]
                    have hl1 : (madeL 3 (piecesV (mid.take k))).length ≤ 100000000001 := by
                      have h1 := madeL_len 3 (piecesV (mid.take k))
                      have h2 := totW_take (piecesV mid) k
                      have h3 : totW (piecesV mid) ≤ totW (piecesV ps) := by
                        rw [← HMID.out.1, piecesV_drop, piecesV_take]
                        exact Nat.le_trans (totW_drop _ _) (totW_take _ _)
                      have h4 := HGB.out.wt
                      rw [← piecesV_take] at h2
                      omega
                    have hl2 := node_len HGB.out (piecesV_mem hmem)
                    have hl3 := node_depth HGB.out (piecesV_mem hmem)
                    have HSN := Lib.hid hsnoc
                    have HL3 := Lib.hid hl3
                    obtain ⟨mk, hmk⟩ : ∃ m, madeL 3 (piecesV (mid.take k)) = m := ⟨_, rfl⟩
                    rw [hmk] at hown1 hl1
                    have HMK := Lib.hid hmk
                    clear hnd hx hxp hmem hln hlv hsnoc hl3 hmk hownx
                    have hkml : (k : Int) < ((i - (f0 + 1) : Nat) : Int) := by omega
                    clear hml
                    go_wp2_with fail
                    refine HND.out.mono ?_
                    rintro e w5 ⟨v, rfl, hv, b5⟩
                    have hbx2 := hbx1.trans (b5.mono hbx1.size)
                    have hown5 := own_below hown1 b5
                    have hdp := deeper_any v x.1.nodes w5 hv (by omega) (fun n hn => by have := HL3.out n hn; omega)
                    have HDP := Lib.hid hdp
                    obtain ⟨v1, vc1, hv1, _⟩ := own_slice hv
                    subst hv1
                    clear b5 hown1 hbx1 hv hdp
                    go_wp2_with fail
                    refine HDP.out.mono ?_
                    rintro e w6 ⟨v6, rfl, hv6, b6⟩
                    have hbx6 := hbx2.trans (b6.mono hbx2.size)
                    have hown6 := own_below hown5 b6
                    have hdl : (deeperL x.1.nodes).length = x.1.nodes.length := by unfold deeperL; simp
                    obtain ⟨vao, vc, hvv, hvR, hvn, _⟩ := own_slice hv6
                    subst hvv
                    rw [hdl] at hvR
                    clear b6 hown5 hbx2
                    go_wp2_with (first
                      | (at_builtin; refine wpList_append_row w6 rfl _ _ 25 rfl w2.heap.size 28 i0 (.agg #[.int .i64 0, .int .i64 0, .string ⟨#[]⟩, .string ⟨#[]⟩, .string ⟨#[]⟩]) 5 64 Tryz.underlying25 hi hz0 hz1 hz2 rfl (by decide) _ _ _ rfl hown6 vao _ vc _ rfl hvR hvn (inl_oneCell _) ?c3c ?c4c ?c5c ?_))
                    case c3c => exact Nat.le_trans (Nat.add_le_add hl1 hl2) (by unfold maxLen; decide)
                    case c4c => exact Nat.le_trans (Nat.mul_le_mul_right 64 (Nat.add_le_add hl1 hl2)) (by decide)
                    case c5c => exact hbx6.size
                    intro v' w7 hown7 hgrow
                    have hB7 := hbx6.grown hgrow hbx6.size (fun j hj => (hown6.lt j hj).1)
                    have HO := Lib.hid (show w7.ownsRow w2.heap.size 28 5 v' (madeL 3 (piecesV (mid.take (k + 1)))).length (inlCells (madeL 3 (piecesV (mid.take (k + 1))))) by
                      rw [HSN.out, HMK.out, inlCells_append, List.length_append, hdl]; exact hown7)
                    clear hgrow hown6 hbx6 hown7 hdl hvR
                    go_wp2_with fail
                    go_roundw
                    case rel => exact ⟨k + 1, by omega, by go_num, HO.out, hB7⟩
                    case measure => simp [intOf]; omega
                  · obtain rfl : k = mid.length := by omega
                    rw [List.take_length] at hownx
                    have hmi := InlsAt.of hownx
                    have hml2 := (own_slice hownx)
                    obtain ⟨mao, mc, hmv, _⟩ := hml2
                    subst hmv
                    have HMI := Lib.hid hmi
                    obtain ⟨mz, hmz⟩ : ∃ z, (madeL 3 (piecesV mid)).length = z := ⟨_, rfl⟩
                    have HMZ := Lib.hid hmz
                    have hownP := own_below hown2 hBx
                    have hheap3 : wx.heap[g]? = some (.cells cur 104 (0, 0)) := (hBx.block g (Array.getElem?_eq_some_iff.1 hheap2).1).trans hheap2
                    have HPN3 := Lib.hid (HPN2.out.below hBx)
                    have hB3 := hB2.trans (hBx.mono hB2.size)
                    have hcx := fun (j : Nat) (hj : j < w2.heap.size) => hBx.cell (p := ⟨g, 0, none⟩)
                    have hg2 : g < w2.heap.size := (Array.getElem?_eq_some_iff.1 hheap2).1
                    have cc := fun (o : Nat) => hBx.cell (p := ⟨g, o, none⟩) hg2
                    rw [← cc] at c0 c1 c2 c3 c4 c5 c6 d0 d1 d2 d3 d4 d5 d6
                    have hz5 := HZ.out.2.2
                    have hy5 := HY.out.2.2.2
                    have hst1 := (hownP.stored (f0 * 7 + 5) (.int .i64 ((z.1.left : Int) - 1))).1
                    have hfz1 := hownP.frozenAt (f0 * 7 + 5)
                    rw [flat_setAt pieceCells 7 piece_len ps f0 z (lessL z.1 1, z.2) 5 _ HZ.out.1 (by omega) (pieceCells_left z 1 1 rfl (by omega))] at hst1
                    have hheap4 := heap_setCell_same wx g (f0 * 7 + 5) cur 104 (.int .i64 ((z.1.left : Int) - 1)) hheap3
                    have hfz2 := hst1.frozenAt (i * 7 + 5)
                    have hy2 : (ps.set f0 (lessL z.1 1, z.2))[i]? = some y := by rw [List.getElem?_set_ne (by omega)]; exact HYY.out
                    obtain ⟨x0, x1, x2, x3, x4, x5, x6⟩ := RowR.piece (own_rowR hst1).2.1 i y hy2
                    simp only [Nat.zero_add] at x5
                    have hst2 := (hst1.stored (i * 7 + 5) (.int .i64 ((y.1.left : Int) - 1))).1
                    rw [flat_setAt pieceCells 7 piece_len _ i y (lessL y.1 1, y.2) 5 _ hy2 (by omega) (pieceCells_left y 1 1 rfl (by omega))] at hst2
                    have hzb : z.1.left ≤ 100000000000 := by have := signs_mem (piecesV_mem (List.mem_of_getElem? HZ.out.1)); have := HGB.out.len; omega
                    have hyb : y.1.left ≤ 100000000000 := by have := signs_mem (piecesV_mem (List.mem_of_getElem? HYY.out)); have := HGB.out.len; omega
                    have hfz3 := hownP.frozenAt (i * 7 + 5)
                    have hpci : ¬ pc = i := by omega
                    obtain ⟨ps2, hps2⟩ : ∃ q, (ps.set f0 (lessL z.1 1, z.2)).set i (lessL y.1 1, y.2) = q := ⟨_, rfl⟩
                    have hps2l : ps2.length = ps.length := by rw [← hps2]; simp
                    rw [hps2] at hst2
                    have hRi := rowR_drop (own_rowR hst2).2.1 piece_len hps2l i (by omega)
                    have hxs := rowR_take (own_rowR hst2).2.1 piece_len (f0 + 1)
                    rw [Nat.zero_add] at hRi
                    obtain ⟨X2, hX2⟩ : ∃ X, (wx.setCell ⟨g, f0 * 7 + 5, none⟩ (.int .i64 ((z.1.left : Int) - 1))).setCell ⟨g, i * 7 + 5, none⟩ (.int .i64 ((y.1.left : Int) - 1)) = X := ⟨_, rfl⟩
                    have hX2z : X2.heap.size = wx.heap.size := by rw [← hX2]; simp [World.setCell]
                    have hBX := (hB3.setCell (p := ⟨g, f0 * 7 + 5, none⟩) hbg (.int .i64 ((z.1.left : Int) - 1))).setCell (p := ⟨g, i * 7 + 5, none⟩) hbg (.int .i64 ((y.1.left : Int) - 1))
                    have hPX := (PNodes.setCell HPN3.out (a := ⟨g, f0 * 7 + 5, none⟩) hheap3 (.int .i64 ((z.1.left : Int) - 1))).setCell (a := ⟨g, i * 7 + 5, none⟩) hheap4 (.int .i64 ((y.1.left : Int) - 1))
                    have hMX := (HMI.out.setCell (a := ⟨g, f0 * 7 + 5, none⟩) hheap3 (by decide) (.int .i64 ((z.1.left : Int) - 1))).setCell (a := ⟨g, i * 7 + 5, none⟩) hheap4 (by decide) (.int .i64 ((y.1.left : Int) - 1))
                    rw [hX2] at hBX hPX hMX hst2 hRi hxs
                    have HX := Lib.hid (And.intro hX2 (And.intro hX2z (And.intro hBX (And.intro hPX (And.intro hMX (And.intro hst2 (And.intro hRi (And.intro hxs (And.intro hps2 hps2l)))))))))
                    clear x0 x1 x2 x3 x4 x6 hst1 hmi hmz hcx cc hownx hown2 hheap2 HPN2 hB2 hst2 hps2 hps2l hRi hxs hX2 hX2z hBX hPX hMX hownP hheap3 hheap4 hy2 HPN3 hB3 HMI HW3 HLIT
                    go_upto_region 26 with fail
                    rw [HX.out.1]
                    obtain ⟨hX2z, hBX, hPX, hMX, hst2, hRi, hxs, hps2, hps2l⟩ := HX.out.2
                    have hlit := World.ownsRow_lit (base := X2.heap.size) (e := 104) (size := 7) X2 #[.int .u8 0, .int .i64 0, .bool false, .bool false, .slice mao (madeL 3 (piecesV mid)).length mc, .int .i64 0, .bool false] 1 (Nat.le_refl _) (by unfold maxLen; omega) rfl
                    have hRi2 := hRi.below ((Below.refl X2.heap.size X2).alloc (Nat.le_refl _) (.cells #[.int .u8 0, .int .i64 0, .bool false, .bool false, .slice mao (madeL 3 (piecesV mid)).length mc, .int .i64 0, .bool false] 104))
                    have hone : ∀ u ∈ (ps2.drop i).flatMap pieceCells, u.oneCell' = true := by
                      intro u hu
                      obtain ⟨q, hq, hu⟩ := List.mem_flatMap.1 hu
                      have hqs : ∃ l, InlsAt X2 q.2 l := by
                        rw [← hps2] at hq
                        rcases mem_set (List.mem_of_mem_drop hq) with hq | rfl
                        · rcases mem_set hq with hq | rfl
                          · exact ⟨_, hPX q hq⟩
                          · exact ⟨_, hPX z (List.mem_of_getElem? HZ.out.1)⟩
                        · exact ⟨_, hPX y (List.mem_of_getElem? HYY.out)⟩
                      obtain ⟨l, hl⟩ := hqs
                      have h2 := slice_oneCell hl
                      simp [pieceCells] at hu
                      rcases hu with rfl | rfl | rfl | rfl | rfl | rfl | rfl <;> first | rfl | exact h2
                    have HON := Lib.hid hone
                    have HX2 := Lib.hid (And.intro hBX (And.intro hPX (And.intro hMX (And.intro hst2 (And.intro hxs (And.intro hps2 hps2l))))))
                    clear HX hBX hPX hMX hst2 hRi hxs hps2 hps2l hone hX2z
                    go_wp2_with (first
                      | (at_builtin; refine wpList_append_row _ rfl _ _ 102 rfl X2.heap.size 104 j0 (.agg #[.int .u8 0, .int .i64 0, .bool false, .bool false, .slice none 0 0, .int .i64 0, .bool false]) 7 64 Tryz.underlying102 hj hy0 hy1 hy2 rfl (by decide) _ _ _ rfl hlit (some ⟨g, i * 7, none⟩) _ (pc - i) _ rfl hRi2 (fun h => by cases h) HON.out ?d3c ?d4c ?d5c ?_))
                    case d3c => unfold maxLen; omega
                    case d4c => omega
                    intro v4 X4 hown4 hgrow4
                    obtain ⟨g4, cap4, cur4, hv4, hb4, hc4, hh4⟩ := own_inP hown4 (by omega)
                    subst hv4
                    have hbe4 := ((Below.refl X2.heap.size X2).alloc (Nat.le_refl _) (.cells #[.int .u8 0, .int .i64 0, .bool false, .bool false, .slice mao (madeL 3 (piecesV mid)).length mc, .int .i64 0, .bool false] 104)).grown hgrow4 (by simp) (fun j hj => by simp [Value.ownBlock] at hj; omega)
                    have hr4 := (own_rowR hown4).2.1
                    have hn4 := hr4.at' _ rfl
                    have HH := Lib.hid (And.intro hbe4 (And.intro hr4.len (And.intro hn4.2 (show ∀ j u, ((ps2.take (f0 + 1)).flatMap pieceCells)[j]? = some u → X4.cell? ((⟨g, 0, none⟩ : Addr).add j) = some u from fun j u hu => by
                      have h1 := HX2.out.2.2.2.2.1 j u hu
                      exact (hbe4.cell (World.block_lt_of_cell? _ _ h1)).trans h1))))
                    have hX4z : w.heap.size ≤ X4.heap.size := Nat.le_trans HX2.out.1.size hbe4.size
                    clear hlit hRi2 HON hgrow4 hown4 hb4 hc4 hh4 hbe4 hr4 hn4
                    go_wp2_with (first
                      | (at_builtin; refine wpList_append_full _ rfl _ _ 102 rfl w.heap.size 104 j0 (.agg #[.int .u8 0, .int .i64 0, .bool false, .bool false, .slice none 0 0, .int .i64 0, .bool false]) 7 64 Tryz.underlying102 hj hy0 hy1 hy2 rfl ⟨g, 0, none⟩ (f0 + 1) ((ps2.take (f0 + 1)).flatMap pieceCells) rfl ?l1c HH.out.2.2.2 ⟨g4, 0, none⟩ _ cap4 _ rfl HH.out.2.1 HH.out.2.2.1 ?l2c ?l3c ?l4c ?l5c ?_))
                    case l1c => rw [flat_len pieceCells 7 piece_len, List.length_take, HX2.out.2.2.2.2.2.2, Nat.min_eq_left (by omega)]
                    case l2c => omega
                    case l3c => unfold maxLen; omega
                    case l4c => omega
                    case l5c => exact hX4z
                    intro v5 X5 hown5 hgrow5 cx5 hv5
                    clear hv5
                    obtain ⟨hBX, hPX, hMX, hst2, hxs, hps2, hps2l⟩ := HX2.out
                    have hbe4 := HH.out.1
                    have hB5 := (hBX.trans (hbe4.mono hBX.size)).grown hgrow5 hX4z (fun k h => by cases h)
                    have htk := sets_take ps f0 i (lessL z.1 1, z.2) (lessL y.1 1, y.2) hf0 hit
                    have hdr := sets_drop ps f0 i (lessL z.1 1, z.2) (lessL y.1 1, y.2) hf0 hit
                    rw [hps2] at htk hdr
                    obtain ⟨psn, hpsn⟩ : ∃ q, ps2.take (f0 + 1) ++ ((⟨⟨0, 0, false, false, madeL 3 (piecesV mid)⟩, 0, false⟩, .slice mao (madeL 3 (piecesV mid)).length mc) :: ps2.drop i) = q := ⟨_, rfl⟩
                    have hpl : psn.length = f0 + 1 + (1 + (ps.length - i)) := by
                      rw [← hpsn]; simp [hps2l]; omega
                    have hcl : psn.flatMap pieceCells = (ps2.take (f0 + 1)).flatMap pieceCells ++ (.int .u8 0 :: .int .i64 0 :: .bool false :: .bool false :: .slice mao (madeL 3 (piecesV mid)).length mc :: .int .i64 0 :: .bool false :: (ps2.drop i).flatMap pieceCells) := by
                      rw [← hpsn, List.flatMap_append, List.flatMap_cons]; rfl
                    have hnew : piecesV psn = (piecesV ps).take f0 ++ [lessL z.1 (pairN z.1 y.1), ⟨⟨0, 0, false, false, madeL (pairK z.1 y.1) (((piecesV ps).take i).drop (f0 + 1))⟩, 0, false⟩, lessL y.1 (pairN z.1 y.1)] ++ (piecesV ps).drop (i + 1) := by
                      rw [HKN.out.1, HKN.out.2, ← hpsn, htk, hdr, ← HMID.out.1, piecesV_drop, piecesV_take]
                      unfold piecesV
                      simp
                    have hpn5 : PNodes X5 psn := by
                      have hp4 := hPX.below hbe4
                      have hm4 := hMX.below hbe4
                      intro q hq
                      rw [← hpsn, htk, hdr] at hq
                      simp only [List.mem_append, List.mem_cons, List.not_mem_nil, or_false] at hq
                      rcases hq with (hq | rfl) | rfl | rfl | hq
                      · exact (hp4 q (List.mem_of_mem_take hq)).grown0 hgrow5
                      · exact (hp4 z (List.mem_of_getElem? HZ.out.1)).grown0 hgrow5
                      · exact hm4.grown0 hgrow5
                      · exact (hp4 y (List.mem_of_getElem? HYY.out)).grown0 hgrow5
                      · exact (hp4 q (List.mem_of_mem_drop hq)).grown0 hgrow5
                    have hsplit := pair_split (piecesV ps) f0 i hf0 (by rw [piecesV_len]; exact hit)
                    rw [piecesV_at HZ.out.1, piecesV_at HYY.out] at hsplit
                    have hgb0 : GB 100000000000 ((piecesV ps).take f0 ++ (z.1 :: (((piecesV ps).take i).drop (f0 + 1) ++ (y.1 :: (piecesV ps).drop (i + 1))))) := hsplit ▸ HGB.out
                    obtain ⟨hgb1, hsg1⟩ := pair_gb _ _ _ _ _ _ (pairK z.1 y.1) hgb0 HZ.out.2.1 HY.out.1 HZ.out.2.2 HY.out.2.2.2
                    rw [← hnew] at hgb1 hsg1
                    rw [← hsplit] at hsg1
                    have hgo5 := HGO2.out
                    rw [← hnew] at hgo5
                    have hfu5 := HFU.out
                    have HF := Lib.hid (And.intro (show X5.ownsRow w.heap.size 104 7 v5 psn.length (psn.flatMap pieceCells) by rw [hpl, hcl]; exact hown5) (And.intro hpn5 (And.intro hB5 (And.intro hgb1 (And.intro hgo5 (show signsOf (piecesV psn) + psn.length < f0 + 2 + f by omega))))))
                    clear hown5 hgrow5 hBX hPX hMX hst2 hxs hps2 hps2l hbe4 hB5 htk hdr hpsn hpl hcl hnew hpn5 hsplit hgb0 hgb1 hsg1 hgo5 hfu5 HX2 HH
                    go_wp2_with fail
                    go_roundg f
                    case measure => omega
                    case rel => exact ⟨psn, f0 + 2, by go_num, HF.out.1, HF.out.2.1, HF.out.2.2.1, HF.out.2.2.2.1, HF.out.2.2.2.2.1, HF.out.2.2.2.2.2⟩
          · rw [hid, if_pos rfl] at hgo
            have HI := Lib.hid (And.intro hown (And.intro hPN (And.intro hGB (And.intro hgo (show signsOf (piecesV ps) + ps.length < i + 1 + f by omega)))))
            clear hown hPN hGB hgo hfu hy hyD
            by_cases s1 : y.1.it.sign = 0
            · have k0 : ((y.1.it.sign.toNat : Int) == 0) = true := by rw [s1]; rfl
              clear s1 hid
              go_wp2_with fail
              go_roundg f
              case measure => omega
              case rel => exact ⟨ps, i + 1, by go_num, HI.out.1, HI.out.2.1, hB, HI.out.2.2.1, HI.out.2.2.2.1, HI.out.2.2.2.2⟩
            · have k0 := byte_zero s1
              cases s2 : y.1.it.cl
              · rw [s2] at c3
                clear s1 s2 hid
                go_wp2_with fail
                go_roundg f
                case measure => omega
                case rel => exact ⟨ps, i + 1, by go_num, HI.out.1, HI.out.2.1, hB, HI.out.2.2.1, HI.out.2.2.2.1, HI.out.2.2.2.2⟩
              · rw [s2] at c3
                cases s3 : y.1.shut
                · rw [s3] at c6
                  have k3 : ((y.1.left : Int) == 0) = true := by
                    unfold idle at hid
                    simp [s1, s2, s3] at hid
                    rw [hid]; rfl
                  clear s1 s2 s3 hid
                  go_wp2_with fail
                  go_roundg f
                  case measure => omega
                  case rel => exact ⟨ps, i + 1, by go_num, HI.out.1, HI.out.2.1, hB, HI.out.2.2.1, HI.out.2.2.2.1, HI.out.2.2.2.2⟩
                · rw [s3] at c6
                  clear s1 s2 s3 hid
                  go_wp2_with fail
                  go_roundg f
                  case measure => omega
                  case rel => exact ⟨ps, i + 1, by go_num, HI.out.1, HI.out.2.1, hB, HI.out.2.2.1, HI.out.2.2.2.1, HI.out.2.2.2.2⟩
        · have hRp : R = piecesV ps := by rw [← hgo]; exact go_stop gk _ i (by rw [piecesV_len]; omega)
          have HRP := Lib.hid hRp
          have HGB := Lib.hid hGB
          have hown' := hown
          obtain ⟨pao, pc, hu3, hPR, _⟩ := own_slice hown'
          subst hu3
          have HPR := Lib.hid hPR
          have HPN := Lib.hid hPN
          have hplen : ps.length ≤ 100000000000 := by have := hGB.len; rw [piecesV_len] at this; omega
          have hint : ¬ (i : Int) < (ps.length : Int) := by omega
          have hwt := hGB.wt
          have HWT := Lib.hid hwt
          clear hRp hGB hPR hPN hgo hfu hown hown' hwt
          go_wp2_with fail
          go_loopw [14, 151] (fun u14 u151 wx => ∃ k : Nat, k ≤ ps.length ∧ u151 = .int .i64 k ∧ wx.ownsRow wq.heap.size 28 5 u14 ((piecesV (ps.take k)).flatMap Piece.nodes).length (inlCells ((piecesV (ps.take k)).flatMap Piece.nodes)) ∧ Below wq.heap.size wq wx) (fun _ u151 _ => ps.length - (intOf u151).toNat)
          case atStart => exact ⟨0, Nat.zero_le _, rfl, World.ownsRow_nil _ _ _ _, Below.refl _ _⟩
          case round =>
            rename World => wx
            obtain ⟨k, hk, rfl, hown, hBx⟩ := hrel
            by_cases hlt : k < ps.length
            · obtain ⟨x, hx⟩ := getElem?_ex ps k hlt
              obtain ⟨g, o, rfl⟩ := HPR.out.addr (by omega)
              obtain ⟨c0, c1, c2, c3, c4, c5, c6⟩ := (HPR.out.below hBx).piece k x hx
              have hmem := List.mem_of_getElem? hx
              have hln := HPN.out x hmem
              obtain ⟨lao, lc, hlv, _⟩ := own_slice hln
              have hxl : x.1.left ≤ 100000000000 := by have := signs_mem (piecesV_mem hmem); have := HGB.out.len; omega
              have hbx1 := hBx.alloc hBx.size (.cells #[.int .u8 (x.1.it.sign.toNat : Int), .int .i64 (x.1.it.n : Int), .bool x.1.it.op, .bool x.1.it.cl, .slice lao x.1.it.l.length lc, .int .i64 (x.1.left : Int), .bool x.1.shut] 104)
              have hnd := nodes_any x _ (hln.below hbx1) (by omega)
              unfold pieceVal at hnd
              rw [hlv] at hnd c4
              have hown1 := hown.alloc (.cells #[.int .u8 (x.1.it.sign.toNat : Int), .int .i64 (x.1.it.n : Int), .bool x.1.it.op, .bool x.1.it.cl, .slice lao x.1.it.l.length lc, .int .i64 (x.1.left : Int), .bool x.1.shut] 104)
              have hsnoc : (piecesV (ps.take (k + 1))).flatMap Piece.nodes = (piecesV (ps.take k)).flatMap Piece.nodes ++ x.1.nodes := by
                rw [take_snoc ps k x hx]; unfold piecesV; simp
              have hl1 : ((piecesV (ps.take k)).flatMap Piece.nodes).length ≤ 100000000000 := by
                have h1 := flat_nodes_len (piecesV (ps.take k))
                have h2 := totW_take (piecesV ps) k
                rw [← piecesV_take] at h2
                have := HWT.out
                omega
              have hl2 := node_len HGB.out (piecesV_mem hmem)
              have HND := Lib.hid hnd
              have HSN := Lib.hid hsnoc
              clear hx hmem hln hlv hnd hsnoc hown
              obtain ⟨outk, hok⟩ : ∃ o, (piecesV (ps.take k)).flatMap Piece.nodes = o := ⟨_, rfl⟩
              rw [hok] at hown1 hl1
              have HOK := Lib.hid hok
              clear hok
              go_wp2_with fail
              refine HND.out.mono ?_
              rintro e w2 ⟨v, rfl, hv, b2⟩
              have hbx2 := hbx1.trans (b2.mono hbx1.size)
              have hown2 := own_below hown1 b2
              obtain ⟨vao, vc, hvv, hvR, hvn, _⟩ := own_slice hv
              subst hvv
              clear b2 hown1 hbx1
              go_wp2_with (first
                | (at_builtin; refine wpList_append_row w2 rfl _ _ 25 rfl wq.heap.size 28 i0 (.agg #[.int .i64 0, .int .i64 0, .string ⟨#[]⟩, .string ⟨#[]⟩, .string ⟨#[]⟩]) 5 64 Tryz.underlying25 hi hz0 hz1 hz2 rfl (by decide) _ _ _ rfl hown2 vao _ vc _ rfl hvR hvn (inl_oneCell _) ?c3z ?c4z ?c5z ?_))
              case c3z => unfold maxLen; omega
              case c4z => omega
              case c5z => exact hbx2.size
              intro v' w4 hown4 hgrow
              have hB4 := hbx2.grown hgrow hbx2.size (fun j hj => (hown2.lt j hj).1)
              have HO := Lib.hid (show w4.ownsRow wq.heap.size 28 5 v' ((piecesV (ps.take (k + 1))).flatMap Piece.nodes).length (inlCells ((piecesV (ps.take (k + 1))).flatMap Piece.nodes)) by
                rw [HSN.out, HOK.out, inlCells_append, List.length_append]; exact hown4)
              clear hgrow hown2 hbx2 hown4
              go_wp2_with fail
              go_roundw
              case rel => exact ⟨k + 1, by omega, by go_num, HO.out, hB4⟩
              case measure => simp [intOf]; omega
            · obtain rfl : k = ps.length := by omega
              rw [List.take_length] at hown
              have hl1 : ((piecesV ps).flatMap Piece.nodes).length ≤ 100000000000 := by
                have h1 := flat_nodes_len (piecesV ps)
                have := HWT.out
                omega
              have hl3 : textSum ((piecesV ps).flatMap Piece.nodes) ≤ 100000000000000 := by
                have h1 := wt_flat (piecesV ps)
                rw [wtL_sum] at h1
                have := HWT.out
                unfold textSum
                omega
              have hmg := merge_any _ _ wx (InlsAt.of hown) (by omega) hl3
              have HMG := Lib.hid hmg
              clear hmg hown
              go_wp2_with fail
              refine HMG.out.mono ?_
              rintro e w2 ⟨v, rfl, hv, b2⟩
              go_wp2_with fail
              go_ret
              refine ⟨v, rfl, ?_, (hB.trans (hBx.mono hB.size)).trans (b2.mono (Nat.le_trans hB.size hBx.size))⟩
              have : groupL (itemsV its) = mergeL ((piecesV ps).flatMap Piece.nodes) := by
                unfold groupL
                rw [← startP_fst, HR0.out, HRP.out]
              rw [this]
              exact InlsAt.of hv

end Go.Proofs.YtahljcbmckldhaaGreatDoor

/-
  token.among, behind, escaped, atom: the small readers.
-/
namespace Go.Proofs.YtahljcbmckldhaaGreatDoor
open Go.RowKit
set_option maxRecDepth 100000
set_option linter.unusedVariables false
set_option linter.unusedSimpArgs false

theorem ret_tok {o : Option (Tok × Nat)} {t : Tok} {m : Nat} {v : Value} {n : Int} (h : o = some (t, m)) (hv : v = t.val) (hn : n = m) : Ending.returned (.tuple #[v, .int .i64 n]) = .returned (.tuple #[tokVal o, .int .i64 (tokLen o)]) := by
  rw [h, hv, hn]; rfl
theorem ret_nil {o : Option (Tok × Nat)} (h : o = none) : Ending.returned (.tuple #[.nilIface, .int .i64 0]) = .returned (.tuple #[tokVal o, .int .i64 (tokLen o)]) := by
  rw [h]; rfl

theorem ret_tokc {r : Tok × Nat} {t : Tok} {m : Nat} {v : Value} {n : Int} (h : r = (t, m)) (hv : v = t.val) (hn : n = m) : Ending.returned (.tuple #[v, .int .i64 n]) = .returned (.tuple #[r.1.val, .int .i64 r.2]) := by
  rw [h, hv, hn]

theorem ret_word {o : Option (Tok × Nat)} {l : List UInt8} {X : ByteArray} {m : Nat} {n : Int} (h : o = some (.word l, m)) (hX : X.data.toList = l) (hn : n = m) : Ending.returned (.tuple #[.iface 68 (.string X), .int .i64 n]) = .returned (.tuple #[tokVal o, .int .i64 (tokLen o)]) := by
  refine ret_tok h ?_ hn
  rw [ba_of hX]; rfl
theorem ret_tag {o : Option (Tok × Nat)} {l : List UInt8} {X : ByteArray} {m : Nat} {n : Int} (h : o = some (.tag l, m)) (hX : X.data.toList = l) (hn : n = m) : Ending.returned (.tuple #[.iface 76 (.string X), .int .i64 n]) = .returned (.tuple #[tokVal o, .int .i64 (tokLen o)]) := by
  refine ret_tok h ?_ hn
  rw [ba_of hX]; rfl
theorem ret_auto {o : Option (Tok × Nat)} {u t : List UInt8} {X Y : ByteArray} {m : Nat} {n : Int} (h : o = some (.auto u t, m)) (hX : X.data.toList = u) (hY : Y.data.toList = t) (hn : n = m) : Ending.returned (.tuple #[.iface 79 (.agg #[.string X, .string Y]), .int .i64 n]) = .returned (.tuple #[tokVal o, .int .i64 (tokLen o)]) := by
  refine ret_tok h ?_ hn
  rw [ba_of hX, ba_of hY]; rfl
theorem ret_cword {r : Tok × Nat} {l : List UInt8} {X : ByteArray} {m : Nat} {n : Int} (h : r = (.word l, m)) (hX : X.data.toList = l) (hn : n = m) : Ending.returned (.tuple #[.iface 68 (.string X), .int .i64 n]) = .returned (.tuple #[r.1.val, .int .i64 r.2]) := by
  refine ret_tokc h ?_ hn
  rw [ba_of hX]; rfl
theorem ret_ccode {r : Tok × Nat} {l : List UInt8} {X : ByteArray} {m : Nat} {n : Int} (h : r = (.code l, m)) (hX : X.data.toList = l) (hn : n = m) : Ending.returned (.tuple #[.iface 73 (.string X), .int .i64 n]) = .returned (.tuple #[r.1.val, .int .i64 r.2]) := by
  refine ret_tokc h ?_ hn
  rw [ba_of hX]; rfl

/-- How many bytes of a set a text begins with. -/
theorem among_tok (s set : ByteArray) (w : World) (hz : set.size < 4294967281) (ha : ∀ (j : Nat) b, set.data.toList[j]? = some b → b.toNat < 128) (hs : s.size ≤ 1000000000) :
    Calls Tryz.prog 45 #[.string s, .string set] w fun e w' => e = .returned (.int .i64 (amongL s.data.toList set.data.toList)) ∧ Below w.heap.size w w' := by
  have hc : ∀ W, Calls Tryz.prog 73 #[.string s, .string set] W fun e w' => e = .returned (.string ⟨(Lib.trimLeftS s.data.toList set.data.toList).toArray⟩) ∧ Below W.heap.size W w' := fun W =>
    Any.strings_TrimLeft_laid Tryz.lays161 (by kernel_rfl) s set W hz ha
  obtain ⟨X, hX⟩ : ∃ X : ByteArray, X = ⟨(Lib.trimLeftS s.data.toList set.data.toList).toArray⟩ := ⟨_, rfl⟩
  have hXs : X.size = (Lib.trimLeftS s.data.toList set.data.toList).length := by rw [hX, Lib.size_eq]
  rw [← hX] at hc
  have hl := among_trim s.data.toList set.data.toList
  rw [← hXs, ← Lib.size_eq] at hl
  have HC := Lib.hid hc
  have HL := Lib.hid hl
  have hXle : X.size ≤ s.size := by omega
  clear hc hl hXs hX
  go_enter Tryz.func45, Tryz.ntmps45
  go_wp2_with fail
  refine (HC.out _).mono ?_
  rintro e w2 ⟨rfl, b2⟩
  go_wp2_with fail
  go_ret
  exact ⟨ret_int (by have := HL.out; omega), b2⟩

theorem among_small (set : List UInt8) (h : set.all (fun b => decide (b.toNat < 128)) = true) (hn : set.length < 4294967281) (s : ByteArray) (w : World) (hs : s.size ≤ 1000000000) :
    Calls Tryz.prog 45 #[.string s, .string ⟨set.toArray⟩] w fun e w' => e = .returned (.int .i64 (amongL s.data.toList set)) ∧ Below w.heap.size w w' :=
  among_tok s ⟨set.toArray⟩ w (by rw [Lib.size_eq]; exact hn) (ascii_of_all h) hs

theorem tail_list (s : ByteArray) (k : Nat) : (s.extract k s.size).data.toList = s.data.toList.drop k := Lib.extract_to_end s k
theorem tail_size (s : ByteArray) (k : Nat) : (s.extract k s.size).size = s.size - k := by rw [Lib.size_eq, tail_list, List.length_drop, ← Lib.size_eq]

/-- What stands behind the first byte. -/
theorem behind_tok (s : ByteArray) (w : World) (h0 : 1 ≤ s.size) (hs : s.size ≤ 1000000000) :
    Calls Tryz.prog 47 #[.string s] w fun e w' => e = .returned (.int .i64 (behindT s.data.toList)) ∧ Below w.heap.size w w' := by
  have hc := fun W => among_small [32, 9] (by decide) (by decide) (s.extract 1 s.size) W (by rw [tail_size]; omega)
  rw [tail_list] at hc
  have hle := among_le (s.data.toList.drop 1) [32, 9]
  rw [List.length_drop, ← Lib.size_eq] at hle
  have HB := Lib.hid (show behindT s.data.toList = 1 + amongL (s.data.toList.drop 1) [32, 9] from rfl)
  obtain ⟨n, hn⟩ : ∃ n, amongL (s.data.toList.drop 1) [32, 9] = n := ⟨_, rfl⟩
  rw [hn] at hc hle
  have HN := Lib.hid hn
  have HC := Lib.hid hc
  clear hc hn
  go_enter Tryz.func47, Tryz.ntmps47
  go_wp2_with fail
  refine (HC.out _).mono ?_
  rintro e w2 ⟨rfl, b2⟩
  go_wp2_with fail
  go_ret
  exact ⟨ret_int (by rw [HB.out, HN.out]; omega), b2⟩

/-- Behind a backslash. -/
theorem escaped_tok (s : ByteArray) (w : World) (h0 : 1 ≤ s.size) (hs : s.size ≤ 1000000000) :
    Calls Tryz.prog 41 #[.string s] w fun e w' => e = .returned (.tuple #[tokVal (escapedL s.data.toList), .int .i64 (tokLen (escapedL s.data.toList))]) ∧ Below w.heap.size w w' := by
  by_cases h1 : 1 < s.size
  · have hd := drop_at s 1 h1
    obtain ⟨c, hc⟩ : ∃ c, s[1] = c := ⟨_, rfl⟩
    rw [hc] at hd
    have ha := fun W => ascii_any c W
    have h1' : (1 : Int) < (s.size : Int) := by omega
    have hE : escapedL s.data.toList = if asciiP c = true then some (.word [c], 2) else if c = 10 then some (.brk true, 1 + behindT (s.data.toList.drop 1)) else none := by
      unfold escapedL
      rw [hd]
    have hx : (s.extract 1 2).data.toList = [c] := by
      rw [Lib.extract_data, hd]
      rfl
    cases hp : asciiP c
    · rw [hp] at ha hE
      simp only [Bool.false_eq_true, if_false] at hE
      by_cases h10 : c = 10
      · subst h10
        rw [if_pos rfl] at hE
        have hb := fun W => behind_tok (s.extract 1 s.size) W (by rw [tail_size]; omega) (by rw [tail_size]; omega)
        rw [tail_list] at hb
        have hbl : behindT (s.data.toList.drop 1) ≤ 1000000000 := by
          unfold behindT
          have := among_le ((s.data.toList.drop 1).drop 1) [32, 9]
          simp only [List.length_drop] at this
          rw [← Lib.size_eq] at this
          omega
        obtain ⟨n, hn⟩ : ∃ n, behindT (s.data.toList.drop 1) = n := ⟨_, rfl⟩
        rw [hn] at hb hE hbl
        have HA := Lib.hid ha
        have HB := Lib.hid hb
        have HE := Lib.hid hE
        clear ha hb hE hd hx hn hp
        go_enter Tryz.func41, Tryz.ntmps41
        go_wp2_with fail
        refine (HA.out _).mono ?_
        rintro e w2 ⟨rfl, b2⟩
        go_wp2_with fail
        refine (HB.out _).mono ?_
        rintro e w3 ⟨rfl, b3⟩
        go_wp2_with fail
        go_ret2
        exact ⟨ret_tok HE.out rfl (by omega), below_step b2 b3⟩
      · rw [if_neg h10] at hE
        have h10' : ((c.toNat : Int) == 10) = false := by
          rw [beq_eq_false_iff_ne]
          intro e
          exact h10 (by have : c.toNat = 10 := by omega
                        exact byte_eq this)
        have HA := Lib.hid ha
        have HE := Lib.hid hE
        clear ha hE hd hx h10 hp
        go_enter Tryz.func41, Tryz.ntmps41
        go_wp2_with fail
        refine (HA.out _).mono ?_
        rintro e w2 ⟨rfl, b2⟩
        go_wp2_with fail
        go_ret2
        exact ⟨ret_nil HE.out, b2⟩
    · rw [hp] at ha hE
      rw [if_pos rfl] at hE
      have HA := Lib.hid ha
      have HE := Lib.hid hE
      have HX := Lib.hid hx
      clear ha hE hd hx hp
      go_enter Tryz.func41, Tryz.ntmps41
      go_wp2_with fail
      refine (HA.out _).mono ?_
      rintro e w2 ⟨rfl, b2⟩
      go_wp2_with fail
      go_ret2
      exact ⟨ret_word HE.out HX.out rfl, b2⟩
  · have h1' : ¬ (1 : Int) < (s.size : Int) := by omega
    have HE := Lib.hid (show escapedL s.data.toList = none by unfold escapedL; rw [drop_end s 1 (by omega)])
    go_enter Tryz.func41, Tryz.ntmps41
    go_wp2_with fail
    go_ret2
    exact ⟨ret_nil HE.out, Below.refl _ _⟩

end Go.Proofs.YtahljcbmckldhaaGreatDoor

/-
  token.atom: a span's number.
-/
namespace Go.Proofs.YtahljcbmckldhaaGreatDoor
open Go.RowKit
set_option maxRecDepth 100000
set_option linter.unusedVariables false
set_option linter.unusedSimpArgs false

theorem pre_at (c : UInt8) (s : ByteArray) (w : World) :
    Calls Tryz.prog 46 #[.string s, .string ⟨#[c]⟩] w fun e w' => e = .returned (.bool (decide (s.data.toList.head? = some c))) ∧ w' = w := by
  have := Tryz.strings_HasPrefix s ⟨#[c]⟩ w
  rw [show (ByteArray.mk #[c]).data.toList = [c] from rfl, pre_one] at this
  exact this

theorem numOf_snoc (l : List UInt8) (c : UInt8) : numOf (l ++ [c]) = numOf l * 10 + (c.toNat - 48) := by
  unfold numOf
  rw [List.foldl_append]
  rfl
theorem numOf_lt : ∀ (l : List UInt8) (v : Nat), (∀ b ∈ l, b.toNat ≤ 57) → l.foldl (fun v c => v * 10 + (c.toNat - 48)) v < (v + 1) * 10 ^ l.length
  | [], v, _ => by simp
  | c :: l, v, h => by
    have hc := h c (List.mem_cons_self ..)
    have ih := numOf_lt l (v * 10 + (c.toNat - 48)) (fun b hb => h b (List.mem_cons_of_mem _ hb))
    rw [List.foldl_cons, List.length_cons, Nat.pow_succ]
    refine Nat.lt_of_lt_of_le ih ?_
    rw [Nat.mul_comm (10 ^ l.length) 10, ← Nat.mul_assoc]
    exact Nat.mul_le_mul_right _ (by omega)

theorem among_cons (c : UInt8) (s set : List UInt8) : amongL (c :: s) set = if set.contains c = true then amongL s set + 1 else 0 := by
  unfold amongL
  rw [List.takeWhile_cons]
  split <;> simp
theorem among_nil (set : List UInt8) : amongL [] set = 0 := rfl
theorem take_among (set : List UInt8) : ∀ (s : List UInt8), ∀ b ∈ s.take (amongL s set), set.contains b = true
  | [], b, hb => by simp at hb
  | c :: s, b, hb => by
    rw [among_cons] at hb
    split at hb
    · rename_i h
      rw [List.take_succ_cons] at hb
      rcases List.mem_cons.1 hb with e | e
      · rw [e]; exact h
      · exact take_among set s b e
    · simp at hb

theorem digit_range : ∀ b : UInt8, digitsL.contains b = true → 48 ≤ b.toNat ∧ b.toNat ≤ 57 := fun b => allB (p := fun b => digitsL.contains b = true → 48 ≤ b.toNat ∧ b.toNat ≤ 57) (by unfold AllB; decide +kernel) b

set_option maxHeartbeats 4000000 in
theorem atom_tok (s : ByteArray) (w : World) (h0 : 1 ≤ s.size) (hs : s.size ≤ 1000000000) :
    Calls Tryz.prog 40 #[.string s] w fun e w' => e = .returned (.tuple #[tokVal (atomL s.data.toList), .int .i64 (tokLen (atomL s.data.toList))]) ∧ Below w.heap.size w w' := by
  have hc := fun W => among_small digitsL (by decide) (by decide) (s.extract 1 s.size) W (by rw [tail_size]; omega)
  rw [tail_list] at hc
  have hle := among_le (s.data.toList.drop 1) digitsL
  rw [List.length_drop, ← Lib.size_eq] at hle
  have hA : atomL s.data.toList = if amongL (s.data.toList.drop 1) digitsL < 1 ∨ 4 < amongL (s.data.toList.drop 1) digitsL then none
      else if (s.data.toList.drop (1 + amongL (s.data.toList.drop 1) digitsL)).head? = some 0 then some (.atom (numOf ((s.data.toList.drop 1).take (amongL (s.data.toList.drop 1) digitsL))), amongL (s.data.toList.drop 1) digitsL + 2) else none := rfl
  have hdig := take_among digitsL (s.data.toList.drop 1)
  obtain ⟨n, hn⟩ : ∃ n, amongL (s.data.toList.drop 1) digitsL = n := ⟨_, rfl⟩
  rw [hn] at hc hle hA hdig
  have HC := Lib.hid hc
  clear hc hn
  rw [show (ByteArray.mk digitsL.toArray) = ByteArray.mk #[48, 49, 50, 51, 52, 53, 54, 55, 56, 57] from rfl] at HC
  by_cases t1 : n < 1
  · have t1' : (n : Int) < 1 := by omega
    rw [if_pos (Or.inl t1)] at hA
    have HA := Lib.hid hA
    clear hA hdig
    go_enter Tryz.func40, Tryz.ntmps40
    go_wp2_with fail
    refine (HC.out _).mono ?_
    rintro e w2 ⟨rfl, b2⟩
    go_wp2_with fail
    go_ret2
    exact ⟨ret_nil HA.out, b2⟩
  · have t1' : ¬ (n : Int) < 1 := by omega
    by_cases t2 : 4 < n
    · have t2' : (4 : Int) < (n : Int) := by omega
      rw [if_pos (Or.inr t2)] at hA
      have HA := Lib.hid hA
      clear hA hdig
      go_enter Tryz.func40, Tryz.ntmps40
      go_wp2_with fail
      refine (HC.out _).mono ?_
      rintro e w2 ⟨rfl, b2⟩
      go_wp2_with fail
      go_ret2
      exact ⟨ret_nil HA.out, b2⟩
    · have t2' : ¬ (4 : Int) < (n : Int) := by omega
      rw [if_neg (by omega)] at hA
      have hp := fun W => pre_at 0 (s.extract (1 + n) s.size) W
      rw [tail_list] at hp
      by_cases t3 : (s.data.toList.drop (1 + n)).head? = some 0
      · rw [decide_eq_true t3] at hp
        rw [if_pos t3] at hA
        obtain ⟨D, hD⟩ : ∃ D : ByteArray, s.extract 1 (1 + n) = D := ⟨_, rfl⟩
        have hDl : D.data.toList = (s.data.toList.drop 1).take n := by rw [← hD, Lib.extract_data]; congr 1; omega
        have hDz : D.size = n := by rw [Lib.size_eq, hDl, List.length_take, List.length_drop, ← Lib.size_eq]; omega
        rw [← hDl] at hA hdig
        have HP := Lib.hid hp
        have HA := Lib.hid hA
        have HDIG := Lib.hid hdig
        clear hA hdig hp hDl t3
        go_enter Tryz.func40, Tryz.ntmps40
        go_wp2_with fail
        refine (HC.out _).mono ?_
        rintro e w2 ⟨rfl, b2⟩
        go_wp2_with fail
        refine (HP.out _).mono ?_
        rintro e w' ⟨rfl, hw'⟩
        obtain rfl := hw'.symm
        go_wp2_with fail
        go_loopw [5] (fun u5 wr => ∃ pos : Nat, pos ≤ n ∧ u5 = .int .i64 (numOf (D.data.toList.take pos)) ∧ wr.heap[w2.heap.size]? = some (.stringIter D pos) ∧ Below w2.heap.size w2 wr) (fun _ wr => D.size - wr.iterPos w2.heap.size)
        case atStart =>
          refine ⟨0, by omega, rfl, ?_, (Below.refl _ w2).alloc (Nat.le_refl _) _⟩
          have := World.iter_heap w2 D 0
          simpa using this
        case round =>
          obtain ⟨pos, hpn, rfl, hit, hbw⟩ := hrel
          have hsz : w2.heap.size < wr.heap.size := (Array.getElem?_eq_some_iff.1 hit).1
          by_cases hp : pos < D.size
          · obtain ⟨c, hc⟩ : ∃ c, D[pos] = c := ⟨_, rfl⟩
            have hcd : 48 ≤ c.toNat ∧ c.toNat ≤ 57 := by
              refine digit_range c (HDIG.out c ?_)
              rw [← hc]
              have := Lib.data_getElem? D pos hp
              exact List.mem_of_getElem? this
            have hnx : ∀ ty, (Instr.next (.pointer (some ⟨w2.heap.size, 0, none⟩)) true ty).run Tryz.prog wr = _ := fun ty => Lib.run_next_any_at wr w2.heap.size D pos ty hit hp
            have hit2 := Lib.iterAt_heap wr w2.heap.size D pos (pos + (Utf8.decode D pos).2) hit
            have hbw2 := Lib.below_iterAt hbw (k := w2.heap.size) (by omega) D (pos + (Utf8.decode D pos).2)
            rw [Go.decode_ascii D pos hp (by rw [hc]; omega), hc] at hnx
            rw [Go.decode_ascii D pos hp (by rw [hc]; omega)] at hit2 hbw2
            simp only at hnx hit2 hbw2
            have hnum : numOf (D.data.toList.take (pos + 1)) = numOf (D.data.toList.take pos) * 10 + (c.toNat - 48) := by rw [take_succ D pos hp, numOf_snoc, hc]
            have hnl : numOf (D.data.toList.take pos) < 10000 := by
              have h1 := numOf_lt (D.data.toList.take pos) 0 (fun b hb => (digit_range b (HDIG.out b (List.mem_of_mem_take hb))).2)
              have h2 : (D.data.toList.take pos).length ≤ 4 := by have := List.length_take_le pos D.data.toList; omega
              have h3 : 10 ^ (D.data.toList.take pos).length ≤ 10 ^ 4 := Nat.pow_le_pow_right (by omega) h2
              unfold numOf
              omega
            obtain ⟨v, hv⟩ : ∃ v, numOf (D.data.toList.take pos) = v := ⟨_, rfl⟩
            rw [hv] at hnum hnl ⊢
            have HNUM := Lib.hid hnum
            have hw1 : IntKind.i32.wrap ((c.toNat : Int) - 48) = (c.toNat : Int) - 48 := IntWalk.i32_in _ (by omega)
            clear hnum hv hc hbw
            go_wp2_with fail
            go_roundw
            case rel => exact ⟨pos + 1, by omega, by rw [HNUM.out]; exact congrArg (Value.int .i64) (by omega), hit2, hbw2⟩
            case measure => simp only [World.iterPos, hit2, hit]; omega
          · have hnx : ∀ ty, (Instr.next (.pointer (some ⟨w2.heap.size, 0, none⟩)) true ty).run Tryz.prog wr = _ := fun ty => Lib.run_next_end_at wr w2.heap.size D pos ty hit hp
            obtain rfl : pos = D.size := by omega
            rw [take_all]
            go_wp2_with fail
            go_ret2
            exact ⟨ret_tok HA.out rfl (by omega), below_step b2 hbw⟩
      · rw [decide_eq_false t3] at hp
        rw [if_neg t3] at hA
        have HP := Lib.hid hp
        have HA := Lib.hid hA
        clear hA hdig hp t3
        go_enter Tryz.func40, Tryz.ntmps40
        go_wp2_with fail
        refine (HC.out _).mono ?_
        rintro e w2 ⟨rfl, b2⟩
        go_wp2_with fail
        refine (HP.out _).mono ?_
        rintro e _ ⟨rfl, rfl⟩
        go_wp2_with fail
        go_ret2
        exact ⟨ret_nil HA.out, b2⟩

end Go.Proofs.YtahljcbmckldhaaGreatDoor

/-
  token.code: what stands between backquotes.
-/
namespace Go.Proofs.YtahljcbmckldhaaGreatDoor
open Go.RowKit
set_option maxRecDepth 100000
set_option linter.unusedVariables false
set_option linter.unusedSimpArgs false

theorem replace_lf : ∀ (n : Nat) (l : List UInt8), l.length ≤ n → Lib.replaceK [10] [32] (Lib.count l [10]) l = lfBlank l
  | n, [], _ => by
    rw [Lib.count_miss (by rfl)]; rfl
  | 0, c :: l, h => by simp at h
  | n + 1, c :: l, h => by
    by_cases hm : (10 : UInt8) ∈ c :: l
    · obtain ⟨a, b, hab, ha⟩ := List.append_of_mem hm |> fun ⟨a, b, e⟩ => (show ∃ a b, c :: l = a ++ 10 :: b ∧ (10 : UInt8) ∉ a from by
        have key : ∀ (x : List UInt8), (10 : UInt8) ∈ x → ∃ a b, x = a ++ 10 :: b ∧ (10 : UInt8) ∉ a := by
          intro x
          induction x with
          | nil => intro h; cases h
          | cons y x ih =>
            intro h
            by_cases hy : y = 10
            · exact ⟨[], x, by rw [hy]; rfl, by simp⟩
            · obtain ⟨a, b, e, k⟩ := ih (by rcases List.mem_cons.1 h with h | h; exact absurd h.symm hy; exact h)
              exact ⟨y :: a, b, by rw [e]; rfl, by
                intro h
                rcases List.mem_cons.1 h with h | h
                · exact hy h.symm
                · exact k h⟩
        exact key _ hm)
      have hi : Lib.index (c :: l) [10] = (a.length : Nat) := by rw [hab]; exact index_hit 10 a b ha
      have hd : (c :: l).drop (a.length + ([10] : List UInt8).length) = b := by
        rw [hab, show a ++ (10 : UInt8) :: b = (a ++ [10]) ++ b by simp, List.drop_left' (by simp)]
      rw [Lib.count_hit (by simp) hi, hd, Nat.add_comm 1, Lib.replaceK_hit _ _ _ _ _ hi, hd]
      have hbl : b.length ≤ n := by
        have := congrArg List.length hab
        simp at this h; omega
      rw [replace_lf n b hbl, hab, List.take_left' rfl]
      have hna : lfBlank a = a := by
        unfold lfBlank
        conv => rhs; rw [← List.map_id a]
        refine List.map_congr_left (fun x hx => ?_)
        rw [if_neg (fun e => ha (by rw [← e]; exact hx))]
        rfl
      have : lfBlank (a ++ 10 :: b) = lfBlank a ++ 32 :: lfBlank b := by unfold lfBlank; simp
      rw [this, hna]
      simp
    · rw [Lib.count_miss (index_miss 10 _ hm)]
      show c :: l = _
      unfold lfBlank
      conv => lhs; rw [← List.map_id (c :: l)]
      refine List.map_congr_left (fun x hx => ?_)
      rw [if_neg (fun e => hm (by rw [← e]; exact hx))]
      rfl
theorem replaceAll_lf (l : List UInt8) : Lib.replaceAll l [10] [32] = lfBlank l := by
  unfold Lib.replaceAll Lib.replace
  rw [if_neg (by decide)]
  unfold Lib.replaceNum
  rw [if_pos (Or.inl (by omega))]
  exact replace_lf l.length l (Nat.le_refl _)

theorem lf_len (l : List UInt8) : (lfBlank l).length = l.length := by simp [lfBlank]

/-- 'strings.ReplaceAll(x, "\n", " ")'. -/
theorem lf_any (s : ByteArray) (w : World) (hE : Env w) (hs : s.size ≤ 1000000000) :
    Calls Tryz.prog 67 #[.string s, .string ⟨#[10]⟩, .string ⟨#[32]⟩] w fun e w' => e = .returned (.string ⟨(lfBlank s.data.toList).toArray⟩) ∧ Below w.heap.size w w' := by
  obtain ⟨m, hm⟩ := hE.maxl
  have hcb := Lib.countB_le ⟨#[10]⟩ (by decide) s.size s (Nat.le_refl _)
  have := Tryz.strings_ReplaceAll s ⟨#[10]⟩ ⟨#[32]⟩ m w (by omega) hm (by decide) (by
    rw [show (ByteArray.mk #[32]).size = 1 from rfl]
    omega)
  rw [show (ByteArray.mk #[10]).data.toList = [10] from rfl, show (ByteArray.mk #[32]).data.toList = [32] from rfl, replaceAll_lf] at this
  exact this

theorem indexByte_lt (c : UInt8) : ∀ (l : List UInt8), 0 ≤ Lib.indexByte l c → (Lib.indexByte l c).toNat < l.length ∧ l[(Lib.indexByte l c).toNat]? = some c
  | [], h => by
    have : Lib.indexByte [] c = -1 := rfl
    rw [this] at h; omega
  | b :: l, h => by
    have ih := indexByte_lt c l
    unfold Lib.indexByte at h ⊢
    split
    · rename_i hb
      have : b = c := by simpa using hb
      exact ⟨by simp, by simp [this]⟩
    · rename_i hb
      rw [if_neg hb] at h
      split
      · rename_i hm; rw [if_pos hm] at h; omega
      · rename_i hm
        have hge := Lib.indexByte_ge l c
        have hne : Lib.indexByte l c ≠ -1 := by simpa using hm
        obtain ⟨k1, k2⟩ := ih (by omega)
        have e : (Lib.indexByte l c + 1).toNat = (Lib.indexByte l c).toNat + 1 := by omega
        rw [e]
        exact ⟨by simp; omega, by simpa using k2⟩

end Go.Proofs.YtahljcbmckldhaaGreatDoor

/-
  token: a token has bytes, and not many more than the text. Plain facts.
-/
namespace Go.Proofs.YtahljcbmckldhaaGreatDoor
open Go.RowKit
set_option maxRecDepth 100000
set_option linter.unusedVariables false
set_option linter.unusedSimpArgs false

theorem head_lt {l : List UInt8} {k : Nat} {c : UInt8} (h : (l.drop k).head? = some c) : k < l.length := by
  rcases Nat.lt_or_ge k l.length with h' | h'
  · exact h'
  · rw [List.drop_eq_nil_of_le h'] at h; cases h

theorem codeGo_le (s : List UInt8) (n : Nat) (hn : n ≤ s.length) : ∀ (f i : Nat), i ≤ s.length → (codeGo f s n i).2 ≤ s.length ∧ (n ≤ i → n ≤ (codeGo f s n i).2)
  | 0, i, _ => ⟨hn, fun _ => Nat.le_refl _⟩
  | f + 1, i, hi => by
    rw [codeGo]
    split
    · exact ⟨hn, fun _ => Nat.le_refl _⟩
    · rename_i hk
      have hlt := indexByte_lt 96 (s.drop i) (by omega)
      rw [List.length_drop] at hlt
      have hm := among_le (s.drop (i + (Lib.indexByte (s.drop i) 96).toNat)) [96]
      rw [List.length_drop] at hm
      split
      · rename_i e
        rw [e] at hm
        exact ⟨by simp only; omega, fun h => by simp only; omega⟩
      · have ih := codeGo_le s n hn f (i + (Lib.indexByte (s.drop i) 96).toNat + amongL (s.drop (i + (Lib.indexByte (s.drop i) 96).toNat)) [96]) (by omega)
        exact ⟨ih.1, fun h => ih.2 (by omega)⟩
theorem code_le (c : UInt8) (r : List UInt8) (h : c = 96) : (codeL (c :: r)).2 ≤ (c :: r).length ∧ 0 < (codeL (c :: r)).2 := by
  have hn := among_le (c :: r) [96]
  have hk := codeGo_le (c :: r) _ hn ((c :: r).length + 1) _ hn
  have h1 : 1 ≤ amongL (c :: r) [96] := by rw [h, among_cons]; simp
  exact ⟨hk.1, Nat.lt_of_lt_of_le h1 (hk.2 (Nat.le_refl _))⟩

theorem autoEnd_lt : ∀ (l : List UInt8) (i j : Nat), autoEnd l i = some j → i ≤ j ∧ j < i + l.length
  | [], i, j, h => by cases h
  | c :: l, i, j, h => by
    rw [autoEnd] at h
    split at h
    · injection h with h; subst h; simp
    · split at h
      · cases h
      · have := autoEnd_lt l (i + 1) j h
        simp; omega
theorem tagEnd_lt : ∀ (l : List UInt8) (i j : Nat), tagEnd l i = some j → i ≤ j ∧ j < i + l.length
  | [], i, j, h => by cases h
  | c :: l, i, j, h => by
    rw [tagEnd] at h
    split at h
    · injection h with h; subst h; simp
    · split at h
      · cases h
      · have := tagEnd_lt l (i + 1) j h
        simp; omega

theorem auto_le {s : List UInt8} {t : Tok} {n : Nat} (h : autoL s = some (t, n)) : 0 < n ∧ n ≤ s.length := by
  unfold autoL at h
  split at h
  · cases h
  · split at h
    · cases h
    · split at h
      · rename_i h3
        have h3' := head_lt h3
        split at h
        · rename_i i hi
          have := autoEnd_lt _ _ _ hi
          rw [List.length_drop] at this
          injection h with h
          injection h with h1 h2
          omega
        · cases h
      · cases h
theorem mail_le {s : List UInt8} {t : Tok} {n : Nat} (h : mailL s = some (t, n)) : 0 < n ∧ n ≤ s.length := by
  unfold mailL at h
  split at h
  · cases h
  · split at h
    · split at h
      · cases h
      · split at h
        · rename_i h4
          have h4' := head_lt h4
          injection h with h
          injection h with h1 h2
          omega
        · cases h
    · cases h
theorem tagAt_le {s : List UInt8} {a : Nat} {t : Tok} {n : Nat} (h : tagAt s a = some (t, n)) : 0 < n ∧ n ≤ s.length := by
  unfold tagAt at h
  split at h
  · cases h
  · split at h
    · cases h
    · rename_i c r hcr
      split at h
      · cases h
      · split at h
        · rename_i i hi
          have := tagEnd_lt _ _ _ hi
          have hl := congrArg List.length hcr
          rw [List.length_drop] at hl
          simp at hl this
          injection h with h
          injection h with h1 h2
          omega
        · cases h
theorem atom_le {s : List UInt8} {t : Tok} {n : Nat} (h : atomL s = some (t, n)) : 0 < n ∧ n ≤ s.length := by
  unfold atomL at h
  split at h
  · cases h
  · split at h
    · rename_i h3
      have h3' := head_lt h3
      injection h with h
      injection h with h1 h2
      omega
    · cases h
theorem behindT_le (s : List UInt8) (h : 1 ≤ s.length) : 1 ≤ behindT s ∧ behindT s ≤ s.length := by
  unfold behindT
  have := among_le (s.drop 1) [32, 9]
  rw [List.length_drop] at this
  omega
theorem escaped_le {s : List UInt8} {t : Tok} {n : Nat} (h : escapedL s = some (t, n)) : 0 < n ∧ n ≤ s.length := by
  unfold escapedL at h
  split at h
  · cases h
  · rename_i c r hcr
    have hl := congrArg List.length hcr
    rw [List.length_drop] at hl
    simp at hl
    split at h
    · injection h with h; injection h with h1 h2; omega
    · split at h
      · have := behindT_le (s.drop 1) (by rw [List.length_drop]; omega)
        rw [List.length_drop] at this
        injection h with h; injection h with h1 h2; omega
      · cases h

theorem begins_le {s : List UInt8} {t : Tok} {n : Nat} (h : beginsL s = some (t, n)) : 0 < n ∧ n ≤ s.length + 11 := by
  cases s with
  | nil => cases h
  | cons c r =>
    rw [beginsL] at h
    have pk : ∀ {x : Tok × Nat}, some x = some (t, n) → n = x.2 := fun e => by injection e with e; rw [e]
    split at h
    · have := atom_le h; omega
    · split at h
      · have := escaped_le h; omega
      · split at h
        · split at h
          · rename_i h0
            have := (entAt_size (c :: r)).2
            have := pk h
            simp only at this; omega
          · cases h
        · split at h
          · rename_i hc
            have := code_le c r hc
            have := pk h
            omega
          · split at h
            · unfold angleL at h
              split at h
              · rename_i x hx
                have := pk h
                have := auto_le (t := x.1) (n := x.2) hx
                omega
              · split at h
                · rename_i x hx
                  have := pk h
                  have := mail_le (t := x.1) (n := x.2) hx
                  omega
                · unfold tagL at h
                  have := tagAt_le h
                  omega
            · split at h
              · have := pk h
                have := among_le (c :: r) [c]
                have h1 : 1 ≤ amongL (c :: r) [c] := by rw [among_cons]; simp
                simp only at *; omega
              · split at h
                · split at h
                  · have := pk h; simp only at this; simp; omega
                  · cases h
                · split at h
                  · have := pk h; simp only at this; simp; omega
                  · split at h
                    · rename_i hc
                      split at h
                      · rename_i h3
                        have h3' := head_lt h3
                        have hb := behindT_le ((c :: r).drop (amongL (c :: r) [32])) (by rw [List.length_drop]; omega)
                        rw [List.length_drop] at hb
                        have := pk h
                        simp only at this; omega
                      · rename_i h3
                        have := among_le (c :: r) [32]
                        have h1 : 1 ≤ amongL (c :: r) [32] := by
                          rcases hc with rfl | rfl
                          · rw [among_cons]; simp
                          · exfalso; apply h3
                            rw [show amongL (10 :: r) [32] = 0 by rw [among_cons]; rfl]
                            rfl
                        have := pk h
                        simp only at this; omega
                    · cases h

theorem indexAny_lt (chars : List UInt8) : ∀ (l : List UInt8), 0 ≤ Lib.indexAny l chars → (Lib.indexAny l chars).toNat < l.length
  | [], h => by
    have : Lib.indexAny [] chars = -1 := rfl
    rw [this] at h; omega
  | b :: l, h => by
    have ih := indexAny_lt chars l
    unfold Lib.indexAny at h ⊢
    split
    · simp
    · rename_i hb
      rw [if_neg hb] at h
      split
      · rename_i hm; rw [if_pos hm] at h; omega
      · rename_i hm
        have hge := Lib.indexAny_ge chars l
        have hne : Lib.indexAny l chars ≠ -1 := by simpa using hm
        have := ih (by omega)
        simp; omega

theorem next_le (s : List UInt8) (h : s ≠ []) : 0 < (nextL s).2 ∧ (nextL s).2 ≤ s.length + 11 := by
  have hl := List.length_pos_iff.2 h
  unfold nextL
  cases hb : beginsL s with
  | some r => exact begins_le (t := r.1) (n := r.2) hb
  | none =>
    simp only
    unfold plainTo
    split
    · rename_i h0
      have := indexAny_lt specialL (s.drop 1) h0
      rw [List.length_drop] at this
      omega
    · omega

end Go.Proofs.YtahljcbmckldhaaGreatDoor

/-
  token: how long a token's text is. Plain facts.
-/
namespace Go.Proofs.YtahljcbmckldhaaGreatDoor
open Go.RowKit
set_option maxRecDepth 100000
set_option linter.unusedVariables false
set_option linter.unusedSimpArgs false

/-- The length of a token's text; of a row, its signs. -/
def tokW : Tok → Nat
  | .word l => l.length
  | .code l => l.length
  | .tag l => l.length
  | .auto _ t => t.length
  | .run _ n => n
  | .mark l => l.length
  | .brk _ => 0
  | .atom _ => 0
def TokOk (L : Nat) (t : Tok) : Prop := tokW t ≤ L ∧ (∀ c k, t = .run c k → c ≠ 0)

theorem tokOk_word {L : Nat} {l : List UInt8} (h : l.length ≤ L) : TokOk L (.word l) := ⟨h, fun c k e => by cases e⟩
theorem codeText_len (l : List UInt8) : (codeText l).length ≤ l.length := by
  unfold codeText
  have := lf_len l
  split
  · simp only [List.length_dropLast, List.length_tail]; omega
  · omega
theorem codeGo_ok (s : List UInt8) (n : Nat) : ∀ (f i : Nat), TokOk s.length (codeGo f s n i).1
  | 0, i => tokOk_word (by rw [List.length_take]; omega)
  | f + 1, i => by
    rw [codeGo]
    split
    · exact tokOk_word (by rw [List.length_take]; omega)
    · split
      · refine ⟨?_, fun c k e => by cases e⟩
        refine Nat.le_trans (codeText_len _) ?_
        rw [List.length_drop, List.length_take]; omega
      · exact codeGo_ok s n f _
theorem auto_ok {s : List UInt8} {r : Tok × Nat} (h : autoL s = some r) : TokOk s.length r.1 := by
  unfold autoL at h
  split at h
  · cases h
  · split at h
    · cases h
    · split at h
      · split at h
        · injection h with h; subst h
          refine ⟨?_, fun c k e => by cases e⟩
          show ((s.take _).drop 1).length ≤ _
          rw [List.length_drop, List.length_take]; omega
        · cases h
      · cases h
theorem mail_ok {s : List UInt8} {r : Tok × Nat} (h : mailL s = some r) : TokOk s.length r.1 := by
  unfold mailL at h
  split at h
  · cases h
  · split at h
    · split at h
      · cases h
      · split at h
        · injection h with h; subst h
          refine ⟨?_, fun c k e => by cases e⟩
          show ((s.take _).drop 1).length ≤ _
          rw [List.length_drop, List.length_take]; omega
        · cases h
    · cases h
theorem tagAt_ok {s : List UInt8} {a : Nat} {r : Tok × Nat} (h : tagAt s a = some r) : TokOk s.length r.1 := by
  unfold tagAt at h
  split at h
  · cases h
  · split at h
    · cases h
    · split at h
      · cases h
      · split at h
        · injection h with h; subst h
          refine ⟨?_, fun c k e => by cases e⟩
          show (s.take _).length ≤ _
          rw [List.length_take]; omega
        · cases h
theorem begins_ok {s : List UInt8} {r : Tok × Nat} (h : beginsL s = some r) : TokOk (s.length + 4) r.1 := by
  have up : TokOk s.length r.1 → TokOk (s.length + 4) r.1 := fun h => ⟨Nat.le_trans h.1 (Nat.le_add_right _ _), h.2⟩
  cases s with
  | nil => cases h
  | cons c l =>
    rw [beginsL] at h
    split at h
    · unfold atomL at h
      split at h
      · cases h
      · split at h
        · injection h with h; subst h; exact ⟨Nat.zero_le _, fun c k e => by cases e⟩
        · cases h
    · split at h
      · unfold escapedL at h
        split at h
        · cases h
        · split at h
          · injection h with h; subst h; exact tokOk_word (by simp)
          · split at h
            · injection h with h; subst h; exact ⟨Nat.zero_le _, fun c k e => by cases e⟩
            · cases h
      · split at h
        · split at h
          · injection h with h; subst h
            exact tokOk_word (by have := (entAt_size (c :: l)).1; omega)
          · cases h
        · split at h
          · injection h with h; subst h
            exact up (codeGo_ok _ _ _ _)
          · split at h
            · unfold angleL at h
              split at h
              · rename_i x hx
                injection h with h; subst h
                exact up (auto_ok hx)
              · split at h
                · rename_i x hx
                  injection h with h; subst h
                  exact up (mail_ok hx)
                · unfold tagL at h
                  exact up (tagAt_ok h)
            · split at h
              · rename_i hc
                injection h with h; subst h
                refine up ⟨among_le _ _, fun d k e => ?_⟩
                injection e with e1 e2
                rw [← e1]
                rcases hc with rfl | rfl <;> decide
              · split at h
                · split at h
                  · injection h with h; subst h; exact ⟨by simp [tokW], fun c k e => by cases e⟩
                  · cases h
                · split at h
                  · injection h with h; subst h; exact ⟨by simp [tokW], fun c k e => by cases e⟩
                  · split at h
                    · split at h
                      · injection h with h; subst h; exact ⟨Nat.zero_le _, fun c k e => by cases e⟩
                      · injection h with h; subst h; exact tokOk_word (by rw [List.length_take]; omega)
                    · cases h
theorem next_ok (s : List UInt8) : TokOk (s.length + 4) (nextL s).1 := by
  unfold nextL
  cases hb : beginsL s with
  | some r => exact begins_ok hb
  | none => exact tokOk_word (by rw [List.length_take]; omega)

end Go.Proofs.YtahljcbmckldhaaGreatDoor

/-
  inline.Parse in plain lists: what stays bounded while a text is gone through.
-/
namespace Go.Proofs.YtahljcbmckldhaaGreatDoor
open Go.RowKit
set_option maxRecDepth 100000
set_option linter.unusedVariables false
set_option linter.unusedSimpArgs false

def itW (x : IItem) : Nat := if x.sign = 0 then wtL x.l else 2 * x.n
def itsW (l : List IItem) : Nat := (l.map itW).sum
theorem itsW_append (a b : List IItem) : itsW (a ++ b) = itsW a + itsW b := by unfold itsW; simp
theorem itsW_one (x : IItem) : itsW [x] = itW x := by simp [itsW]
theorem itsW_cut (l : List IItem) (k : Nat) : itsW (l.take k) + itsW (l.drop k) = itsW l := by
  rw [← itsW_append, List.take_append_drop]
theorem itsW_mem {l : List IItem} {x : IItem} (h : x ∈ l) : itW x ≤ itsW l := by
  induction l with
  | nil => cases h
  | cons y l ih =>
    rw [show y :: l = [y] ++ l from rfl, itsW_append, itsW_one]
    rcases List.mem_cons.1 h with rfl | h
    · omega
    · have := ih h; omega
theorem itsW_tot (l : List IItem) : totW (piecesOf l) = itsW l := by
  unfold totW piecesOf itsW
  rw [List.map_map]
  rfl

/-- A row of signs has no nodes, nodes have no signs. -/
def Zero (l : List IItem) : Prop := ∀ x ∈ l, (x.sign = 0 → x.n = 0) ∧ (x.sign ≠ 0 → x.l = [])
theorem Zero.append {a b : List IItem} (ha : Zero a) (hb : Zero b) : Zero (a ++ b) := fun x hx => by
  rcases List.mem_append.1 hx with hx | hx
  · exact ha x hx
  · exact hb x hx
theorem Zero.take {l : List IItem} (h : Zero l) (n : Nat) : Zero (l.take n) := fun x hx => h x (List.mem_of_mem_take hx)
theorem Zero.drop {l : List IItem} (h : Zero l) (n : Nat) : Zero (l.drop n) := fun x hx => h x (List.mem_of_mem_drop hx)
theorem signs_le {l : List IItem} (h : Zero l) : signsOf (piecesOf l) ≤ itsW l := by
  induction l with
  | nil => simp [signsOf, piecesOf]
  | cons x l ih =>
    have h1 := ih fun y hy => h y (List.mem_cons_of_mem _ hy)
    rw [show piecesOf (x :: l) = [⟨x, x.n, false⟩] ++ piecesOf l from rfl, signs_append, signs_one, show x :: l = [x] ++ l from rfl, itsW_append, itsW_one]
    have h2 := (h x (List.mem_cons_self ..)).1
    unfold itW
    simp only
    split
    · rename_i h0; have := h2 h0; omega
    · omega

theorem chained_at : ∀ (l : List Inl) (k : Nat) (w x : Inl), Chained l → l[k]? = some w → l[k + 1]? = some x → okAfter w x
  | [], k, w, x, _, h, _ => by simp at h
  | a :: l, 0, w, x, h, h1, h2 => by
    simp at h1 h2
    subst h1
    exact ((chained_cons _ _).1 h).1 x (by rw [← h2, List.head?_eq_getElem?])
  | a :: l, k + 1, w, x, h, h1, h2 => chained_at l k w x ((chained_cons _ _).1 h).2 (by simpa using h1) (by simpa using h2)
theorem nest_at {l : List Inl} (h : Nest l) : ∀ (k : Nat) (x : Inl), l[k]? = some x → x.depth ≤ k
  | 0, x, hx => by rw [h.head x (by rw [List.head?_eq_getElem?, hx])]; exact Nat.le_refl _
  | k + 1, x, hx => by
    have hk : k < l.length := by have := (List.getElem?_eq_some_iff.1 hx).1; omega
    have h1 := nest_at h k l[k] (by simp [hk])
    have h2 := (chained_at l k l[k] x h.chain (by simp [hk]) hx).1
    omega
theorem nest_depth {l : List Inl} (h : Nest l) : ∀ x ∈ l, x.depth ≤ l.length := by
  intro x hx
  obtain ⟨k, hk, rfl⟩ := List.mem_iff_getElem.1 hx
  have := nest_at h k l[k] (by simp [hk])
  omega

theorem gb_of {D : Nat} {l : List IItem} (hd : 2 * itsW l + l.length ≤ D) (z : Zero l) (n : ItemsNest l) : GB D (piecesOf l) := by
  have hs := signs_le z
  refine ⟨?_, ?_, ?_, ?_⟩
  · have : (piecesOf l).length = l.length := by unfold piecesOf; simp
    omega
  · rw [itsW_tot]; omega
  · intro q hq x hx
    obtain ⟨y, hy, rfl⟩ := List.mem_map.1 hq
    simp only at hx
    have h1 := itsW_mem hy
    have h2 := nest_depth (n y hy) x hx
    have h3 := wtL_len y.l
    by_cases h0 : y.sign = 0
    · unfold itW at h1; rw [if_pos h0] at h1; omega
    · rw [(z y hy).2 h0] at hx; cases hx
  · intro q hq
    obtain ⟨y, hy, rfl⟩ := List.mem_map.1 hq
    simp only
    have h1 := itsW_mem hy
    by_cases h0 : y.sign = 0
    · rw [(z y hy).1 h0]; exact Nat.zero_le _
    · unfold itW at h1; rw [if_neg h0] at h1; omega

/-! ### Group does not make more of it -/
theorem pair_tot (A M B : List Piece) (o c : Piece) (k : Nat) (hs : o.it.sign = c.it.sign) (hs0 : c.it.sign ≠ 0) (ho : 1 ≤ o.left) (hc : 1 ≤ c.left) :
    totW (A ++ [lessL o (pairN o c), ⟨⟨0, 0, false, false, madeL k M⟩, 0, false⟩, lessL c (pairN o c)] ++ B) ≤ totW (A ++ (o :: (M ++ (c :: B)))) := by
  obtain ⟨n1, n2, n3⟩ := pairN_le ho hc
  obtain ⟨n, hn⟩ : ∃ n, pairN o c = n := ⟨_, rfl⟩
  rw [hn] at n1 n2 n3 ⊢
  have e1 : A ++ (o :: (M ++ (c :: B))) = A ++ ([o] ++ (M ++ ([c] ++ B))) := rfl
  have e2 : A ++ [lessL o n, ⟨⟨0, 0, false, false, madeL k M⟩, 0, false⟩, lessL c n] ++ B = A ++ ([lessL o n] ++ ([⟨⟨0, 0, false, false, madeL k M⟩, 0, false⟩] ++ ([lessL c n] ++ B))) := by simp
  rw [e1, e2]
  have w1 : totW (A ++ ([o] ++ (M ++ ([c] ++ B)))) = totW A + (2 * o.left + (totW M + (2 * c.left + totW B))) := by
    simp only [totW_append, totW_one]
    unfold wtP
    rw [if_neg (by rw [hs]; exact hs0), if_neg hs0]
  have w2 : totW (A ++ ([lessL o n] ++ ([⟨⟨0, 0, false, false, madeL k M⟩, 0, false⟩] ++ ([lessL c n] ++ B)))) = totW A + (2 * (o.left - n) + (wtL (madeL k M) + (2 * (c.left - n) + totW B))) := by
    simp only [totW_append, totW_one]
    unfold wtP lessL
    simp only
    rw [if_neg (by rw [hs]; exact hs0), if_neg hs0, if_pos trivial]
  have hm := made_wt k M
  rw [w1, w2]
  omega
theorem step_tot (p : List Piece) (i : Nat) (hi : i < p.length) : totW (groupStep p i).1 ≤ totW p := by
  unfold groupStep
  split
  · exact Nat.le_refl _
  · rename_i hid
    have hni := not_idle hid
    split
    · have hsp := getD_split p noPiece i hi
      have e2 : totW (p.set i { (p.getD i noPiece) with shut := true }) = totW p := by
        conv => rhs; rw [hsp]
        rw [List.set_eq_take_append_cons_drop, if_pos hi, show p.getD i noPiece :: p.drop (i + 1) = [p.getD i noPiece] ++ p.drop (i + 1) from rfl, show ({ (p.getD i noPiece) with shut := true } : Piece) :: p.drop (i + 1) = [({ (p.getD i noPiece) with shut := true } : Piece)] ++ p.drop (i + 1) from rfl]
        simp only [totW_append, totW_one]
        rfl
      rw [e2]; exact Nat.le_refl _
    · rename_i f hf
      obtain ⟨hfi, hp⟩ := opener_pairs p _ i f hf
      obtain ⟨hs, ho⟩ := pairs_facts hp
      have hsp := pair_split p f i hfi hi
      have := pair_tot (p.take f) ((p.take i).drop (f + 1)) (p.drop (i + 1)) (p.getD f noPiece) (p.getD i noPiece) (pairK (p.getD f noPiece) (p.getD i noPiece)) hs hni.1 ho hni.2.2.2
      rw [← hsp] at this
      exact this
theorem go_tot : ∀ (f : Nat) (p : List Piece) (i : Nat), totW (groupGo f p i) ≤ totW p
  | 0, p, i => Nat.le_refl _
  | f + 1, p, i => by
    rw [groupGo]
    split
    · exact Nat.le_refl _
    · exact Nat.le_trans (go_tot f _ _) (step_tot p i (by omega))
theorem mergeStep_wt (out : List Inl) (x : Inl) : wtL (mergeStep out x) ≤ wtL out + (x.text.length + 1) := by
  have hw : (wordsOnly x).text = x.text := by unfold wordsOnly; split <;> rfl
  have h1 : ∀ y : Inl, wtL [y] = y.text.length + 1 := fun y => by simp [wtL]
  unfold mergeStep
  split
  · omega
  · split
    · rename_i t ht
      split
      · have h := congrArg wtL (last_split ht)
        rw [wtL_append, h1] at h
        rw [wtL_append, h1]
        simp only [List.length_append]
        omega
      · rw [wtL_append, h1, hw]; omega
    · rw [wtL_append, h1, hw]; omega
theorem merge_wt : ∀ (l out : List Inl), wtL (l.foldl mergeStep out) ≤ wtL out + wtL l
  | [], out => by simp
  | x :: l, out => by
    rw [List.foldl_cons]
    have h1 := merge_wt l (mergeStep out x)
    have h2 := mergeStep_wt out x
    have h3 : wtL (x :: l) = x.text.length + 1 + wtL l := by rw [show x :: l = [x] ++ l from rfl, wtL_append]; simp [wtL]
    omega
theorem group_wt (l : List IItem) : wtL (groupL l) ≤ itsW l := by
  have h1 := merge_wt ((groupP (piecesOf l)).flatMap Piece.nodes) []
  have h2 := wt_flat (groupP (piecesOf l))
  have h3 := go_tot (signsOf (piecesOf l) + (piecesOf l).length + 1) (piecesOf l) 0
  rw [itsW_tot] at h3
  unfold groupL mergeL
  unfold groupP at h1 h2 ⊢
  simp only [wtL, List.map_nil, List.sum_nil, Nat.zero_add] at h1 h2 ⊢
  omega
theorem text_wt : ∀ l : List Inl, (textL l).length ≤ wtL l
  | [] => by simp [textL, wtL]
  | x :: l => by
    rw [show x :: l = [x] ++ l from rfl, wtL_append]
    have h : textL ([x] ++ l) = textOf x ++ textL l := by unfold textL; simp
    rw [h, List.length_append]
    have h2 := text_wt l
    have h3 : (textOf x).length ≤ x.text.length + 1 := by
      unfold textOf
      split
      · omega
      · split <;> simp
    have h4 : wtL [x] = x.text.length + 1 := by simp [wtL]
    omega

/-! ### a token's step -/
structure PInv (W k i : Nat) (st : PSt) : Prop where
  wt : itsW st.items ≤ k * W
  len : st.items.length ≤ k
  olen : st.opens.length ≤ k
  nest : ItemsNest st.items
  zero : Zero st.items
  srt : st.opens.Pairwise (fun a b => a.at' < b.at')
  opn : ∀ o ∈ st.opens, o.at' < st.items.length ∧ o.fin ≤ i

theorem PInv.start (W : Nat) : PInv W 0 0 ⟨[], []⟩ := ⟨by simp [itsW], Nat.le_refl _, Nat.le_refl _, fun x hx => by simp at hx, fun x hx => by simp at hx, List.Pairwise.nil, fun o ho => by simp at ho⟩
theorem PInv.later {W k i j : Nat} {st : PSt} (h : PInv W k i st) (hij : i ≤ j) : PInv W k j st := { h with opn := fun o ho => ⟨(h.opn o ho).1, Nat.le_trans (h.opn o ho).2 hij⟩ }
theorem PInv.more {W k i : Nat} {st : PSt} (h : PInv W k i st) : PInv W (k + 1) i st := { h with wt := Nat.le_trans h.wt (Nat.mul_le_mul_right _ (Nat.le_succ _)), len := Nat.le_succ_of_le h.len, olen := Nat.le_succ_of_le h.olen }

theorem zero_put (l : List Inl) : Zero [⟨0, 0, false, false, l⟩] := fun x hx => by simp at hx; rw [hx]; exact ⟨fun _ => rfl, fun h => absurd rfl h⟩
/-- What is put in behind. -/
theorem PInv.put {W k i : Nat} {st : PSt} (h : PInv W k i st) {l : List Inl} (hl : Nest l) (hw : wtL l ≤ W) : PInv W (k + 1) i (st.put l) := by
  have e : (st.put l).items = st.items ++ [⟨0, 0, false, false, l⟩] := rfl
  refine ⟨?_, by rw [e]; simp; exact h.len, Nat.le_succ_of_le h.olen, put_nest h.nest hl, ?_, h.srt, fun o ho => ⟨?_, (h.opn o ho).2⟩⟩
  · rw [e, itsW_append, itsW_one, Nat.add_mul]
    have := h.wt
    have h2 : itW ⟨0, 0, false, false, l⟩ = wtL l := rfl
    omega
  · rw [e]; exact h.zero.append (zero_put l)
  · have := (h.opn o ho).1
    rw [e]; simp; omega
/-- What is put in the place of all that stands from a bracket on. -/
theorem PInv.cut {W k i : Nat} {st : PSt} (h : PInv W k i st) (a : Nat) (ha : a ≤ st.items.length) (hop : ∀ o ∈ st.opens, o.at' < a) {l : List Inl} (hl : Nest l) (hw : wtL l ≤ itsW (st.items.drop (a + 1)) + W) : PInv W (k + 1) i (PSt.put { st with items := st.items.take a } l) := by
  have e : (PSt.put { st with items := st.items.take a } l).items = st.items.take a ++ [⟨0, 0, false, false, l⟩] := rfl
  have hz : (st.items.take a).length = a := by simp; omega
  refine ⟨?_, by rw [e, List.length_append, hz]; have := h.len; simp; omega, Nat.le_succ_of_le h.olen, ?_, ?_, h.srt, fun o ho => ⟨?_, (h.opn o ho).2⟩⟩
  · rw [e, itsW_append, itsW_one, Nat.add_mul]
    have := h.wt
    have h1 := itsW_cut st.items a
    have h3 : itsW (st.items.drop (a + 1)) ≤ itsW (st.items.drop a) := by
      have := itsW_cut (st.items.drop a) 1
      rw [List.drop_drop] at this
      omega
    have h2 : itW ⟨0, 0, false, false, l⟩ = wtL l := rfl
    omega
  · exact put_nest (st := { st with items := st.items.take a }) (h.nest.take a) hl
  · rw [e]; exact (h.zero.take a).append (zero_put l)
  · have := hop o ho
    rw [e, List.length_append, hz]; simp; omega
theorem PInv.opens {W k i : Nat} {st : PSt} (h : PInv W k i st) {f : Opn → Opn} (hf : ∀ o, (f o).at' = o.at' ∧ (f o).fin = o.fin) : PInv W k i { st with opens := st.opens.map f } := by
  refine { h with olen := by show (st.opens.map f).length ≤ k; rw [List.length_map]; exact h.olen, srt := ?_, opn := ?_ }
  · refine List.Pairwise.map f (fun a b hab => ?_) h.srt
    rw [(hf a).1, (hf b).1]; exact hab
  · intro o ho
    obtain ⟨x, hx, rfl⟩ := List.mem_map.1 ho
    rw [(hf x).1, (hf x).2]
    exact h.opn x hx
theorem PInv.pop {W k i : Nat} {st : PSt} (h : PInv W k i st) : PInv W k i { st with opens := st.opens.dropLast } :=
  { h with olen := by show st.opens.dropLast.length ≤ k; rw [List.length_dropLast]; have := h.olen; omega, srt := h.srt.sublist (List.dropLast_sublist _), opn := fun o ho => h.opn o ((List.dropLast_sublist _).subset ho) }

theorem find_name (t : Option (List DefL)) (x : List UInt8) (note : Bool) : (findL t x note).1.name.length ≤ 60 := by
  unfold findL
  split
  · simp [DefL.none]
  · rename_i ds
    split
    · simp [DefL.none]
    · rename_i hn
      split
      · rename_i d hd
        have h1 := List.find?_some hd
        simp at h1
        have h2 : (nameL x).1.length ≤ 60 := by
          unfold nameL at hn ⊢
          split
          · simp
          · split
            · simp
            · rename_i hno; show (fold x).length ≤ 60; omega
        rw [h1.1]; exact h2
      · simp [DefL.none]
theorem asked_len (t : Option (List DefL)) (x : List UInt8) : (askedL t x).1.text.length ≤ x.length + 60 := by
  unfold askedL
  have h1 := find_name t (preAt 94 x).1 true
  have h2 := preAt_len 35 x
  split
  · simp only; omega
  · split
    · simp [noInl]
    · simp only; omega
theorem link_text (t : Option (List DefL)) (x b : List UInt8) : (inlLinkL t x b).1.text = [] := by
  unfold inlLinkL; split <;> rfl
theorem inside_le (l : List UInt8) : (inside l).2.2.1 ≤ l.length := by
  have key : ∀ (z : Nat) (a b : List UInt8), (if l[z]? = some 41 then (a, b, z + 1, true) else (([] : List UInt8), ([] : List UInt8), 0, false)).2.2.1 ≤ l.length := by
    intro z a b
    split
    · rename_i hz
      have := (List.getElem?_eq_some_iff.1 hz).1
      simp only; omega
    · exact Nat.zero_le _
  unfold inside
  by_cases h : l.head? = some 40
  · rw [if_pos h]
    exact key _ _ _
  · rw [if_neg h]
    exact Nat.zero_le _
theorem link_len (t : Option (List DefL)) (x b : List UInt8) : (inlLinkL t x b).2.1 ≤ b.length + 2 := by
  unfold inlLinkL
  split
  · have := inside_le b; simp only; omega
  · simp only
    unfold nameBehind
    split
    · simp only
      have h1 := cut_len 93 (preAt 91 b).1
      have h2 := preAt_len 91 b
      omega
    · exact Nat.zero_le _

/-- A bracket that closes: what stays bounded. -/
theorem closeOpen_inv {W k i : Nat} {st : PSt} (t : Option (List DefL)) (s : List UInt8) (o : Opn) (next : Nat) (h : PInv W k i st) (ho : o.at' < st.items.length) (hop : ∀ a ∈ st.opens, a.at' < o.at') (hW : s.length + 100 ≤ W) :
    PInv W (k + 1) i (closeOpen t s st o i next).1 ∧ (closeOpen t s st o i next).2 ≤ s.length + 2 := by
  have hx : ((s.take i).drop o.fin).length ≤ s.length := by rw [List.length_drop, List.length_take]; omega
  have hl := link_kind t ((s.take i).drop o.fin) (s.drop next)
  have hlt := link_text t ((s.take i).drop o.fin) (s.drop next)
  have hln := link_len t ((s.take i).drop o.fin) (s.drop next)
  rw [List.length_drop] at hln
  have hgw := group_wt (st.items.drop (o.at' + 1))
  have hw1 : wtL [wordsI [93]] ≤ W := by simp [wtL, wordsI]; omega
  unfold closeOpen
  split
  · exact ⟨h.put (words_nest _) hw1, Nat.zero_le _⟩
  · split
    · rename_i ha
      have hal := asked_len t ((s.take i).drop o.fin)
      exact ⟨h.cut o.at' (by omega) hop (asked_nest t _ ha.1) (by simp only [wtL, List.map_cons, List.map_nil, List.sum_cons, List.sum_nil] at *; omega), Nat.zero_le _⟩
    · split
      · exact ⟨h.put (words_nest _) hw1, Nat.zero_le _⟩
      · split
        · refine ⟨h.cut o.at' (by omega) hop (Nest.one hl.2 ⟨by show 1 ≤ 6; decide, by show 6 ≤ 12; decide⟩) ?_, by simp only; omega⟩
          have := text_wt (groupL (st.items.drop (o.at' + 1)))
          simp only [wtL, List.map_cons, List.map_nil, List.sum_cons, List.sum_nil] at *
          omega
        · refine ⟨PInv.opens (h.cut o.at' (by omega) hop (Nest.within hl.2 (by rw [hl.1]; rfl) ⟨by rw [hl.1]; decide, by rw [hl.1]; decide⟩ (group_nest (h.nest.drop _)).2) ?_) (fun o => ⟨rfl, rfl⟩), by simp only; omega⟩
          rw [show ∀ (y : Inl) (l : List Inl), y :: l = [y] ++ l from fun _ _ => rfl, wtL_append, wtL_deeper]
          have : wtL [(inlLinkL t ((s.take i).drop o.fin) (s.drop next)).1] = 1 := by simp [wtL, hlt]
          omega
theorem getLast_split {α : Type} {l : List α} {x : α} (h : l.getLast? = some x) : l = l.dropLast ++ [x] := by
  obtain ⟨ys, rfl⟩ := List.getLast?_eq_some_iff.1 h
  simp
theorem close_inv {W k i : Nat} {st : PSt} (t : Option (List DefL)) (s : List UInt8) (next : Nat) (h : PInv W k i st) (hW : s.length + 100 ≤ W) :
    PInv W (k + 1) i (closeL t s st i next).1 ∧ (closeL t s st i next).2 ≤ s.length + 2 := by
  unfold closeL
  split
  · exact ⟨h.put (words_nest _) (by simp [wtL, wordsI]; omega), Nat.zero_le _⟩
  · rename_i o ho
    have hsp := getLast_split ho
    have hmem : o ∈ st.opens := by rw [hsp]; simp
    refine closeOpen_inv t s o next h.pop (h.opn o hmem).1 (fun a ha => ?_) hW
    have := h.srt
    rw [hsp] at this
    exact (List.pairwise_append.1 this).2.2 a ha o (by simp)

theorem restore_len (T : Nat) (ts : List AtomT) (hts : ∀ a ∈ ts, a.text.length ≤ T) : ∀ (f : Nat) (l : List UInt8), (restoreGo f l ts).length ≤ l.length * (T + 1)
  | 0, l => by simp [restoreGo]
  | f + 1, [] => by simp [restoreGo]
  | f + 1, c :: l => by
    have h1 := restore_len T ts hts f l
    have e : (c :: l).length * (T + 1) = l.length * (T + 1) + (T + 1) := by rw [List.length_cons, Nat.add_mul]; omega
    unfold restoreGo
    split
    · split
      · rename_i n m hn
        have hm := (next_le (c :: l) (by simp)).1
        rw [hn] at hm
        simp only at hm
        have h2 := restore_len T ts hts f ((c :: l).drop m)
        have h3 : ((c :: l).drop m).length ≤ l.length := by rw [List.length_drop, List.length_cons]; omega
        have h4 := Nat.mul_le_mul_right (T + 1) h3
        rw [List.length_append]
        split
        · rename_i a ha; have := hts a (List.mem_of_getElem? ha); omega
        · simp only [List.length_nil]; omega
      · rw [List.length_cons]; omega
    · rw [List.length_cons]; omega

/-- What a token may weigh, for a text of S bytes and atoms of T; what lies in an atom weighs A at most. -/
def tokB (S T A : Nat) : Nat := (S + 4) * (T + 1) + 2 * S + T + A + 200
theorem token_inv {S T A k i : Nat} {st : PSt} (t : Option (List DefL)) (s : List UInt8) (ts : List AtomT) (P : List UInt8 → List Inl) (hs : s.length ≤ S) (hts : ∀ a ∈ ts, a.text.length ≤ T ∧ a.label.length ≤ T) (hP : ∀ a ∈ ts, wtL (P a.text) ≤ A ∧ Nest (P a.text))
    (tk : Tok) (next : Nat) (hi : i ≤ next) (htk : TokOk (s.length + 4) tk) (h : PInv (tokB S T A) k i st) :
    PInv (tokB S T A) (k + 1) next (tokenL t s ts P st tk i next).1 ∧ next ≤ (tokenL t s ts P st tk i next).2 ∧ (tokenL t s ts P st tk i next).2 ≤ next + s.length + 2 := by
  have hone : ∀ y : Inl, wtL [y] = y.text.length + 1 := fun y => by simp [wtL]
  obtain ⟨hw, hr⟩ := htk
  have hbase : S + 4 ≤ (S + 4) * (T + 1) := Nat.le_mul_of_pos_right _ (by omega)
  have hB : tokB S T A = (S + 4) * (T + 1) + 2 * S + T + A + 200 := rfl
  have fin : ∀ {st' : PSt}, PInv (tokB S T A) (k + 1) i st' → PInv (tokB S T A) (k + 1) next st' := fun h => h.later hi
  unfold tokenL
  cases tk with
  | word l => exact ⟨fin (h.put (words_nest _) (by rw [hone]; simp only [wordsI, tokW] at *; omega)), Nat.le_refl _, by simp only; omega⟩
  | code l =>
    refine ⟨fin (h.put (Nest.one rfl (kOk 2 rfl rfl)) ?_), Nat.le_refl _, by simp only; omega⟩
    rw [hone]
    have h1 := restore_len T ts (fun a ha => (hts a ha).1) (l.length + 1) l
    have h2 := Nat.mul_le_mul_right (T + 1) (show l.length ≤ S + 4 by simp only [tokW] at hw; omega)
    show (restoreL l ts).length + 1 ≤ _
    unfold restoreL
    omega
  | tag l => exact ⟨fin (h.put (Nest.one rfl (kOk 9 rfl rfl)) (by rw [hone]; simp only [tokW] at *; omega)), Nat.le_refl _, by simp only; omega⟩
  | auto u x =>
    refine ⟨fin (h.put (Nest.within rfl rfl (kOk 5 rfl rfl) (words_nest _)) ?_), Nat.le_refl _, by simp only; omega⟩
    unfold withinL
    rw [show ∀ (y : Inl) (l : List Inl), y :: l = [y] ++ l from fun _ _ => rfl, wtL_append, wtL_deeper, hone, hone]
    simp only [wordsI, tokW, List.length_nil] at *
    omega
  | brk b => exact ⟨fin (h.put (Nest.one rfl (by cases b <;> exact ⟨by decide, by decide⟩)) (by rw [hone]; simp only [List.length_nil]; omega)), Nat.le_refl _, by simp only; omega⟩
  | atom n =>
    simp only
    split
    · rename_i a ha
      have hm := List.mem_of_getElem? ha
      refine ⟨fin (h.put (Nest.within rfl rfl (kOk 12 rfl rfl) (hP a hm).2) ?_), Nat.le_refl _, by omega⟩
      unfold withinL
      rw [show ∀ (y : Inl) (l : List Inl), y :: l = [y] ++ l from fun _ _ => rfl, wtL_append, wtL_deeper, hone]
      have h1 := (hts a hm).2
      have h2 := (hP a hm).1
      simp only
      omega
    · exact ⟨fin h.more, Nat.le_refl _, by omega⟩
  | run c n =>
    have hc := hr c n rfl
    refine ⟨fin ⟨?_, ?_, Nat.le_succ_of_le h.olen, ?_, ?_, h.srt, fun o ho => ⟨?_, (h.opn o ho).2⟩⟩, Nat.le_refl _, by simp only; omega⟩
    · simp only
      rw [itsW_append, itsW_one, Nat.add_mul]
      have := h.wt
      unfold itW
      simp only
      rw [if_neg hc]
      simp only [tokW] at hw
      omega
    · simp only [List.length_append, List.length_cons, List.length_nil]; have := h.len; omega
    · refine ItemsNest.append h.nest fun x hx => ?_
      simp at hx; rw [hx]; exact Nest.nil
    · refine h.zero.append fun x hx => ?_
      simp at hx; rw [hx]; exact ⟨fun h => absurd h hc, fun _ => rfl⟩
    · have := (h.opn o ho).1
      simp only [List.length_append, List.length_cons, List.length_nil]; omega
  | mark l =>
    simp only
    split
    · have hci := close_inv t s next h (by omega)
      exact ⟨fin hci.1, by simp only; omega, by simp only; omega⟩
    · have hlw : wtL [wordsI l] ≤ tokB S T A := by rw [hone]; simp only [wordsI, tokW] at *; omega
      have hput := (h.later hi).put (words_nest l) hlw
      refine ⟨⟨hput.wt, hput.len, ?_, hput.nest, hput.zero, ?_, ?_⟩, Nat.le_refl _, by simp only; omega⟩
      · show (st.opens ++ [_]).length ≤ _
        rw [List.length_append]; have := h.olen; simp; omega
      · show (st.opens ++ [_]).Pairwise _
        refine List.pairwise_append.2 ⟨h.srt, List.pairwise_singleton _ _, fun a ha b hb => ?_⟩
        simp at hb
        rw [hb]
        exact (h.opn a ha).1
      · intro o ho
        have e : (PSt.put { st with opens := st.opens ++ [⟨st.items.length, next, decide (l = [33, 91]), false⟩] } [wordsI l]).items.length = st.items.length + 1 := by unfold PSt.put; simp
        rw [e]
        rcases List.mem_append.1 ho with ho | ho
        · have := h.opn o ho; exact ⟨by omega, by omega⟩
        · simp at ho; rw [ho]; exact ⟨Nat.lt_succ_self _, Nat.le_refl _⟩

end Go.Proofs.YtahljcbmckldhaaGreatDoor

/-
  inline.parser: its state in memory; put, words.
-/
namespace Go.Proofs.YtahljcbmckldhaaGreatDoor
open Go.RowKit
set_option maxRecDepth 100000
set_option linter.unusedVariables false
set_option linter.unusedSimpArgs false

def opnCells (o : Opn) : List Value := [.int .i64 (o.at' : Int), .int .i64 (o.fin : Int), .bool o.image, .bool o.shut]
theorem opn_len (o : Opn) : (opnCells o).length = 4 := rfl
theorem infoOpn : (Tryz.prog.info? 101).map (fun i => (i.zero, i.size, i.bytes)) = some (some (.agg #[.int .i64 0, .int .i64 0, .bool false, .bool false]), 4, 24) := by kernel_rfl

/-- The items of a parser: where they lie, and where their nodes lie. -/
def ItsAt (w : World) (B0 : Nat) (iv : Value) (its : List ItemV) : Prop := w.ownsRow B0 95 5 iv its.length (its.flatMap itemCells) ∧ ∀ x ∈ its, InlsAt w x.2 x.1.l
def OpsAt (w : World) (B0 : Nat) (ov : Value) (l : List Opn) : Prop := w.ownsRow B0 101 4 ov l.length (l.flatMap opnCells)
/-- A parser whose state is the plain one. -/
def StAt (w : World) (B0 P : Nat) (s : ByteArray) (av tv : Value) (st : PSt) : Prop :=
  ∃ iv ov its, ParAt w P s av tv iv ov ∧ ItsAt w B0 iv its ∧ itemsV its = st.items ∧ OpsAt w B0 ov st.opens

theorem ItsAt.below {w w' : World} {B0 : Nat} {iv : Value} {its : List ItemV} (h : ItsAt w B0 iv its) (hb : Below w.heap.size w w') : ItsAt w' B0 iv its := ⟨own_below h.1 hb, fun x hx => (h.2 x hx).below hb⟩
theorem StAt.below {w w' : World} {B0 P : Nat} {s : ByteArray} {av tv : Value} {st : PSt} (h : StAt w B0 P s av tv st) (hb : Below w.heap.size w w') : StAt w' B0 P s av tv st := by
  obtain ⟨iv, ov, its, h1, h2, h3, h4⟩ := h
  exact ⟨iv, ov, its, h1.below hb, h2.below hb, h3, own_below h4 hb⟩
theorem itemsV_len (its : List ItemV) : (itemsV its).length = its.length := by unfold itemsV; simp
theorem itemsV_append (a b : List ItemV) : itemsV (a ++ b) = itemsV a ++ itemsV b := by unfold itemsV; simp
theorem par_lt {w : World} {P : Nat} {s : ByteArray} {av tv iv ov : Value} (h : ParAt w P s av tv iv ov) : P < w.heap.size := (Array.getElem?_eq_some_iff.1 h).1
theorem par_grown {w w' : World} {P : Nat} {s : ByteArray} {av tv iv ov : Value} (h : ParAt w P s av tv iv ov) {base n size : Nat} {e : TypeId} {v : Value} {xs : List Value} (ho : w.ownsRow base e size v n xs) (he : e ≠ 57) (hg : w.grownBy w' v.ownBlock) : ParAt w' P s av tv iv ov := by
  unfold ParAt
  rw [hg.block P (par_lt h) (own_other ho h he)]
  exact h
theorem par_set3 {w : World} {P : Nat} {s : ByteArray} {av tv iv ov : Value} (h : ParAt w P s av tv iv ov) (u : Value) : ParAt (w.setCell ⟨P, 3, none⟩ u) P s av tv u ov := by
  have := heap_setCell_same w P 3 _ _ u h
  exact this
theorem par_set4 {w : World} {P : Nat} {s : ByteArray} {av tv iv ov : Value} (h : ParAt w P s av tv iv ov) (u : Value) : ParAt (w.setCell ⟨P, 4, none⟩ u) P s av tv iv u := by
  have := heap_setCell_same w P 4 _ _ u h
  exact this
theorem InlsAt.keptI {w w' : World} {v : Value} {l : List Inl} (h : InlsAt w v l) {base : Nat} {u : Value} {n : Nat} {xs : List Value} (hu : w.ownsRow base 95 5 u n xs) (hg : w.grownBy w' u.ownBlock) : InlsAt w' v l :=
  World.ownsRow.kept h hg (own_apart h hu (by decide))

/-- What is not of a kind, nor of a block, stays. -/
def KeptBut (T0 : TypeId) (P : Nat) (w w' : World) : Prop := ∀ (k : Nat) (cs : Array Value) (T : TypeId), w.heap[k]? = some (.cells cs T (0, 0)) → T ≠ T0 → k ≠ P → w'.heap[k]? = w.heap[k]?
theorem KeptBut.cell {T0 : TypeId} {P : Nat} {w w' : World} (h : KeptBut T0 P w w') {k : Nat} {cs : Array Value} {T : TypeId} (hk : w.heap[k]? = some (.cells cs T (0, 0))) (hT : T ≠ T0) (hP : k ≠ P) (j : Nat) : w'.cell? ⟨k, j, none⟩ = w.cell? ⟨k, j, none⟩ := by
  unfold World.cell?
  rw [h k cs T hk hT hP]
set_option maxHeartbeats 4000000 in
theorem put_keep (B0 P : Nat) (s : ByteArray) (av tv v : Value) (st : PSt) (l : List Inl) (w : World) (hP0 : B0 ≤ P) (h : StAt w B0 P s av tv st) (hl : InlsAt w v l) (hn : st.items.length ≤ 1000000000) :
    Calls Tryz.prog 25 #[.pointer (some ⟨P, 0, none⟩), v] w fun e w' => e = .returned (.tuple #[]) ∧ StAt w' B0 P s av tv (st.put l) ∧ Below B0 w w' ∧ KeptBut 95 P w w' := by
  obtain ⟨i0, hi, hz0, hz1, hz2⟩ := info_parts infoItem
  obtain ⟨iv, ov, its, hP, ⟨hO, hN⟩, hI, hV⟩ := h
  have hBs : B0 ≤ w.heap.size := Nat.le_trans hP0 (Nat.le_of_lt (par_lt hP))
  have hnl : its.length ≤ 1000000000 := by rw [← itemsV_len, hI]; exact hn
  obtain ⟨lao, lc, hlv, _⟩ := own_slice hl
  subst hlv
  obtain ⟨iao, ic, hiv, _⟩ := own_slice hO
  subst hiv
  obtain ⟨p0, p1, p2, p3, p4⟩ := ParAt.cells hP
  have hlit := (Below.refl w.heap.size w).alloc (Nat.le_refl _) (.cells #[.int .u8 0, .int .i64 0, .bool false, .bool false, .slice lao l.length lc] 95)
  have hH := Lib.hid (And.intro hP (And.intro hO (And.intro hN (And.intro hV (And.intro hl (And.intro hI hlit))))))
  clear hP hN hV hl hI hlit p0 p1 p2 p4
  go_enter Tryz.func25, Tryz.ntmps25
  go_wp2_with (first
    | (at_builtin; refine wpList_append_own _ rfl _ _ 54 rfl B0 95 i0 (.agg #[.int .u8 0, .int .i64 0, .bool false, .bool false, .slice none 0 0]) 5 48 Tryz.underlying54 hi hz0 hz1 hz2 rfl (by decide) _ _ _ rfl (hO.alloc _) ⟨w.heap.size, 0, none⟩ 1 1 [.int .u8 0, .int .i64 0, .bool false, .bool false, .slice lao l.length lc] rfl rfl ?c1 ?c2 ?c3 ?c4 ?c5 ?_))
  case c1 => exact cells_new _ _ _ _ (by simp)
  case c2 => intro u hu; simp at hu; rcases hu with rfl | rfl | rfl | rfl | rfl <;> rfl
  case c3 => unfold maxLen; omega
  case c4 => omega
  case c5 => simp; omega
  intro v' w4 hown4 hgrow _
  obtain ⟨hP, hO', hN, hV, hl, hI, hlit⟩ := hH.out
  have hP1 := hP.below hlit
  have hO1 := own_below hO hlit
  have hP4 := par_grown hP1 hO1 (by decide) hgrow
  have hN4 : ∀ x ∈ its, InlsAt w4 x.2 x.1.l := fun x hx => ((hN x hx).below hlit).keptI hO1 hgrow
  have hl4 := (hl.below hlit).keptI hO1 hgrow
  have hV4 : OpsAt w4 B0 ov st.opens := World.ownsRow.kept (own_below hV hlit) hgrow (own_apart (own_below hV hlit) hO1 (by decide))
  have hB4 := ((Below.refl B0 w).alloc hBs (.cells #[.int .u8 0, .int .i64 0, .bool false, .bool false, .slice lao l.length lc] 95)).grown hgrow (by simp; omega) (fun j hj => (hO1.lt j hj).1)
  have hK : ∀ (k : Nat) (cs : Array Value) (T : TypeId), w.heap[k]? = some (.cells cs T (0, 0)) → T ≠ 95 → w4.heap[k]? = w.heap[k]? := fun k cs T hk hT => by
    have hk1 := (hlit.block k (Array.getElem?_eq_some_iff.1 hk).1).trans hk
    rw [hgrow.block k (Array.getElem?_eq_some_iff.1 hk1).1 (own_other hO1 hk1 (Ne.symm hT)), hk1, hk]
  have HK := Lib.hid hK
  clear hK
  obtain ⟨vao, vc, hvv, _⟩ := own_slice hown4
  subst hvv
  obtain ⟨p0, p1, p2, p3, p4⟩ := ParAt.cells hP4
  have f3 := ParAt.frozen hP4 3
  have HF := Lib.hid (And.intro hP4 (And.intro hN4 (And.intro hl4 (And.intro hV4 (And.intro hB4 (And.intro hI hown4))))))
  clear hP hO' hN hV hl hI hlit hP1 hO1 hP4 hN4 hl4 hV4 hB4 hown4 hgrow hH hO p0 p1 p2 p4
  go_wp2_with fail
  go_end0
  obtain ⟨hP4, hN4, hl4, hV4, hB4, hI, hown4⟩ := HF.out
  refine ⟨rfl, ⟨_, ov, its ++ [(⟨0, 0, false, false, l⟩, .slice lao l.length lc)], par_set3 hP4 _, ⟨?_, ?_⟩, ?_, ?_⟩, hB4.setCell (p := ⟨P, 3, none⟩) hP0 _, fun k cs T hk hT hP => by rw [Below.heap_setCell _ _ _ _ hP]; exact HK.out k cs T hk hT⟩
  · refine own_setCell (a := ⟨P, 3, none⟩) ?_ hP4 (by decide) _
    rw [List.length_append, List.flatMap_append]
    exact hown4
  · intro x hx
    rcases List.mem_append.1 hx with hx | hx
    · exact (hN4 x hx).setCell (a := ⟨P, 3, none⟩) hP4 (by decide) _
    · simp at hx
      subst hx
      exact hl4.setCell (a := ⟨P, 3, none⟩) hP4 (by decide) _
  · rw [itemsV_append, hI]; rfl
  · exact own_setCell (a := ⟨P, 3, none⟩) hV4 hP4 (by decide) _

theorem put_any (B0 P : Nat) (s : ByteArray) (av tv v : Value) (st : PSt) (l : List Inl) (w : World) (hP0 : B0 ≤ P) (h : StAt w B0 P s av tv st) (hl : InlsAt w v l) (hn : st.items.length ≤ 1000000000) :
    Calls Tryz.prog 25 #[.pointer (some ⟨P, 0, none⟩), v] w fun e w' => e = .returned (.tuple #[]) ∧ StAt w' B0 P s av tv (st.put l) ∧ Below B0 w w' :=
  (put_keep B0 P s av tv v st l w hP0 h hl hn).mono fun e w' ⟨h1, h2, h3, _⟩ => ⟨h1, h2, h3⟩

theorem words_any (s : ByteArray) (w : World) :
    Calls Tryz.prog 26 #[.string s] w fun e w' => e = .returned (wordsI s.data.toList).val ∧ Below w.heap.size w w' := by
  go_enter Tryz.func26, Tryz.ntmps26
  go_wp2_with fail
  refine bodyPost_ret (v := .agg #[.int .i64 1, .int .i64 0, .string s, .string ⟨#[]⟩, .string ⟨#[]⟩]) (by simp [results, Tryz.results26, go_sem]) rfl ⟨?_, ?_⟩
  · unfold wordsI Inl.val; simp only [Lib.mk_data]; rfl
  · exact (Below.refl _ w).alloc (Nat.le_refl _) _

end Go.Proofs.YtahljcbmckldhaaGreatDoor

/-
  inline: what a token may be, of which byte it begins with; Restore in plain lists.
-/
namespace Go.Proofs.YtahljcbmckldhaaGreatDoor
open Go.RowKit
set_option maxRecDepth 100000
set_option linter.unusedVariables false
set_option linter.unusedSimpArgs false

theorem next_zero (l : List UInt8) : (∃ n m, nextL (0 :: l) = (.atom n, m) ∧ 0 < m ∧ m ≤ (0 :: l).length) ∨ (∃ x m, nextL (0 :: l) = (.word x, m)) := by
  have hb : beginsL (0 :: l) = atomL (0 :: l) := by unfold beginsL; rfl
  unfold nextL
  rw [hb]
  cases ha : atomL (0 :: l) with
  | none => exact Or.inr ⟨_, _, rfl⟩
  | some r =>
    obtain ⟨t, m⟩ := r
    have hm := atom_le ha
    left
    unfold atomL at ha
    split at ha
    · cases ha
    · split at ha
      · injection ha with ha
        injection ha with h1 h2
        exact ⟨_, m, by rw [← h1], hm⟩
      · cases ha

theorem mkCodeGo (s : List UInt8) (n : Nat) (x : List UInt8) : ∀ (f i m : Nat), codeGo f s n i ≠ (.mark x, m)
  | 0, i, m => by intro h; simp [codeGo] at h
  | f + 1, i, m => by
    rw [codeGo]
    split
    · intro h; simp at h
    · split
      · intro h; simp at h
      · exact mkCodeGo s n x f _ m
theorem mkAuto {s x : List UInt8} {m : Nat} : autoL s ≠ some (.mark x, m) := by
  intro h
  unfold autoL at h
  split at h
  · cases h
  · split at h
    · cases h
    · split at h
      · split at h
        · simp at h
        · cases h
      · cases h
theorem mkMail {s x : List UInt8} {m : Nat} : mailL s ≠ some (.mark x, m) := by
  intro h
  unfold mailL at h
  split at h
  · cases h
  · split at h
    · split at h
      · cases h
      · split at h
        · simp at h
        · cases h
    · cases h
theorem mkTagAt {s x : List UInt8} {a m : Nat} : tagAt s a ≠ some (.mark x, m) := by
  intro h
  unfold tagAt at h
  split at h
  · cases h
  · split at h
    · cases h
    · split at h
      · cases h
      · split at h
        · simp at h
        · cases h
theorem mkBegins {s x : List UInt8} {m : Nat} (h : beginsL s = some (.mark x, m)) : (x = [33, 91] ∧ m = 2 ∧ 2 ≤ s.length) ∨ (m = 1 ∧ 1 ≤ s.length ∧ (x = [91] ∨ x = [93])) := by
  cases s with
  | nil => cases h
  | cons c l =>
    rw [beginsL] at h
    split at h
    · unfold atomL at h
      split at h
      · cases h
      · split at h
        · simp at h
        · cases h
    · split at h
      · unfold escapedL at h
        split at h
        · cases h
        · split at h
          · simp at h
          · split at h
            · simp at h
            · cases h
      · split at h
        · split at h
          · simp at h
          · cases h
        · split at h
          · injection h with h
            unfold codeL at h
            exact absurd h (mkCodeGo _ _ _ _ _ _)
          · split at h
            · unfold angleL at h
              split at h
              · rename_i r hr
                injection h with h
                rw [h] at hr
                exact absurd hr mkAuto
              · split at h
                · rename_i r hr
                  injection h with h
                  rw [h] at hr
                  exact absurd hr mkMail
                · unfold tagL at h
                  exact absurd h mkTagAt
            · split at h
              · simp at h
              · split at h
                · split at h
                  · rename_i hh
                    injection h with h
                    injection h with h1 h2
                    injection h1 with h1
                    left
                    refine ⟨h1.symm, h2.symm, ?_⟩
                    cases l with
                    | nil => simp at hh
                    | cons d l => simp
                  · cases h
                · split at h
                  · rename_i hc
                    injection h with h
                    injection h with h1 h2
                    injection h1 with h1
                    right
                    refine ⟨h2.symm, by simp, ?_⟩
                    rcases hc with rfl | rfl
                    · exact Or.inl h1.symm
                    · exact Or.inr h1.symm
                  · split at h
                    · split at h
                      · simp at h
                      · simp at h
                    · cases h
theorem mkNext {s x : List UInt8} {m : Nat} (h : nextL s = (.mark x, m)) : (x = [33, 91] ∧ m = 2 ∧ 2 ≤ s.length) ∨ (m = 1 ∧ 1 ≤ s.length ∧ (x = [91] ∨ x = [93])) := by
  unfold nextL at h
  cases hb : beginsL s with
  | none => rw [hb] at h; simp at h
  | some r =>
    rw [hb] at h
    simp only at h
    rw [h] at hb
    exact mkBegins hb

theorem restore_fuel (ts : List AtomT) : ∀ (f g : Nat) (l : List UInt8), l.length < f → l.length < g → restoreGo f l ts = restoreGo g l ts
  | 0, g, l, h, _ => by omega
  | f + 1, 0, l, _, h => by omega
  | f + 1, g + 1, [], _, _ => by simp [restoreGo]
  | f + 1, g + 1, c :: l, hf, hg => by
    have h1 := restore_fuel ts f g l (by simp at hf; omega) (by simp at hg; omega)
    unfold restoreGo
    split
    · split
      · rename_i n m hn
        have hm := (next_le (c :: l) (by simp)).1
        rw [hn] at hm
        simp only at hm
        have h3 : ((c :: l).drop m).length ≤ l.length := by rw [List.length_drop, List.length_cons]; omega
        rw [restore_fuel ts f g ((c :: l).drop m) (by simp at hf; omega) (by simp at hg; omega)]
      · rw [h1]
    · rw [h1]
theorem restore_nil (ts : List AtomT) : restoreL [] ts = [] := rfl
theorem restore_cons {c : UInt8} {l : List UInt8} {ts : List AtomT} (hc : c ≠ 0) : restoreL (c :: l) ts = c :: restoreL l ts := by
  unfold restoreL
  rw [restoreGo, if_neg hc]
  rfl
theorem restore_word {l x : List UInt8} {m : Nat} {ts : List AtomT} (h : nextL (0 :: l) = (.word x, m)) : restoreL (0 :: l) ts = 0 :: restoreL l ts := by
  unfold restoreL
  rw [restoreGo, if_pos rfl, h]
  rfl
def atomText (ts : List AtomT) (n : Nat) : List UInt8 := match ts[n]? with | some a => a.text | none => []
theorem restore_atom {l : List UInt8} {n m : Nat} {ts : List AtomT} (h : nextL (0 :: l) = (.atom n, m)) : restoreL (0 :: l) ts = atomText ts n ++ restoreL ((0 :: l).drop m) ts := by
  have hm := (next_le (0 :: l) (by simp)).1
  rw [h] at hm
  simp only at hm
  unfold restoreL atomText
  rw [restoreGo, if_pos rfl, h]
  simp only
  rw [restore_fuel ts (0 :: l).length (((0 :: l).drop m).length + 1) ((0 :: l).drop m) (by rw [List.length_drop, List.length_cons]; omega) (by omega)]
  rfl
theorem atomText_le (ts : List AtomT) (n T : Nat) (hts : ∀ a ∈ ts, a.text.length ≤ T) : (atomText ts n).length ≤ T := by
  unfold atomText
  split
  · rename_i a ha; exact hts a (List.mem_of_getElem? ha)
  · exact Nat.zero_le _

end Go.Proofs.YtahljcbmckldhaaGreatDoor
