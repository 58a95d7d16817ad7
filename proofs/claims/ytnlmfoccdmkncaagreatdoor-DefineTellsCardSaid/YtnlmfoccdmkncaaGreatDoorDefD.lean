/-
  The texts BkDefs, Flags, Defs15, PlayMem, RfBase, RfSpace, RuneAny, RfFold, RfName, RfFind, StepApp, TabAll, one behind the other.
-/
import Derived.Test.YtnlmfoccdmkncaaGreatDoorDefC
import Derived.Deep.AppendLies
import Derived.Test.YtnlmfoccdmkncaaGreatDoorRows
import Derived.Deep.Grids
import Derived.Laws.IdiomStrings
import Derived.OpenShut
import Derived.Below
import Derived.Laws.OwnMore

/-
  bowdlerbook.Book.Defs: one more list is kept.
-/
namespace Go.Proofs.YtnlmfoccdmkncaaGreatDoor
open Go.RowKit
set_option maxRecDepth 100000
set_option linter.unusedVariables false
set_option linter.unusedSimpArgs false

def DefsPost (w : World) (B b : Nat) (L : List KeptV) (v : Value) (ds : List DefL) (e : Ending) (w' : World) : Prop := e = .returned (.tuple #[]) ∧ ∃ v', KeptB w' B b (L ++ [(v, v', ds)]) ∧ SubB w w' ∧ Below B w w' ∧ ∀ q, v'.ownBlock = some q → w.heap.size ≤ q

theorem defs_step {w : World} {B b : Nat} {L : List KeptV} {v v' dv wv : Value} {ds : List DefL} (hB : B ≤ b) (hb : BookAt w b dv wv)
    (ho1 : w.ownsRow B 40 1 dv (L.length + 1) (L.map (·.1) ++ [v])) (ho2 : w.ownsRow B 40 1 wv (L.length + 1) (L.map (·.2.1) ++ [v'])) (hap : dv.ownBlock = none ∨ dv.ownBlock ≠ wv.ownBlock)
    (hr : ∀ x ∈ L, w.ownsRow B 26 5 x.1 x.2.2.length (defCells x.2.2) ∧ w.ownsRow B 26 5 x.2.1 x.2.2.length (defCells x.2.2) ∧ x.2.2.length ≤ 1000000) (hp : L.Pairwise (fun x y => x.1.ownBlock = none ∨ x.1.ownBlock ≠ y.1.ownBlock))
    (h1 : w.ownsRow B 26 5 v ds.length (defCells ds)) (h2 : w.ownsRow B 26 5 v' ds.length (defCells ds)) (hd : ds.length ≤ 1000000) (hne : ∀ x ∈ L, x.1.ownBlock = none ∨ x.1.ownBlock ≠ v.ownBlock) : KeptB w B b (L ++ [(v, v', ds)]) := by
  refine ⟨hB, ⟨dv, wv, hb, by simpa using ho1, by simpa using ho2, hap⟩, fun x hx => ?_, ?_⟩
  · rcases List.mem_append.1 hx with hx | hx
    · exact hr x hx
    · rw [List.mem_singleton.1 hx]; exact ⟨h1, h2, hd⟩
  · rw [List.pairwise_append]
    refine ⟨hp, List.pairwise_singleton _ _, fun x hx y hy => ?_⟩
    rw [List.mem_singleton.1 hy]
    exact hne x hx

set_option maxHeartbeats 8000000 in
theorem defs_any (B b : Nat) (L : List KeptV) (ds : List DefL) (v : Value) (w : World) (hK : KeptB w B b L) (hv : w.ownsRow B 26 5 v ds.length (defCells ds)) (hne : ∀ x ∈ L, x.1.ownBlock = none ∨ x.1.ownBlock ≠ v.ownBlock)
    (hL : L.length < 250) (hd : ds.length ≤ 1000000) (hB : B ≤ w.heap.size) :
    Calls Tryz.prog 12 #[.pointer (some ⟨b, 0, none⟩), v] w (DefsPost w B b L v ds) := by
  obtain ⟨i0, hinf, hz0, hz1, hz2⟩ := info_parts info_slice
  obtain ⟨hBb, ⟨dv, wv, hbk, hod, how, hap⟩, hrows, hpair⟩ := hK
  obtain ⟨dao, dc, rfl, _⟩ := own_slice hod
  obtain ⟨wao, wc, rfl, _⟩ := own_slice how
  have c10 : w.cell? ⟨b, 10, none⟩ = some (.slice dao L.length dc) := hbk.cell 10 _ rfl
  have hLi : (L.length : Int) < 250 := by omega
  obtain ⟨vao, vc, hvv, _⟩ := own_slice hv
  have hvone : v.oneCell' = true := by rw [hvv]; rfl
  subst hvv
  have hb1 : Below w.heap.size w (w.alloc (.cells #[.slice vao ds.length vc] 40)) := (Below.refl _ w).alloc (Nat.le_refl _) _
  have H0 := Lib.hid (And.intro (hbk.below hb1) (And.intro (own_below hod hb1) (And.intro (own_below how hb1) (And.intro (fun x hx => (⟨own_below (hrows x hx).1 hb1, own_below (hrows x hx).2.1 hb1, (hrows x hx).2.2⟩ : _ ∧ _ ∧ _)) (And.intro (own_below hv hb1) (And.intro (hb1.mono hB) (SubB.ofBelow hb1)))))))
  have HAP := Lib.hid (And.intro hap (And.intro hpair hne))
  clear hbk hod how hap hrows hpair hne hv hb1
  go_enter Tryz.func12, Tryz.ntmps12
  go_wp2_with (first
    | (at_builtin; go_loud (refine wpList_append_keep _ rfl _ _ 35 rfl B 40 i0 (.slice none 0 0) 1 24 Tryz.underlying35 hinf hz0 hz1 hz2 rfl (by decide) (.slice dao L.length dc) L.length (List.map (fun x : KeptV => x.1) L) rfl H0.out.2.1 ⟨w.heap.size, 0, none⟩ 1 1 [.slice vao ds.length vc] rfl rfl ?c1 ?c2 ?c3 ?c4 ?c5 ?_)))
  case c1 => exact cells_new _ _ _ _ rfl
  case c2 => intro u hu; rw [List.mem_singleton.1 hu]; exact hvone
  case c3 => unfold maxLen; omega
  case c4 => omega
  case c5 => simp; omega
  intro v1 w1 hown1 honto hlie
  obtain ⟨vao1, vc1, rfl, _⟩ := own_slice hown1
  obtain ⟨hbk, hod, how, hrows, hv, hbel, hsub⟩ := H0.out
  have hbo : (some b : Option Nat) ≠ (Value.slice dao L.length dc).ownBlock := own_far hod hbk (by decide)
  have hbk1 : BookAt w1 b _ _ := (honto.grown.block b hbk.lt hbo).trans hbk
  have hod1 := hown1
  have hsub1 := hsub.trans (SubB.ofGrown honto.grown (own_row_block hod))
  have hbel1 := hbel.grown honto.grown (by simp; omega) (fun k hk => (hod.lt k hk).1)
  have hwne : (Value.slice wao L.length wc).ownBlock = none ∨ (Value.slice wao L.length wc).ownBlock ≠ (Value.slice dao L.length dc).ownBlock := by
    rcases HAP.out.1 with h | h
    · cases hwx : (Value.slice wao L.length wc).ownBlock with
      | none => exact .inl rfl
      | some x => exact .inr (by rw [h]; simp)
    · exact .inr h.symm
  have how1 := how.kept honto.grown hwne
  have hrows1 : ∀ x ∈ L, w1.ownsRow B 26 5 x.1 x.2.2.length (defCells x.2.2) ∧ w1.ownsRow B 26 5 x.2.1 x.2.2.length (defCells x.2.2) ∧ x.2.2.length ≤ 1000000 := fun x hx =>
    ⟨own_onto (hrows x hx).1 honto (own_apart (hrows x hx).1 hod (by decide)), own_onto (hrows x hx).2.1 honto (own_apart (hrows x hx).2.1 hod (by decide)), (hrows x hx).2.2⟩
  have hv1 := own_onto hv honto (own_apart hv hod (by decide))
  have hap1 : (Value.slice vao1 (L.length + 1) vc1).ownBlock = none ∨ (Value.slice vao1 (L.length + 1) vc1).ownBlock ≠ (Value.slice wao L.length wc).ownBlock := by
    rcases hlie with h | h
    · rw [h]; exact HAP.out.1
    · refine .inr (fun e => ?_)
      rw [h] at e
      have := (how.lt _ e.symm).2
      simp at this
  have c10 : w1.cell? ⟨b, 10, none⟩ = some (.slice dao L.length dc) := hbk1.cell 10 _ rfl
  have f10 := hbk1.free 10
  have hB1 : B ≤ w1.heap.size := by have := hbel1.size; omega
  have H1 := Lib.hid (And.intro hbk1 (And.intro hod1 (And.intro how1 (And.intro hrows1 (And.intro hv1 (And.intro hbel1 (And.intro hsub1 hap1)))))))
  clear hbk hod how hrows hv hbel hsub hbo hbk1 hod1 how1 hrows1 hv1 hbel1 hsub1 hap1 hown1 honto hlie hwne H0
  go_wp2_with fail
  clear c10 f10
  obtain ⟨W, hW⟩ : ∃ W, w1.setCell ⟨b, 10, none ⟩ (.slice vao1 (L.length + 1) vc1) = W := ⟨_, rfl⟩
  have H2 : Hid (BookAt W b (.slice vao1 (L.length + 1) vc1) (.slice wao L.length wc) ∧ W.ownsRow B 40 1 (.slice vao1 (L.length + 1) vc1) (L.length + 1) (L.map (·.1) ++ [Value.slice vao ds.length vc]) ∧ W.ownsRow B 40 1 (.slice wao L.length wc) L.length (L.map (·.2.1)) ∧
      (∀ x ∈ L, W.ownsRow B 26 5 x.1 x.2.2.length (defCells x.2.2) ∧ W.ownsRow B 26 5 x.2.1 x.2.2.length (defCells x.2.2) ∧ x.2.2.length ≤ 1000000) ∧ W.ownsRow B 26 5 (.slice vao ds.length vc) ds.length (defCells ds) ∧ Below B w W ∧ SubB w W ∧ ((Value.slice vao1 (L.length + 1) vc1).ownBlock = none ∨ (Value.slice vao1 (L.length + 1) vc1).ownBlock ≠ (Value.slice wao L.length wc).ownBlock) ∧ B ≤ W.heap.size) := Lib.hid (by
    obtain ⟨hbk1, hod1, how1, hrows1, hv1, hbel1, hsub1, hap1⟩ := H1.out
    rw [← hW]
    refine ⟨hbk1.setD (.slice vao1 (L.length + 1) vc1), own_set (a := ⟨b, 10, none⟩) hod1 hbk1 (by decide) _, own_set (a := ⟨b, 10, none⟩) how1 hbk1 (by decide) _, fun x hx => ⟨own_set (a := ⟨b, 10, none⟩) (hrows1 x hx).1 hbk1 (by decide) _, own_set (a := ⟨b, 10, none⟩) (hrows1 x hx).2.1 hbk1 (by decide) _, (hrows1 x hx).2.2⟩, own_set (a := ⟨b, 10, none⟩) hv1 hbk1 (by decide) _, hbel1.setCell (p := ⟨b, 10, none⟩) hBb _, hsub1.trans (SubB.ofSet hbk1 10 (.slice vao1 (L.length + 1) vc1)), hap1, ?_⟩
    simp [World.setCell]; exact hB1)
  rw [hW]
  clear hW H1 hB1
  have c11 : W.drew.cell? ⟨b, 11, none⟩ = some (.slice wao L.length wc) := H2.out.1.cell 11 _ rfl
  go_wp2_with fail
  refine wp_region_I (S := fun j W' => ([6, 7].contains j = true) → W'.cell? ⟨b, 11, none⟩ = some (.slice wao L.length wc)) (by kernel_rfl) ?_
  refine wpAnyI_take (S0 := fun _ => True) (i := 0) (v := ?_) rfl (by kernel_rfl) (by kernel_rfl) (by kernel_rfl) (by kernel_rfl) (List.range 12) (by kernel_rfl) (fun _ _ _ h => h) (fun _ _ h => absurd h (by decide)) (fun _ _ _ _ => trivial) (some 20) rfl (Or.inl ⟨by rfl, ?_⟩) trivial ?_
  rotate_left
  · intro w' _; go_simp <;> with_reducible rfl
  try simp only [Act.put, List.setIfInBounds_toArray, List.set_cons_zero, List.set_cons_succ]
  refine wpAnyI_take (S0 := fun _ => True) (i := 1) (v := ?_) rfl (by kernel_rfl) (by kernel_rfl) (by kernel_rfl) (by kernel_rfl) (List.range 12) (by kernel_rfl) (fun _ _ _ h => h) (fun _ _ h => absurd h (by decide)) (fun _ _ _ _ => trivial) (some 21) rfl (Or.inl ⟨by rfl, ?_⟩) trivial ?_
  rotate_left
  · intro w' _; go_simp <;> with_reducible rfl
  try simp only [Act.put, List.setIfInBounds_toArray, List.set_cons_zero, List.set_cons_succ]
  refine wpAnyI_take (S0 := fun _ => True) (i := 5) (v := ?_) rfl (by kernel_rfl) (by kernel_rfl) (by kernel_rfl) (by kernel_rfl) (List.range 12) (by kernel_rfl) (fun _ _ _ h => h) (fun _ _ h => absurd h (by decide)) (fun _ _ _ _ => trivial) (some 25) rfl (Or.inl ⟨by rfl, ?_⟩) trivial ?_
  rotate_left
  · intro w' _; go_simp <;> with_reducible rfl
  try simp only [Act.put, List.setIfInBounds_toArray, List.set_cons_zero, List.set_cons_succ]
  refine wpAnyI_take (S0 := fun _ => True) (i := 2) (v := ?_) rfl (by kernel_rfl) (by kernel_rfl) (by kernel_rfl) (by kernel_rfl) (List.range 12) (by kernel_rfl) (fun _ _ _ h => h) (fun _ _ h => absurd h (by decide)) (fun _ _ _ _ => trivial) (some 22) rfl (Or.inl ⟨by rfl, ?_⟩) trivial ?_
  rotate_left
  · intro w' _; go_simp <;> with_reducible rfl
  try simp only [Act.put, List.setIfInBounds_toArray, List.set_cons_zero, List.set_cons_succ]
  refine wpAnyI_take (S0 := fun _ => True) (i := 3) (v := ?_) rfl (by kernel_rfl) (by kernel_rfl) (by kernel_rfl) (by kernel_rfl) (List.range 12) (by kernel_rfl) (fun _ _ _ h => h) (fun _ _ h => absurd h (by decide)) (fun _ _ _ _ => trivial) (some 23) rfl (Or.inl ⟨by rfl, ?_⟩) trivial ?_
  rotate_left
  · intro w' _; go_simp <;> with_reducible rfl
  try simp only [Act.put, List.setIfInBounds_toArray, List.set_cons_zero, List.set_cons_succ]
  refine wpAnyI_take (S0 := fun W' => W'.cell? ⟨b, 11, none⟩ = some (.slice wao L.length wc)) (i := 4) (v := ?_) rfl (by kernel_rfl) (by kernel_rfl) (by kernel_rfl) (by kernel_rfl) [6, 7] (by kernel_rfl) (fun _ _ _ h => h) (fun _ h _ => h) (fun j hj _ h => h (by simp at hj ⊢ <;> omega)) (some 24) rfl (Or.inl ⟨by rfl, ?_⟩) c11 ?_
  rotate_left
  · rintro w' s0; go_simp <;> with_reducible rfl
  try simp only [Act.put, List.setIfInBounds_toArray, List.set_cons_zero, List.set_cons_succ]
  refine wpAnyI_one (i := 6) (by kernel_rfl) rfl (fun K' hK => ?_)
  have HKK := Lib.hid hK
  clear hK
  go_simp
  refine (copyDefs_any ds (.slice vao ds.length vc) _ (reads_own rfl (own_below H2.out.2.2.2.2.1 (Below.refl _ W).drew)) hd).mono ?_
  rintro e w3 ⟨v3, rfl, hown3, b3⟩
  have hsz : W.drew.heap.size = W.heap.size := rfl
  rw [hsz] at hown3 b3
  have b3a := (Below.refl _ W).drew.trans b3
  obtain ⟨vao3, vc3, hvv3, _⟩ := own_slice hown3
  have hvone3 : v3.oneCell' = true := by rw [hvv3]; rfl
  subst hvv3
  have b3b := (Below.refl _ w3).alloc (Nat.le_refl _) (.cells #[.slice vao3 ds.length vc3] 40)
  have d11 : w3.cell? ⟨b, 11, none⟩ = some (.slice wao L.length wc) := (H2.out.1.below b3a).cell 11 _ rfl
  have how3 := own_below (own_below H2.out.2.2.1 b3a) b3b
  have hnews3 := cells_new w3 [.slice vao3 ds.length vc3] 40 w3.heap.size rfl
  have hbk3 := (H2.out.1.below b3a).below b3b
  have hB3 : B ≤ (w3.alloc (.cells #[.slice vao3 ds.length vc3] 40)).heap.size := by have := H2.out.2.2.2.2.2.2.2.2; have := b3a.size; simp; omega
  have HX := Lib.hid (And.intro b3a (And.intro b3b (And.intro how3 (And.intro hnews3 (And.intro hbk3 hown3)))))
  clear b3 b3a b3b how3 hnews3 hbk3 hown3
  go_wp2_with fail
  refine HKK.out _ _ ⟨fun _ => d11, ?_⟩
  clear HKK K'
  try simp only [Act.put, List.setIfInBounds_toArray, List.set_cons_zero, List.set_cons_succ, List.getElem_toArray, List.getElem_cons_zero, List.getElem_cons_succ]
  refine wpAnyI_one (i := 7) (by kernel_rfl) rfl (fun K' hK => ?_)
  have HKK := Lib.hid hK
  clear hK
  go_simp
  refine HKK.out _ _ ⟨fun _ => (HX.out.2.2.2.2.1).cell 11 _ rfl, ?_⟩
  clear HKK K'
  try simp only [Act.put, List.setIfInBounds_toArray, List.set_cons_zero, List.set_cons_succ, List.getElem_toArray, List.getElem_cons_zero, List.getElem_cons_succ]
  refine wpAnyI_one (i := 8) (by kernel_rfl) rfl (fun K' hK => ?_)
  have HKK := Lib.hid hK
  clear hK
  refine step_append_lies _ rfl (.tmp 24) (.tmp 27) 35 rfl B 40 i0 (.slice none 0 0) 1 24 Tryz.underlying35 hinf hz0 hz1 hz2 rfl (by decide) (.slice wao L.length wc) L.length (List.map (fun x : KeptV => x.2.1) L) rfl HX.out.2.2.1 ⟨w3.heap.size, 0, none⟩ 1 1 [.slice vao3 ds.length vc3] rfl rfl HX.out.2.2.2.1 (fun u hu => by rw [List.mem_singleton.1 hu]; exact hvone3) (by decide) (by unfold maxLen; omega) (by omega) hB3 _ rfl ?_
  intro g cap w5 hown5 hgrow5 hat5 hlt5
  have hbo5 : (some b : Option Nat) ≠ (Value.slice wao L.length wc).ownBlock := own_far HX.out.2.2.1 HX.out.2.2.2.2.1 (by decide)
  have hbk5 : BookAt w5 b _ _ := (hgrow5.block b HX.out.2.2.2.2.1.lt hbo5).trans HX.out.2.2.2.2.1
  have p5 : w5.cell? ⟨b, 11, none⟩ = some (.slice wao L.length wc) := hbk5.cell 11 _ rfl
  have f5 := hbk5.free 11
  have HY := Lib.hid (And.intro hown5 (And.intro hgrow5 (And.intro hat5 hbk5)))
  clear hown5 hgrow5 hat5 hbk5 hbo5
  refine HKK.out _ _ ⟨fun h => absurd h (by decide), ?_⟩
  clear HKK K'
  try simp only [Act.put, List.setIfInBounds_toArray, List.set_cons_zero, List.set_cons_succ, List.getElem_toArray, List.getElem_cons_zero, List.getElem_cons_succ]
  refine wpAnyI_take (S0 := fun _ => True) (i := 9) (v := ?_) rfl (by kernel_rfl) (by kernel_rfl) (by kernel_rfl) (by kernel_rfl) (List.range 12) (by kernel_rfl) (fun _ _ _ h => h) (fun _ _ h => absurd h (by decide)) (fun _ _ _ _ => trivial) (some 29) rfl (Or.inl ⟨by rfl, ?_⟩) trivial ?_
  rotate_left
  · intro w' _; go_simp <;> with_reducible rfl
  try simp only [Act.put, List.setIfInBounds_toArray, List.set_cons_zero, List.set_cons_succ]
  refine wpAnyI_take (S0 := fun _ => True) (i := 10) (v := ?_) rfl (by kernel_rfl) (by kernel_rfl) (by kernel_rfl) (by kernel_rfl) (List.range 12) (by kernel_rfl) (fun _ _ _ h => h) (fun _ _ h => absurd h (by decide)) (fun _ _ _ _ => trivial) (some 30) rfl (Or.inl ⟨by rfl, ?_⟩) trivial ?_
  rotate_left
  · intro w' _; go_simp <;> with_reducible rfl
  try simp only [Act.put, List.setIfInBounds_toArray, List.set_cons_zero, List.set_cons_succ]
  refine wpAnyI_one (i := 11) (by kernel_rfl) rfl (fun K' hK => ?_)
  have HKK := Lib.hid hK
  clear hK
  go_simp
  refine HKK.out _ _ ⟨fun h => absurd h (by decide), ?_⟩
  clear HKK K'
  try simp only [Act.put, List.setIfInBounds_toArray, List.set_cons_zero, List.set_cons_succ, List.getElem_toArray, List.getElem_cons_zero, List.getElem_cons_succ]
  refine wpAnyI_done (by kernel_rfl) ?_ _
  go_wp2_with fail
  go_end0
  obtain ⟨hown5, hgrow5, hat5, hbk5⟩ := HY.out
  obtain ⟨b3a, b3b, how3, hnews3, hbk3, hown3⟩ := HX.out
  obtain ⟨k1, k2, k3, k4, k5, k6, k7, k8, k9⟩ := H2.out
  have bb : Below W.heap.size W (w3.alloc (.cells #[.slice vao3 ds.length vc3] 40)) := b3a.trans (b3b.mono b3a.size)
  have hr5 : ∀ {e : TypeId} {size n : Nat} {x : Value} {xs : List Value}, (w3.alloc (.cells #[.slice vao3 ds.length vc3] 40)).ownsRow B e size x n xs → e = 26 → w5.ownsRow B e size x n xs := fun h he => h.kept hgrow5 (own_apart h how3 (by subst he; decide))
  have hs5 : ∀ {e : TypeId} {size n : Nat} {x : Value} {xs : List Value}, w5.ownsRow B e size x n xs → e ≠ 39 → (w5.setCell ⟨b, 11, none⟩ (.slice (some ⟨g, 0, none⟩) (L.length + 1) cap)).ownsRow B e size x n xs := fun h he => own_set (a := ⟨b, 11, none⟩) h hbk5 he _
  have hd5 : (Value.slice vao1 (L.length + 1) vc1).ownBlock = none ∨ (Value.slice vao1 (L.length + 1) vc1).ownBlock ≠ (Value.slice wao L.length wc).ownBlock := k8
  refine ⟨rfl, .slice vao3 ds.length vc3, defs_step hBb (hbk5.setW _) ?_ ?_ ?_ ?_ HAP.out.2.1 ?_ ?_ hd HAP.out.2.2, ?_, ?_, ?_⟩
  · exact hs5 ((own_below k2 bb).kept hgrow5 hd5) (by decide)
  · exact hs5 hown5 (by decide)
  · rcases hat5 with h | h
    · have e : (Value.slice (some ⟨g, 0, none⟩) (L.length + 1) cap).ownBlock = (Value.slice wao L.length wc).ownBlock := by rw [h]; rfl
      rw [e]; exact k8
    · refine .inr (fun e => ?_)
      have := (k2.lt g e).2
      have h9 := bb.size
      omega
  · exact fun x hx => ⟨hs5 (hr5 (own_below (k4 x hx).1 bb) rfl) (by decide), hs5 (hr5 (own_below (k4 x hx).2.1 bb) rfl) (by decide), (k4 x hx).2.2⟩
  · exact hs5 (hr5 (own_below k5 bb) rfl) (by decide)
  · exact hs5 (hr5 (own_mono (own_below hown3 b3b) k9) rfl) (by decide)
  · exact ((k7.trans (SubB.ofBelow bb)).trans (SubB.ofGrown hgrow5 (own_row_block how3))).trans (SubB.ofSet hbk5 11 _)
  · exact ((k6.trans (bb.mono k9)).grown hgrow5 hB3 (fun k hk => (how3.lt k hk).1)).setCell (p := ⟨b, 11, none⟩) hBb _
  · exact fun q hq => Nat.le_trans k7.size (hown3.lt q hq).1

end Go.Proofs.YtnlmfoccdmkncaaGreatDoor

/-
  A slice of bools that came in; bytes of the call's own, and what a store into them does.
-/
namespace Go.Proofs.YtnlmfoccdmkncaaGreatDoor
open Go.RowKit Go.Deep
set_option linter.unusedVariables false
set_option linter.unusedSimpArgs false

/-- What the walk is told of a slice of bools that came in. -/
def IsFlags (w : World) (a : Option Addr) (len : Nat) (P : Nat → Bool) : Prop :=
  ∃ b off, (0 < len → a = some ⟨b, off, none⟩) ∧ (0 < len → b < w.heap.size) ∧ (∀ i, i < len → w.cell? ⟨b, off + i, none⟩ = some (.bool (P i))) ∧ (len : Int) ≤ 9223372036854775807

theorem cellsBool : Tryz.prog.cellsOf 4 = 1 := by kernel_rfl

theorem add_zero_at (x : Addr) : x.add 0 = x := by simp [Addr.add]

theorem spot_of_cell {W : World} {x : Addr} {v : Value} (k1 : W.cell? x = some v) : x.spot = none ∧ x.block < W.heap.size := by
  refine ⟨?_, World.block_lt_of_cell? _ _ k1⟩
  unfold World.cell? at k1
  split at k1
  · split at k1
    · cases k1
    · rename_i hs; simpa using hs
  · cases k1

/-- The bytes l stand at the head of a block, and may be written. -/
def BytesAt (W : World) (g : Nat) (l : List UInt8) : Prop := ∀ j, j < l.length → W.cell? ⟨g, j, none⟩ = some (.int .u8 ((l.getD j 0).toNat : Int)) ∧ W.frozen? ⟨g, j, none⟩ = false

theorem BytesAt.below {W W' : World} {g n : Nat} {l : List UInt8} (h : BytesAt W g l) (hb : Below n W W') (hg : g < n) : BytesAt W' g l :=
  fun j hj => ⟨(hb.cell (p := ⟨g, j, none⟩) hg).trans (h j hj).1, (hb.frozen (p := ⟨g, j, none⟩) hg).trans (h j hj).2⟩

theorem BytesAt.set {W : World} {g : Nat} {l : List UInt8} (h : BytesAt W g l) (i : Nat) (hi : i < l.length) (c : UInt8) : BytesAt (W.setCell ⟨g, i, none⟩ (.int .u8 (c.toNat : Int))) g (l.set i c) := by
  intro j hj
  rw [List.length_set] at hj
  obtain ⟨h1, h2⟩ := h j hj
  obtain ⟨h3, h4⟩ := h i hi
  by_cases e : j = i
  · subst e
    refine ⟨?_, ?_⟩
    · simp [go_sem, h3, hj]
    · simp [go_sem, h4]
  · refine ⟨?_, ?_⟩
    · have : ¬ i = j := fun x => e x.symm
      simp [go_sem, h1, e, this, List.getElem?_set]
    · simp [go_sem, h2]

/-- '[]byte(s)' lays the bytes of s. -/
theorem bytes_laid (W : World) (s : ByteArray) (cap : Nat) (e : TypeId) : BytesAt (W.alloc (.cells (bytesRow s cap) e ((bytesRow s cap).size, (bytesRow s cap).size + 1))) W.heap.size s.data.toList := by
  intro j hj
  have hj' : j < s.data.size := by simpa using hj
  refine ⟨?_, ?_⟩
  · rw [World.cell?_alloc_mark, bytesRow_at s cap j hj']
    have e : s.data.toList.getD j 0 = s.data[j] := by rw [List.getD_eq_getElem?_getD, List.getElem?_eq_getElem hj]; simp
    rw [e]
  · rw [World.frozen?_alloc_mark]
    have : j < (bytesRow s cap).size := by
      unfold bytesRow
      rw [Array.size_append, Array.size_map]
      omega
    simp; omega

end Go.Proofs.YtnlmfoccdmkncaaGreatDoor

/-
  A slice of definitions that came in; bowdlerlaw15.Table: a table of them.
-/
namespace Go.Proofs.YtnlmfoccdmkncaaGreatDoor
open Go.RowKit Go.Deep Go.ChangeShapes Go.WideShapes
set_option maxRecDepth 100000
set_option linter.unusedVariables false
set_option linter.unusedSimpArgs false

/-- What the walk is told of a slice of definitions that came in. -/
def IsDefs (w : World) (a : Option Addr) (len : Nat) (ds : List DefL) : Prop := ds.length = len ∧ (0 < len → RowR w 5 a len (defCells ds)) ∧ (len : Int) ≤ 9223372036854775807

instance : Inhabited DefL := ⟨DefL.none⟩
theorem cellsDef : Tryz.prog.cellsOf 26 = 5 := by kernel_rfl
theorem cellsStr1 : Tryz.prog.cellsOf 9 = 1 := by kernel_rfl
theorem cellsBool1 : Tryz.prog.cellsOf 4 = 1 := by kernel_rfl

theorem open_defs {H : Type} {enc : TypeId × Value → H} {W : World} {a : Option Addr} {len cap : Nat} {d : DataW H} {p : List MemPlace}
    (hk : DataW.Trod enc Tryz.prog W 0 (fun _ => true) true 40 (.slice a len cap) d p) : ∃ ds, IsDefs W a len ds := by
  obtain ⟨fuel, hf⟩ := hk
  rcases open_slice Tryz.underlying40 hf with ⟨hcs, _⟩ | ⟨x, l, c, m, n, D, Pl, hcs, hb, hl, hm, hmm, _, hx⟩
  · simp only [Value.cells, List.cons.injEq, Value.slice.injEq, and_true] at hcs
    obtain ⟨rfl, rfl, rfl⟩ := hcs
    exact ⟨[], rfl, fun h => absurd h (by omega), by omega⟩
  · simp only [Value.cells, List.cons.injEq, Value.slice.injEq, and_true] at hcs
    obtain ⟨rfl, rfl, rfl⟩ := hcs
    have hmx : (len : Int) ≤ 9223372036854775807 := by unfold maxLen at hm; omega
    have hlm : len ≤ m := by rw [hmm]; split <;> omega
    have each : ∀ i, i < m → ∃ q : DefL, ∀ (j : Nat) (u : Value), q.cells[j]? = some u → W.cell? (x.add (i * 5 + j)) = some u := by
      intro i hi
      obtain ⟨cs', h1, h2⟩ := hx i hi
      rw [cellsDef] at h1
      obtain ⟨_, hlen, hcell⟩ := World.cells?_some h1
      obtain ⟨xs, k, hk, hxy, _, hxl, hfs⟩ := DataW.trod_struct Tryz.underlying26 h2
      have g0 : DataW.trod enc Tryz.prog W 0 (fun _ => true) true k 9 ((cs'.drop 0).take (Tryz.prog.cellsOf 9)) = xs[0]? := hfs 0 _ rfl
      have g1 : DataW.trod enc Tryz.prog W 0 (fun _ => true) true k 9 ((cs'.drop 1).take (Tryz.prog.cellsOf 9)) = xs[1]? := hfs 1 _ rfl
      have g2 : DataW.trod enc Tryz.prog W 0 (fun _ => true) true k 9 ((cs'.drop 2).take (Tryz.prog.cellsOf 9)) = xs[2]? := hfs 2 _ rfl
      have g3 : DataW.trod enc Tryz.prog W 0 (fun _ => true) true k 9 ((cs'.drop 3).take (Tryz.prog.cellsOf 9)) = xs[3]? := hfs 3 _ rfl
      have g4 : DataW.trod enc Tryz.prog W 0 (fun _ => true) true k 4 ((cs'.drop 4).take (Tryz.prog.cellsOf 4)) = xs[4]? := hfs 4 _ rfl
      rw [cellsStr1] at g0 g1 g2 g3
      rw [cellsBool1] at g4
      match xs, hxl, cs', hlen with
      | [y0, y1, y2, y3, y4], _, [v0, v1, v2, v3, v4], _ =>
        simp only [List.drop_succ_cons, List.drop_zero, List.take_succ_cons, List.take_zero, List.getElem?_cons_succ, List.getElem?_cons_zero] at g0 g1 g2 g3 g4
        obtain ⟨s0, e0, _⟩ := DataW.trod_string Tryz.underlying9 g0
        obtain ⟨s1, e1, _⟩ := DataW.trod_string Tryz.underlying9 g1
        obtain ⟨s2, e2, _⟩ := DataW.trod_string Tryz.underlying9 g2
        obtain ⟨s3, e3, _⟩ := DataW.trod_string Tryz.underlying9 g3
        obtain ⟨b4, e4, _⟩ := DataW.trod_bool Tryz.underlying4 g4
        refine ⟨⟨s0.data.toList, s1.data.toList, s2.data.toList, s3.data.toList, b4⟩, fun j u hu => ?_⟩
        have hj : j < 5 := by
          have := (List.getElem?_eq_some_iff.1 hu).1
          exact this
        have hc := hcell j hj
        rw [Go.Deep.add_add] at hc
        rw [hc, ← hu]
        injection e0 with e0 _
        injection e1 with e1 _
        injection e2 with e2 _
        injection e3 with e3 _
        injection e4 with e4 _
        subst e0; subst e1; subst e2; subst e3; subst e4
        unfold DefL.cells
        simp only [Lib.mk_data]
    obtain ⟨f, hfx⟩ := choose_lt each
    have hdl : ((List.range len).map f).length = len := by simp
    refine ⟨(List.range len).map f, hdl, fun h0 => ⟨by unfold defCells; rw [flat_len DefL.cells 5 def_len, hdl], (fun h => by cases h), fun ad had => ?_⟩, hmx⟩
    obtain rfl := Option.some.inj had
    have k0 := hfx 0 (by omega) 0 _ rfl
    refine ⟨(spot_of_cell (by rw [← add_zero_at x]; exact k0)).1, fun j u hu => ?_⟩
    have hj : j < len * 5 := by
      have := (List.getElem?_eq_some_iff.1 hu).1
      unfold defCells at this
      rw [flat_len DefL.cells 5 def_len, hdl] at this
      exact this
    have hji : j / 5 < len := by omega
    have hat : ((List.range len).map f)[j / 5]? = some (f (j / 5)) := by simp [hji]
    have hjj : j = j / 5 * 5 + j % 5 := by omega
    rw [hjj] at hu ⊢
    unfold defCells at hu
    rw [flat_at DefL.cells 5 def_len _ (j / 5) (j % 5) _ hat (by omega)] at hu
    exact hfx (j / 5) (by omega) (j % 5) u hu

theorem own_blk {w w' : World} {base : Nat} {e : TypeId} {size : Nat} {v : Value} {n : Nat} {xs : List Value} (h : w.ownsRow base e size v n xs) (hk : ∀ j, v.ownBlock = some j → w'.heap[j]? = w.heap[j]?) : w'.ownsRow base e size v n xs := by
  refine ⟨h.1, ?_⟩
  rcases h.2 with h2 | ⟨g, cap, cur, hv, hb, hg, r⟩
  · exact Or.inl h2
  · refine Or.inr ⟨g, cap, cur, hv, hb, ?_, r⟩
    rw [hk g (by rw [hv]; rfl), hg]

/-- The table of the definitions so far. -/
def tabTo (ds : List DefL) : List DefL := ds.foldl (fun l d => (addL l d).1) []
theorem add_len (l : List DefL) (d : DefL) : (addL l d).1.length ≤ l.length + 1 := by
  unfold addL
  split
  · exact Nat.le_succ _
  · simp

end Go.Proofs.YtnlmfoccdmkncaaGreatDoor

/-
  TablePlays: a table, the list that is kept beside it, and the book, in memory; each step of a round. No walk.
-/
namespace Go.Proofs.YtnlmfoccdmkncaaGreatDoor
open Go.RowKit
set_option linter.unusedVariables false
set_option linter.unusedSimpArgs false

structure Plays (w : World) (B tb kb : Nat) (H H' : List DefL) (L : List KeptV) (sv hv : Value) : Prop where
  le : B ≤ tb
  tab : w.heap[tb]? = some (.cells #[sv] 48 (0, 0))
  srow : w.ownsRow B 26 5 sv H.length (defCells H)
  hrow : w.ownsRow B 26 5 hv H'.length (defCells H')
  kept : KeptB w B kb L
  d1 : Distinct hv.ownBlock sv.ownBlock
  d2 : ∀ x ∈ L, Distinct x.1.ownBlock sv.ownBlock ∧ Distinct x.2.1.ownBlock sv.ownBlock
  small : ∀ x ∈ L, x.2.2.length ≤ 50000

theorem Plays.below {w w' : World} {B tb kb : Nat} {H H' : List DefL} {L : List KeptV} {sv hv : Value} (h : Plays w B tb kb H H' L sv hv) (hb : Below w.heap.size w w') : Plays w' B tb kb H H' L sv hv :=
  ⟨h.le, (hb.block tb (Array.getElem?_eq_some_iff.1 h.tab).1).trans h.tab, own_below h.srow hb, own_below h.hrow hb, h.kept.below hb, h.d1, h.d2, h.small⟩

/-- What Add leaves. -/
theorem Plays.add {w w' : World} {B tb kb : Nat} {H H' H2 : List DefL} {L : List KeptV} {sv hv sv' : Value} (h : Plays w B tb kb H H' L sv hv) (ht : w'.heap[tb]? = some (.cells #[sv'] 48 (0, 0)))
    (hs : w'.ownsRow B 26 5 sv' H2.length (defCells H2)) (hk : ∀ k, k < w.heap.size → k ≠ tb → some k ≠ sv.ownBlock → w'.heap[k]? = w.heap[k]?) (hl : sv'.ownBlock = sv.ownBlock ∨ ∃ g, sv'.ownBlock = some g ∧ w.heap.size ≤ g) : Plays w' B tb kb H2 H' L sv' hv := by
  have keep : ∀ {e : TypeId} {size n : Nat} {v : Value} {xs : List Value}, w.ownsRow B e size v n xs → e ≠ 48 → Distinct v.ownBlock sv.ownBlock → w'.ownsRow B e size v n xs := by
    intro e size n v xs ho he hd
    refine own_blk ho (fun j hj => hk j (ho.lt j hj).2 (fun ej => ?_) (fun ej => ?_))
    · subst ej
      obtain ⟨cs, m, hc⟩ := own_row_block ho _ hj
      have := h.tab
      rw [hc] at this
      simp at this
      exact he this.2.1
    · rcases hd with h0 | h0
      · rw [hj] at h0; cases h0
      · exact h0 (by rw [hj, ej])
  have mv : ∀ {v : Value} {n : Nat} {xs : List Value}, w.ownsRow B 26 5 v n xs → Distinct v.ownBlock sv.ownBlock → Distinct v.ownBlock sv'.ownBlock := by
    intro v n xs ho hd
    rcases hl with h0 | ⟨g, h0, hg⟩
    · rw [h0]; exact hd
    · exact ne_of_lt2 (fun q hq => (ho.lt q hq).2) (fun q hq => by rw [h0] at hq; obtain rfl := Option.some.inj hq; exact hg)
  obtain ⟨dv, wv, k1, k2, k3, k4⟩ := h.kept.book
  have hbt : kb ≠ tb := fun e => by
    have := h.tab
    rw [← e, k1] at this
    simp at this
  have hbs : some kb ≠ sv.ownBlock := own_far h.srow k1 (by decide)
  have ap : ∀ {v : Value} {n : Nat} {xs : List Value}, w.ownsRow B 40 1 v n xs → Distinct v.ownBlock sv.ownBlock := fun ho => own_apart ho h.srow (by decide)
  refine ⟨h.le, ht, hs, keep h.hrow (by decide) h.d1, ⟨h.kept.le, ⟨dv, wv, (hk kb k1.lt hbt hbs).trans k1, keep k2 (by decide) (ap k2), keep k3 (by decide) (ap k3), k4⟩, fun x hx => ?_, h.kept.apart⟩, mv h.hrow h.d1, fun x hx => ?_, h.small⟩
  · obtain ⟨r1, r2, r3⟩ := h.kept.rows x hx
    exact ⟨keep r1 (by decide) (h.d2 x hx).1, keep r2 (by decide) (h.d2 x hx).2, r3⟩
  · obtain ⟨r1, r2, r3⟩ := h.kept.rows x hx
    exact ⟨mv r1 (h.d2 x hx).1, mv r2 (h.d2 x hx).2⟩

/-- The list beside is made anew. -/
theorem Plays.have' {w w' : World} {B tb kb : Nat} {H H' H2 : List DefL} {L : List KeptV} {sv hv hv' : Value} (h : Plays w B tb kb H H' L sv hv) (hb : Below w.heap.size w w') (hB : B ≤ w.heap.size)
    (hr : w'.ownsRow w.heap.size 26 5 hv' H2.length (defCells H2)) : Plays w' B tb kb H H2 L sv hv' := by
  have h2 := h.below hb
  exact ⟨h2.le, h2.tab, h2.srow, own_mono hr hB, h2.kept, Distinct.symm (ne_of_lt2 (fun q hq => (h.srow.lt q hq).2) (fun q hq => (hr.lt q hq).1)), h2.d2, h2.small⟩

/-- One more list is kept. -/
theorem Plays.defs {w w' : World} {B tb kb : Nat} {H H' : List DefL} {L : List KeptV} {sv hv v v' : Value} (h : Plays w B tb kb H H' L sv hv) (hK : KeptB w' B kb (L ++ [(v, v', H)])) (hs : SubB w w')
    (hd : Distinct v.ownBlock sv.ownBlock) (hv' : ∀ q, v'.ownBlock = some q → w.heap.size ≤ q) (hl : H.length ≤ 50000) : Plays w' B tb kb H H' (L ++ [(v, v', H)]) sv hv := by
  refine ⟨h.le, hs.block tb _ h.tab (fun cs t m ho => by simp only [Obj.cells.injEq] at ho; obtain ⟨_, rfl, _⟩ := ho; decide), own_sub h.srow hs (by decide) (by decide), own_sub h.hrow hs (by decide) (by decide), hK, h.d1, fun x hx => ?_, fun x hx => ?_⟩
  · rcases List.mem_append.1 hx with hx | hx
    · exact h.d2 x hx
    · rw [List.mem_singleton.1 hx]
      exact ⟨hd, Distinct.symm (ne_of_lt2 (fun q hq => (h.srow.lt q hq).2) hv')⟩
  · rcases List.mem_append.1 hx with hx | hx
    · exact h.small x hx
    · rw [List.mem_singleton.1 hx]; exact hl

/-- Is one of them of this name? -/
def hasDef (H : List DefL) (d : DefL) : Bool := H.any fun x => x.name == d.name && x.note == d.note
theorem hasDef_look (H : List DefL) (d : DefL) : (lookL H d.name d.note).isSome = hasDef H d := by
  unfold lookL hasDef
  rw [List.isSome_find?]
theorem addL_eq (H : List DefL) (d : DefL) : addL H d = if hasDef H d = true then (H, false) else (H ++ [d], true) := by
  unfold addL
  rw [hasDef_look]
theorem hasDef_snoc (H : List DefL) (k : Nat) (x d : DefL) (h : H[k]? = some x) : hasDef (H.take (k + 1)) d = (hasDef (H.take k) d || (x.name == d.name && x.note == d.note)) := by
  unfold hasDef
  obtain ⟨hl, he⟩ := List.getElem?_eq_some_iff.1 h
  rw [List.take_succ_eq_append_getElem hl, he, List.any_append]
  simp

end Go.Proofs.YtnlmfoccdmkncaaGreatDoor

/-
  The reference's small functions on bytes and texts: gap, row2, Blank, Trim, Ascii, Space.
-/
namespace Go.Proofs.YtnlmfoccdmkncaaGreatDoor
open Go.RowKit
set_option maxRecDepth 100000
set_option linter.unusedVariables false
set_option linter.unusedSimpArgs false

theorem byte_dec (c : UInt8) (n : Nat) (hn : n < 256) : ((c.toNat : Int) == (n : Int)) = (c == UInt8.ofNat n) := by
  rw [Bool.eq_iff_iff, beq_iff_eq, beq_iff_eq, ← UInt8.toNat_inj, UInt8.toNat_ofNat']
  omega

theorem rgap_any (c : UInt8) (w : World) :
    Calls Tryz.prog 28 #[.int .u8 (c.toNat : Int)] w fun e w' => e = .returned (.bool (blanks.contains c)) ∧ w' = w := by
  by_cases c1 : c = 32
  · subst c1
    have h1 : (((32 : UInt8).toNat : Int) == 32) = true := by decide
    go_enter Tryz.func28, Tryz.ntmps28
    go_wp2_with fail
    go_ret
    exact ⟨rfl, rfl⟩
  · have h1 : ((c.toNat : Int) == 32) = false := by rw [show (32 : Int) = ((32 : Nat) : Int) from rfl, byte_dec c 32 (by decide)]; simpa using c1
    by_cases c2 : c = 9
    · subst c2
      go_enter Tryz.func28, Tryz.ntmps28
      go_wp2_with fail
      go_ret
      exact ⟨rfl, rfl⟩
    · have h2 : ((c.toNat : Int) == 9) = false := by rw [show (9 : Int) = ((9 : Nat) : Int) from rfl, byte_dec c 9 (by decide)]; simpa using c2
      have hr : blanks.contains c = false := by simp [blanks, c1, c2]
      rw [hr]
      clear hr c1 c2
      go_enter Tryz.func28, Tryz.ntmps28
      go_wp2_with fail
      go_ret
      exact ⟨rfl, rfl⟩

theorem rgap_is {c : UInt8} {b : Bool} (h : blanks.contains c = b) (w : World) :
    Calls Tryz.prog 28 #[.int .u8 (c.toNat : Int)] w fun e w' => e = .returned (.bool b) ∧ w = w' := by
  subst h
  exact (rgap_any c w).mono fun e w' ⟨a, b⟩ => ⟨a, b.symm⟩

theorem contains_take_succ (s : ByteArray) (k : Nat) (hk : k < s.size) (c : UInt8) : (s.data.toList.take (k + 1)).contains c = ((s.data.toList.take k).contains c || s[k] == c) := by
  rw [take_succ s k hk, List.contains_eq_mem, List.contains_eq_mem]
  simp [eq_comm, Bool.beq_eq_decide_eq]

/-- Is a byte somewhere in a text? Is there nothing but blanks? -/
def hasB (c : UInt8) (l : List UInt8) : Bool := l.contains c
def blankL (l : List UInt8) : Bool := decide (Lib.trimLeftS l blanks = [])

theorem row2_any (s : ByteArray) (c : UInt8) (w : World) (hs : s.size ≤ 1000000000) :
    Calls Tryz.prog 22 #[.string s, .int .u8 (c.toNat : Int)] w fun e w' => e = .returned (.bool (hasB c s.data.toList)) ∧ w = w' := by
  go_enter Tryz.func22, Tryz.ntmps22
  go_wp2_with fail
  go_loop [5] (fun u5 => ∃ k : Nat, k ≤ s.size ∧ u5 = .int .i64 k ∧ hasB c (s.data.toList.take k) = false) (fun u5 => s.size - (intOf u5).toNat)
  case atStart => exact ⟨0, Nat.zero_le _, rfl, by simp [hasB]⟩
  case round =>
    obtain ⟨k, hk, rfl, hno⟩ := hrel
    unfold hasB at hno
    by_cases hlt : k < s.size
    · have hsucc := contains_take_succ s k hlt c
      obtain ⟨d, hd⟩ : ∃ d, s[k] = d := ⟨_, rfl⟩
      rw [hno, hd, Bool.false_or] at hsucc
      have HS := Lib.hid hsucc
      clear hsucc hno
      by_cases hdc : d = c
      · subst hdc
        have hyes : s.data.toList.contains d = true := by
          rw [List.contains_iff_mem]
          have := HS.out
          rw [beq_self_eq_true, List.contains_iff_mem] at this
          exact List.mem_of_mem_take this
        have h1 : ((d.toNat : Int) == (d.toNat : Int)) = true := by simp
        have HY := Lib.hid hyes
        clear hyes
        go_wp2_with fail
        go_ret
        exact ⟨ret_bool HY.out.symm, rfl⟩
      · have h1 : ((d.toNat : Int) == (c.toNat : Int)) = false := by
          rw [beq_eq_false_iff_ne]
          intro e; exact hdc (UInt8.toNat_inj.1 (by omega))
        have HN := Lib.hid (HS.out.trans (beq_eq_false_iff_ne.2 hdc))
        go_wp2_with fail
        go_round
        case rel => exact ⟨k + 1, by omega, by go_num, HN.out⟩
        case measure => simp [intOf]; omega
    · obtain rfl : k = s.size := by omega
      rw [take_all] at hno
      have HN := Lib.hid hno
      clear hno
      go_wp2_with fail
      go_ret
      exact ⟨ret_bool HN.out.symm, rfl⟩

theorem trimL_drop {l : List UInt8} {c : UInt8} {k : Nat} (h : Lib.trimLeftS (l.drop k) blanks = Lib.trimLeftS l blanks) (hk : l.drop k = c :: l.drop (k + 1)) (hc : blanks.contains c = true) : Lib.trimLeftS (l.drop (k + 1)) blanks = Lib.trimLeftS l blanks := by
  rw [← h, hk, plain_skip hc]

theorem rblank_any (s : ByteArray) (w : World) (hs : s.size ≤ 1000000000) :
    Calls Tryz.prog 31 #[.string s] w fun e w' => e = .returned (.bool (blankL s.data.toList)) ∧ w = w' := by
  go_enter Tryz.func31, Tryz.ntmps31
  go_wp2_with fail
  go_loop [3] (fun u3 => ∃ k : Nat, k ≤ s.size ∧ u3 = .int .i64 k ∧ Lib.trimLeftS (s.data.toList.drop k) blanks = Lib.trimLeftS s.data.toList blanks) (fun u3 => s.size - (intOf u3).toNat)
  case atStart => exact ⟨0, Nat.zero_le _, rfl, by simp⟩
  case round =>
    obtain ⟨k, hk, rfl, hno⟩ := hrel
    by_cases hlt : k < s.size
    · have hda := drop_at s k hlt
      obtain ⟨d, hd⟩ : ∃ d, s[k] = d := ⟨_, rfl⟩
      rw [hd] at hda
      have HD := Lib.hid hda
      have HNO := Lib.hid hno
      clear hda hno
      obtain ⟨b, hb⟩ : ∃ b, blanks.contains d = b := ⟨_, rfl⟩
      have HG := Lib.hid (rgap_is hb)
      have HB := Lib.hid hb
      clear hb
      go_wp2_with fail
      refine (HG.out _).mono ?_
      rintro e w' ⟨rfl, rfl⟩
      cases b
      · have hne : blankL s.data.toList = false := by
          unfold blankL
          rw [decide_eq_false_iff_not, ← HNO.out, HD.out, plain_stop HB.out]; simp
        have HN := Lib.hid hne
        clear hne
        go_wp2_with fail
        go_ret
        exact ⟨ret_bool HN.out.symm, rfl⟩
      · have HN := Lib.hid (trimL_drop HNO.out HD.out HB.out)
        go_wp2_with fail
        go_round
        case rel => exact ⟨k + 1, by omega, by go_num, HN.out⟩
        case measure => simp [intOf]; omega
    · obtain rfl : k = s.size := by omega
      rw [drop_end _ _ (Nat.le_refl _)] at hno
      have HN := Lib.hid (show blankL s.data.toList = true by unfold blankL; rw [decide_eq_true_eq, ← hno]; rfl)
      clear hno
      go_wp2_with fail
      go_ret
      exact ⟨ret_bool HN.out.symm, rfl⟩

theorem rblank_is {s : ByteArray} {b : Bool} (h : blankL s.data.toList = b) (w : World) (hs : s.size ≤ 1000000000) :
    Calls Tryz.prog 31 #[.string s] w fun e w' => e = .returned (.bool b) ∧ w = w' := by
  subst h; exact rblank_any s w hs

theorem ext_drop1 (S : ByteArray) : (S.extract 1 S.size).data.toList = S.data.toList.drop 1 := by rw [Lib.extract_to_end]
theorem ext_drop (S : ByteArray) (k : Nat) : (S.extract k S.size).data.toList = S.data.toList.drop k := by rw [Lib.extract_to_end]
theorem ext_take (S : ByteArray) (k : Nat) : (S.extract 0 k).data.toList = S.data.toList.take k := by rw [Lib.extract_data]; simp

theorem trimR_snoc (l : List UInt8) (c : UInt8) (h : blanks.contains c = true) : Lib.trimRightS (l ++ [c]) blanks = Lib.trimRightS l blanks := by
  unfold Lib.trimRightS; rw [List.reverse_append]; simp only [List.reverse_cons, List.reverse_nil, List.nil_append, List.cons_append]; rw [List.dropWhile_cons_of_pos h]
theorem trimR_stop (l : List UInt8) (c : UInt8) (h : blanks.contains c = false) : Lib.trimRightS (l ++ [c]) blanks = l ++ [c] := by
  unfold Lib.trimRightS; rw [List.reverse_append]; simp only [List.reverse_cons, List.reverse_nil, List.nil_append, List.cons_append]; rw [List.dropWhile_cons_of_neg (by rw [h]; simp)]; simp

theorem trimR_step {S T R : List UInt8} {y : UInt8} (h : Lib.trimRightS S blanks = R) (hs : S = T ++ [y]) (hy : blanks.contains y = true) : Lib.trimRightS T blanks = R := by rw [hs, trimR_snoc _ _ hy] at h; exact h
theorem trimL_step {S T R : List UInt8} {y : UInt8} (h : Lib.trimLeftS S blanks = R) (hs : S = y :: T) (hy : blanks.contains y = true) : Lib.trimLeftS T blanks = R := by rw [hs, plain_skip hy] at h; exact h
theorem trimR_end {S T R : List UInt8} {y : UInt8} (h : Lib.trimRightS S blanks = R) (hs : S = T ++ [y]) (hy : blanks.contains y = false) : S = R := by rw [hs, trimR_stop _ _ hy] at h; rw [hs]; exact h
theorem trimL_end {S T R : List UInt8} {y : UInt8} (h : Lib.trimLeftS S blanks = R) (hs : S = y :: T) (hy : blanks.contains y = false) : S = R := by rw [hs, plain_stop hy] at h; rw [hs]; exact h

theorem last_split (S : ByteArray) (h : 0 < S.size) (y : UInt8) (hy : ∀ h, S[S.size - 1]'h = y) : S.data.toList = S.data.toList.take (S.size - 1) ++ [y] := by
  have := take_succ S (S.size - 1) (by omega)
  rw [hy] at this
  rw [show S.size - 1 + 1 = S.size by omega, take_all] at this
  exact this

set_option maxHeartbeats 1000000 in
theorem rtrim_any (s : ByteArray) (w : World) (hs : s.size ≤ 1000000000) :
    Calls Tryz.prog 29 #[.string s] w fun e w' => e = .returned (.string ⟨(plainL s.data.toList).toArray⟩) ∧ w = w' := by
  go_enter Tryz.func29, Tryz.ntmps29
  go_wp2_with fail
  go_loop [0] (fun u0 => ∃ S : ByteArray, u0 = .string S ∧ S.size ≤ s.size ∧ Lib.trimLeftS S.data.toList blanks = Lib.trimLeftS s.data.toList blanks) (fun u0 => strSize u0)
  case atStart => exact ⟨s, rfl, Nat.le_refl _, rfl⟩
  case round =>
    obtain ⟨S, rfl, hle, htr⟩ := hrel
    have HTR := Lib.hid htr
    clear htr
    by_cases h0 : 0 < S.size
    · have he := empty_no h0
      have hda := drop_at S 0 h0
      obtain ⟨d, hd⟩ : ∃ d, S[0] = d := ⟨_, rfl⟩
      rw [hd, List.drop_zero, Nat.zero_add] at hda
      have HD := Lib.hid hda
      clear hda
      obtain ⟨b, hb⟩ : ∃ b, blanks.contains d = b := ⟨_, rfl⟩
      have HG := Lib.hid (rgap_is hb)
      have HB := Lib.hid hb
      clear hb
      go_wp2_with fail
      refine (HG.out _).mono ?_
      rintro e w' ⟨rfl, rfl⟩
      cases b
      · have HST := Lib.hid (trimL_end HTR.out HD.out HB.out)
        clear HTR HD HB HG
        go_wp2_with fail
        go_loop [0] (fun u0 => ∃ S : ByteArray, u0 = .string S ∧ S.size ≤ s.size ∧ Lib.trimRightS S.data.toList blanks = plainL s.data.toList) (fun u0 => strSize u0)
        case atStart => exact ⟨S, rfl, hle, by rw [HST.out]; rfl⟩
        case round =>
          clear HST hd he h0 hle
          obtain ⟨S, rfl, hle, htr⟩ := hrel
          have HTR := Lib.hid htr
          clear htr
          by_cases h0 : 0 < S.size
          · have he := empty_no h0
            obtain ⟨y, hy⟩ : ∃ y, ∀ h, S[S.size - 1]'h = y := ⟨S[S.size - 1]'(by omega), fun _ => rfl⟩
            have HY := Lib.hid (last_split S h0 y hy)
            obtain ⟨b, hb⟩ : ∃ b, blanks.contains y = b := ⟨_, rfl⟩
            have HG := Lib.hid (rgap_is hb)
            have HB := Lib.hid hb
            clear hb
            go_wp2_with fail
            refine (HG.out _).mono ?_
            rintro e w' ⟨rfl, rfl⟩
            cases b
            · have HE := Lib.hid (trimR_end HTR.out HY.out HB.out)
              go_wp2_with fail
              go_ret
              exact ⟨ret_strs HE.out, rfl⟩
            · have HE := Lib.hid (trimR_step HTR.out HY.out HB.out)
              go_wp2_with fail
              go_round
              case rel => exact ⟨_, rfl, by rw [Lib.size_eq, ext_take]; simp; omega, by rw [ext_take]; exact HE.out⟩
              case measure => simp only [strSize]; rw [Lib.size_eq, ext_take]; simp; omega
          · have he := empty_yes (s := S) (by omega)
            have HE := Lib.hid (show S.data.toList = plainL s.data.toList by rw [← HTR.out, show S.data.toList = [] from List.eq_nil_of_length_eq_zero (by rw [← Lib.size_eq]; omega)]; rfl)
            go_wp2_with fail
            go_ret
            exact ⟨ret_strs HE.out, rfl⟩
      · have HE := Lib.hid (trimL_step HTR.out HD.out HB.out)
        go_wp2_with fail
        go_round
        case rel => exact ⟨_, rfl, by rw [Lib.size_eq, ext_drop1]; simp; omega, by rw [ext_drop1]; exact HE.out⟩
        case measure => simp only [strSize]; rw [Lib.size_eq, ext_drop1]; simp; omega
    · have he := empty_yes (s := S) (by omega)
      have hnil : S.data.toList = [] := List.eq_nil_of_length_eq_zero (by rw [← Lib.size_eq]; omega)
      have HNIL := Lib.hid hnil
      have HE := Lib.hid (show S.data.toList = plainL s.data.toList by unfold plainL; rw [← HTR.out, hnil]; rfl)
      clear hnil
      go_wp2_with fail
      go_loop [0] (fun u0 => u0 = .string S) (fun _ => 0)
      case atStart => exact rfl
      case round =>
        subst hrel
        go_wp2_with fail
        go_ret
        exact ⟨ret_strs HE.out, rfl⟩

end Go.Proofs.YtnlmfoccdmkncaaGreatDoor

/-
  The reference's Space and Ascii.
-/
namespace Go.Proofs.YtnlmfoccdmkncaaGreatDoor
open Go.RowKit
set_option maxRecDepth 100000
set_option linter.unusedVariables false
set_option linter.unusedSimpArgs false


set_option maxHeartbeats 2000000 in
theorem rspace_any (r : Int) (w : World) :
    Calls Tryz.prog 76 #[.int .i32 r] w fun e w' => e = .returned (.bool (inSps r spaceSps)) ∧ w = w' := by
  by_cases t1 : r = 9
  · subst t1
    go_enter Tryz.func76, Tryz.ntmps76
    go_wp2_with fail
    go_ret
    exact ⟨rfl, rfl⟩
  have f1 : ((r : Int) == 9) = false := by simpa using t1
  by_cases t2 : r = 10
  · subst t2
    go_enter Tryz.func76, Tryz.ntmps76
    go_wp2_with fail
    go_ret
    exact ⟨rfl, rfl⟩
  have f2 : ((r : Int) == 10) = false := by simpa using t2
  by_cases t3 : r = 12
  · subst t3
    go_enter Tryz.func76, Tryz.ntmps76
    go_wp2_with fail
    go_ret
    exact ⟨rfl, rfl⟩
  have f3 : ((r : Int) == 12) = false := by simpa using t3
  by_cases t4 : r = 13
  · subst t4
    go_enter Tryz.func76, Tryz.ntmps76
    go_wp2_with fail
    go_ret
    exact ⟨rfl, rfl⟩
  have f4 : ((r : Int) == 13) = false := by simpa using t4
  by_cases t5 : r = 32
  · subst t5
    go_enter Tryz.func76, Tryz.ntmps76
    go_wp2_with fail
    go_ret
    exact ⟨rfl, rfl⟩
  have f5 : ((r : Int) == 32) = false := by simpa using t5
  by_cases t6 : r = 160
  · subst t6
    go_enter Tryz.func76, Tryz.ntmps76
    go_wp2_with fail
    go_ret
    exact ⟨rfl, rfl⟩
  have f6 : ((r : Int) == 160) = false := by simpa using t6
  by_cases t7 : r = 5760
  · subst t7
    go_enter Tryz.func76, Tryz.ntmps76
    go_wp2_with fail
    go_ret
    exact ⟨rfl, rfl⟩
  have f7 : ((r : Int) == 5760) = false := by simpa using t7
  by_cases ht : 8192 ≤ r ∧ r ≤ 8202
  · obtain ⟨k1, k2⟩ := ht
    have hr : inSps r spaceSps = true := by unfold inSps inSp spaceSps; simp; omega
    have HR := Lib.hid hr
    clear hr t1 t2 t3 t4 t5 t6 t7
    go_enter Tryz.func76, Tryz.ntmps76
    go_wp2_with fail
    go_ret
    exact ⟨ret_bool HR.out.symm, rfl⟩
  · by_cases t8 : r = 8239
    · subst t8
      go_enter Tryz.func76, Tryz.ntmps76
      go_wp2_with fail
      go_ret
      exact ⟨rfl, rfl⟩
    have f8 : ((r : Int) == 8239) = false := by simpa using t8
    by_cases t9 : r = 8287
    · subst t9
      go_enter Tryz.func76, Tryz.ntmps76
      go_wp2_with fail
      go_ret
      exact ⟨rfl, rfl⟩
    have f9 : ((r : Int) == 8287) = false := by simpa using t9
    by_cases t10 : r = 12288
    · subst t10
      go_enter Tryz.func76, Tryz.ntmps76
      go_wp2_with fail
      go_ret
      exact ⟨rfl, rfl⟩
    have f10 : ((r : Int) == 12288) = false := by simpa using t10
    have hr : inSps r spaceSps = false := by unfold inSps inSp spaceSps; simp; omega
    have HR := Lib.hid hr
    have hc : ¬ 8192 ≤ r ∨ (8192 ≤ r ∧ ¬ r ≤ 8202) := by omega
    clear hr t1 t2 t3 t4 t5 t6 t7 t8 t9 t10 ht
    rcases hc with k1 | ⟨k1, k2⟩
    all_goals
      go_enter Tryz.func76, Tryz.ntmps76
      go_wp2_with fail
      go_ret
      exact ⟨ret_bool HR.out.symm, rfl⟩

set_option maxHeartbeats 2000000 in
theorem rascii_any (c : UInt8) (w : World) :
    Calls Tryz.prog 121 #[.int .u8 (c.toNat : Int)] w fun e w' => e = .returned (.bool (asciiP c)) ∧ w = w' := by
  obtain ⟨b, hb⟩ : ∃ b, asciiP c = b := ⟨_, rfl⟩
  have hlo : 0 ≤ (c.toNat : Int) := by omega
  have hcs : (b = false ∧ (c.toNat : Int) ≤ 32) ∨ (b = true ∧ 33 ≤ (c.toNat : Int) ∧ (c.toNat : Int) ≤ 47) ∨ (b = false ∧ 48 ≤ (c.toNat : Int) ∧ (c.toNat : Int) ≤ 57) ∨ (b = true ∧ 58 ≤ (c.toNat : Int) ∧ (c.toNat : Int) ≤ 64) ∨ (b = false ∧ 65 ≤ (c.toNat : Int) ∧ (c.toNat : Int) ≤ 90) ∨ (b = true ∧ 91 ≤ (c.toNat : Int) ∧ (c.toNat : Int) ≤ 96) ∨ (b = false ∧ 97 ≤ (c.toNat : Int) ∧ (c.toNat : Int) ≤ 122) ∨ (b = true ∧ 123 ≤ (c.toNat : Int) ∧ (c.toNat : Int) ≤ 126) ∨ (b = false ∧ 127 ≤ (c.toNat : Int)) := by
    rw [← hb]
    unfold asciiP inSps inSp asciiSps
    simp
    omega
  have HB := Lib.hid hb
  obtain ⟨x, hx⟩ : ∃ x : Int, (c.toNat : Int) = x := ⟨_, rfl⟩
  rw [hx] at hcs hlo ⊢
  clear hb hx
  have hall : (∃ q : Bool, True ∧ q = decide (33 ≤ x)) := ⟨_, trivial, rfl⟩
  clear hall
  rcases hcs with ⟨rfl, h1⟩ | ⟨rfl, h1, h2⟩ | ⟨rfl, h1, h2⟩ | ⟨rfl, h1, h2⟩ | ⟨rfl, h1, h2⟩ | ⟨rfl, h1, h2⟩ | ⟨rfl, h1, h2⟩ | ⟨rfl, h1, h2⟩ | ⟨rfl, h1⟩
  all_goals
    obtain ⟨p1, e1⟩ : ∃ p : Bool, decide (33 ≤ x) = p := ⟨_, rfl⟩
    have g1 : (33 ≤ x) ∨ ¬ (33 ≤ x) := by omega
    have g2 : (x ≤ 47) ∨ ¬ (x ≤ 47) := by omega
    have g3 : (58 ≤ x) ∨ ¬ (58 ≤ x) := by omega
    have g4 : (x ≤ 64) ∨ ¬ (x ≤ 64) := by omega
    have g5 : (91 ≤ x) ∨ ¬ (91 ≤ x) := by omega
    have g6 : (x ≤ 96) ∨ ¬ (x ≤ 96) := by omega
    have g7 : (123 ≤ x) ∨ ¬ (123 ≤ x) := by omega
    have g8 : (x ≤ 126) ∨ ¬ (x ≤ 126) := by omega
    clear e1
    rcases g1 with g1 | g1 <;> first | (exfalso; omega) | skip
    all_goals rcases g2 with g2 | g2 <;> first | (exfalso; omega) | skip
    all_goals rcases g3 with g3 | g3 <;> first | (exfalso; omega) | skip
    all_goals rcases g4 with g4 | g4 <;> first | (exfalso; omega) | skip
    all_goals rcases g5 with g5 | g5 <;> first | (exfalso; omega) | skip
    all_goals rcases g6 with g6 | g6 <;> first | (exfalso; omega) | skip
    all_goals rcases g7 with g7 | g7 <;> first | (exfalso; omega) | skip
    all_goals rcases g8 with g8 | g8 <;> first | (exfalso; omega) | skip
    all_goals
      go_enter Tryz.func121, Tryz.ntmps121
      go_wp2_with fail
      go_ret
      exact ⟨ret_bool HB.out.symm, rfl⟩

end Go.Proofs.YtnlmfoccdmkncaaGreatDoor

/-
  Looking for signs of ASCII rune by rune is looking for them byte by byte. No program in sight.
-/
namespace Go.Proofs.YtnlmfoccdmkncaaGreatDoor
open Go.RowKit
set_option linter.unusedVariables false
set_option linter.unusedSimpArgs false

def hasRune (S : List UInt8) : Nat → List UInt8 → Bool
  | 0, _ => false
  | n + 1, l => if l = [] then false else (S.any (fun b => b.toNat == (Lib.decodeL l).1)) || hasRune S n (l.drop (Lib.decodeL l).2)
theorem hasRune_bad : ∀ (n : Nat) (l : List UInt8), hasBad n l = hasRune badSigns n l
  | 0, _ => rfl
  | n + 1, l => by rw [hasBad, hasRune, hasRune_bad n]

theorem decodeL_big (b : UInt8) (z : List UInt8) (h : 128 ≤ b.toNat) : 128 ≤ (Lib.decodeL (b :: z)).1 := by
  rw [Lib.decodeL_N]
  simp only [List.getD_cons_zero]
  unfold Lib.decodeN
  repeat' split
  all_goals first | omega | (simp only; omega)

theorem isCont_big {b : UInt8} (h : isCont b = true) : 128 ≤ b.toNat := by unfold isCont at h; simp at h; omega

theorem any_skip (S : List UInt8) (hS : ∀ b ∈ S, b.toNat < 128) : ∀ (l : List UInt8) (k : Nat), (∀ x ∈ l.take k, 128 ≤ x.toNat) → l.any (S.contains ·) = (l.drop k).any (S.contains ·)
  | l, 0, _ => by simp
  | [], k + 1, _ => by simp
  | c :: l, k + 1, h => by
    have hc : S.contains c = false := by
      cases hx : S.contains c with
      | false => rfl
      | true => have h1 := hS c (List.contains_iff_mem.1 hx); have h2 := h c (by simp); omega
    rw [List.any_cons, hc, Bool.false_or, any_skip S hS l k (fun x hx => h x (by rw [List.take_succ_cons]; exact List.mem_cons_of_mem _ hx))]
    rfl

theorem hasRune_any (S : List UInt8) (hS : ∀ b ∈ S, b.toNat < 128) : ∀ (n : Nat) (l : List UInt8), l.length ≤ n → hasRune S n l = l.any (S.contains ·)
  | n, [], _ => by cases n <;> simp [hasRune]
  | 0, b :: z, h => by simp at h
  | n + 1, b :: z, h => by
    have hw := Lib.decodeL_width (b :: z)
    rw [hasRune, if_neg (by simp), hasRune_any S hS n _ (by rw [List.length_drop]; simp only [List.length_cons] at *; omega)]
    by_cases hb : b.toNat < 128
    · rw [Lib.decodeL_ascii b z hb, List.any_cons]
      simp only [List.drop_succ_cons, List.drop_zero]
      congr 1
      rw [Bool.eq_iff_iff, List.any_eq_true, List.contains_iff_mem]
      constructor
      · rintro ⟨x, hx, he⟩
        have : x = b := by rw [← UInt8.toNat_inj]; simpa using he
        rwa [this] at hx
      · intro hx; exact ⟨b, hx, by simp⟩
    · have hbig := decodeL_big b z (by omega)
      have hno : (S.any fun x => x.toNat == (Lib.decodeL (b :: z)).1) = false := by
        rw [List.any_eq_false]
        intro x hx
        have := hS x hx
        simp; omega
      rw [hno, Bool.false_or]
      refine (any_skip S hS _ _ ?_).symm
      intro x hx
      obtain ⟨m, hm⟩ : ∃ m, (Lib.decodeL (b :: z)).2 = m + 1 := ⟨(Lib.decodeL (b :: z)).2 - 1, by omega⟩
      have hc := (width_conts b z).1
      rw [hm] at hx hc
      rw [List.take_succ_cons] at hx
      rcases List.mem_cons.1 hx with rfl | hx
      · omega
      · exact isCont_big (hc x (by simpa using hx))

theorem hasBad_any (l : List UInt8) : hasBad l.length l = l.any (badSigns.contains ·) := by
  rw [hasRune_bad, hasRune_any badSigns (by decide) _ _ (Nat.le_refl _)]

end Go.Proofs.YtnlmfoccdmkncaaGreatDoor

/-
  The reference's Fold and DefName: they answer as the program's do.
-/
namespace Go.Proofs.YtnlmfoccdmkncaaGreatDoor
open Go.RowKit
set_option maxRecDepth 100000
set_option linter.unusedVariables false
set_option linter.unusedSimpArgs false

theorem encode_small (r : Nat) (h : (65 ≤ r ∧ r ≤ 90) ∨ (192 ≤ r ∧ r ≤ 222)) : (Utf8.encode ((r : Int) + 32)).data.toList = Lib.encodeRune ((r : Int) + 32) := by
  have h1 : ∀ i : Fin 26, (Utf8.encode (((65 + i.val : Nat) : Int) + 32)).data.toList = Lib.encodeRune (((65 + i.val : Nat) : Int) + 32) := by decide +kernel
  have h2 : ∀ i : Fin 31, (Utf8.encode (((192 + i.val : Nat) : Int) + 32)).data.toList = Lib.encodeRune (((192 + i.val : Nat) : Int) + 32) := by decide +kernel
  rcases h with h | h
  · have := h1 ⟨r - 65, by omega⟩
    simp only at this
    rwa [show 65 + (r - 65) = r by omega] at this
  · have := h2 ⟨r - 192, by omega⟩
    simp only at this
    rwa [show 192 + (r - 192) = r by omega] at this

/-- What one rune makes of what stands folded. -/
def foldStep (acc : List UInt8) (gap : Bool) (t : List UInt8) : List UInt8 := (if gap then acc ++ [32] else acc) ++ t
def FoldR (s : ByteArray) (acc : ByteArray) (gap : Bool) (pos : Nat) : Prop :=
  ∃ (f : Nat) (sp : Bool), gap = (sp && decide (0 < acc.size)) ∧ foldGo f (s.data.toList.drop pos) sp acc.data.toList = fold s.data.toList ∧ s.size ≤ pos + f

theorem foldR_step {s acc : ByteArray} {gap : Bool} {pos r n : Nat} (h : FoldR s acc gap pos) (hp : pos < s.size) (hd : Lib.decodeL (s.data.toList.drop pos) = (r, n)) (t : List UInt8) (ht : t ≠ [])
    (hs : inSps (r : Int) spaceSps = false) (hc : t = if inSps (r : Int) upSps then Lib.encodeRune ((r : Int) + 32) else (s.data.toList.drop pos).take n) (a : ByteArray) (ha : a.data.toList = foldStep acc.data.toList gap t) : FoldR s a false (pos + n) := by
  obtain ⟨f, sp, hg, hf, hl⟩ := h
  obtain ⟨f, rfl⟩ : ∃ g, f = g + 1 := ⟨f - 1, by omega⟩
  have hne : s.data.toList.drop pos ≠ [] := by intro h0; have := congrArg List.length h0; simp at this; omega
  have hw := Lib.decodeL_width (s.data.toList.drop pos)
  rw [hd] at hw
  refine ⟨f, false, by simp, ?_, by simp at hw; omega⟩
  rw [foldGo, if_neg hne, hd] at hf
  simp only [hs, Bool.false_eq_true, if_false] at hf
  rw [← hf, List.drop_drop, ha, hc, foldStep, hg, Lib.size_eq]
theorem foldR_space {s acc : ByteArray} {gap : Bool} {pos r n : Nat} (h : FoldR s acc gap pos) (hp : pos < s.size) (hd : Lib.decodeL (s.data.toList.drop pos) = (r, n))
    (hs : inSps (r : Int) spaceSps = true) : FoldR s acc (!acc.toList.isEmpty) (pos + n) := by
  obtain ⟨f, sp, hg, hf, hl⟩ := h
  obtain ⟨f, rfl⟩ : ∃ g, f = g + 1 := ⟨f - 1, by omega⟩
  have hne : s.data.toList.drop pos ≠ [] := by intro h0; have := congrArg List.length h0; simp at this; omega
  have hw := Lib.decodeL_width (s.data.toList.drop pos)
  rw [hd] at hw
  refine ⟨f, true, ?_, ?_, by simp at hw; omega⟩
  · by_cases h0 : 0 < acc.size
    · rw [empty_no h0]; simp [h0]
    · rw [empty_yes (by omega)]; simp [h0]
  · rw [foldGo, if_neg hne, hd] at hf
    simp only [hs, if_true] at hf
    rw [← hf, List.drop_drop]


set_option maxHeartbeats 8000000 in
theorem rfold_any (s : ByteArray) (w : World) (hE : Env w) (hs : s.size ≤ 1000000) :
    Calls Tryz.prog 21 #[.string s] w fun e w' => e = .returned (.string ⟨(fold s.data.toList).toArray⟩) ∧ Below w.heap.size w w' := by
  have HE := Lib.hid hE
  clear hE
  go_enter Tryz.func21, Tryz.ntmps21
  go_wp2_with fail
  go_loopw [3, 4, 5] (fun u3 u4 u5 wr => ∃ (acc : ByteArray) (gap : Bool) (pos : Nat), pos ≤ s.size ∧ u3 = .string acc ∧ u4 = .bool gap ∧ u5 = .int .i64 pos ∧ acc.size ≤ 5 * pos ∧ FoldR s acc gap pos ∧ Below w.heap.size w wr) (fun _ _ u5 _ => s.size - (intOf u5).toNat)
  case atStart => exact ⟨⟨#[]⟩, false, 0, Nat.zero_le _, rfl, rfl, rfl, by decide, ⟨s.size, false, rfl, (by unfold fold; rw [← Lib.size_eq]; rfl), by omega⟩, Below.refl _ _⟩
  case round =>
    obtain ⟨acc, gap, pos, hpos, rfl, rfl, rfl, hal, hF, hbw⟩ := hrel
    have HF := Lib.hid hF
    clear hF
    by_cases hp : pos < s.size
    · have hpI : (pos : Int) < (s.size : Int) := by omega
      have hwd := Lib.decodeL_width (s.data.toList.drop pos)
      have hrl := Lib.decodeL_rune (s.data.toList.drop pos)
      have hne : s.data.toList.drop pos ≠ [] := by intro h0; have := congrArg List.length h0; simp at this; omega
      have hwl := Lib.decodeL_le _ hne
      have hgo := decodeGo_at s pos hp
      obtain ⟨S, hS⟩ : ∃ S : ByteArray, s.extract pos s.size = S := ⟨_, rfl⟩
      rw [hS] at hgo
      obtain ⟨r, n, hrn⟩ : ∃ r n, Lib.decodeL (s.data.toList.drop pos) = (r, n) := ⟨_, _, rfl⟩
      have hn4 : n ≤ 4 := by
        have := width4 (s.data.toList.drop pos)
        rw [hrn] at this; exact this
      rw [hrn] at hwd hrl hwl hgo
      simp only at hwd hrl hwl
      have hpn : pos + n ≤ s.size := by simp at hwl; omega
      obtain ⟨Y, hY⟩ : ∃ Y : ByteArray, s.extract pos (pos + n) = Y := ⟨_, rfl⟩
      have hYl : Y.data.toList = (s.data.toList.drop pos).take n := by rw [← hY, Lib.extract_data]; congr 1; omega
      have hYz : Y.size = n := by rw [Lib.size_eq, hYl]; simp at hwl ⊢; omega
      have HRN := Lib.hid hrn
      have HYL := Lib.hid (And.intro hYl hYz)
      have HGO := Lib.hid hgo
      have hdec := fun W (hW : Env W) => Tryz.utf8_DecodeRuneInString S W hW.u8
      rw [hgo] at hdec
      have HDEC := Lib.hid hdec
      clear hrn hYl hYz hgo hdec hwl hne
      obtain ⟨spc, hspc⟩ : ∃ b, inSps (r : Int) spaceSps = b := ⟨_, rfl⟩
      have HSP := Lib.hid hspc
      have hsc := fun W => rspace_any (r : Int) W
      rw [hspc] at hsc
      have HSC := Lib.hid hsc
      clear hsc hspc
      have hZ : Y.size ≤ 4 := by have := HYL.out.2; omega
      have hYne : Y.data.toList ≠ [] := by intro h0; have := HYL.out.2; rw [Lib.size_eq, h0] at this; simp at this; omega
      have HYN := Lib.hid hYne
      clear hYne
      by_cases hr1 : n ≤ 1 ∧ r = 65533
      · obtain ⟨hn1, hr1⟩ := hr1
        have k1 : ¬ (1 : Int) < (n : Int) := by omega
        subst hr1
        have HS0 := Lib.hid (show inSps ((65533 : Nat) : Int) spaceSps = false by decide)
        have HU0 := Lib.hid (show inSps ((65533 : Nat) : Int) upSps = false by decide)
        have HT0 := Lib.hid (rfl : Y.data.toList = Y.data.toList)
        clear HSC HSP
        go_wp2_with fail
        refine (HDEC.out _ (HE.out.below hbw)).mono ?_
        rintro e w2 ⟨rfl, b2⟩
        have hb3 := below_step hbw b2
        clear b2 hbw HDEC
        cases gap
        · have v1 : ¬ (9223372036854775807 < acc.size + (Y).size) := by have := hZ; omega
          go_wp2_with fail
          go_roundw
          case rel => exact ⟨_, false, pos + n, hpn, rfl, rfl, by go_num, by rw [Lib.size_eq, app_list, List.length_append, ← Lib.size_eq, ← Lib.size_eq]; have := hZ; omega, foldR_step HF.out hp HRN.out Y.data.toList HYN.out HS0.out (by rw [HU0.out, if_neg (by simp)]; exact HYL.out.1) _ (by simp only [app_list, foldStep, HT0.out, Bool.false_eq_true, if_false]), hb3⟩
          case measure => simp [intOf]; omega
        · have v1 : ¬ (9223372036854775807 < acc.size + 1) := by omega
          have v2 : ¬ (9223372036854775807 < acc.size + 1 + (Y).size) := by have := hZ; omega
          go_wp2_with fail
          go_roundw
          case rel => exact ⟨_, false, pos + n, hpn, rfl, rfl, by go_num, by rw [Lib.size_eq, app_list, app_list, List.length_append, List.length_append, ← Lib.size_eq, ← Lib.size_eq, ← Lib.size_eq]; have := hZ; have h32 : (⟨#[32]⟩ : ByteArray).size = 1 := rfl; omega, foldR_step HF.out hp HRN.out Y.data.toList HYN.out HS0.out (by rw [HU0.out, if_neg (by simp)]; exact HYL.out.1) _ (by simp only [app_list, foldStep, HT0.out, if_true]), hb3⟩
          case measure => simp [intOf]; omega
      · have hA : (1 : Int) < (n : Int) ∨ (¬ (1 : Int) < (n : Int) ∧ (((r : Int) != 65533) = true)) := by
          by_cases h : 1 < n
          · exact .inl (by omega)
          · exact .inr ⟨by omega, by simp; omega⟩
        have hacc : acc.size ≤ 5000000 := by omega
        cases spc
        · have HS0 := Lib.hid HSP.out
          clear hr1
          have hcl : (inSps (r : Int) upSps = true ∧ (65 ≤ (r : Int) ∧ (r : Int) ≤ 90)) ∨ (inSps (r : Int) upSps = true ∧ (¬ (r : Int) ≤ 90 ∧ 65 ≤ (r : Int) ∧ 192 ≤ (r : Int) ∧ (r : Int) ≤ 222 ∧ (((r : Int) != 215) = true))) ∨ (inSps (r : Int) upSps = false ∧ ¬ 65 ≤ (r : Int) ∧ ¬ 192 ≤ (r : Int)) ∨ (inSps (r : Int) upSps = false ∧ 65 ≤ (r : Int) ∧ ¬ (r : Int) ≤ 90 ∧ ¬ 192 ≤ (r : Int)) ∨ (inSps (r : Int) upSps = false ∧ 65 ≤ (r : Int) ∧ ¬ (r : Int) ≤ 90 ∧ 192 ≤ (r : Int) ∧ (r : Int) ≤ 222 ∧ (((r : Int) != 215) = false)) ∨ (inSps (r : Int) upSps = false ∧ 65 ≤ (r : Int) ∧ ¬ (r : Int) ≤ 90 ∧ 192 ≤ (r : Int) ∧ ¬ (r : Int) ≤ 222) := by
            unfold inSps inSp upSps
            simp
            omega
          rcases hcl with ⟨hup, g1, g2⟩ | ⟨hup, g1, g2, g3, g4, g5⟩ | hcl
          · have HU0 := Lib.hid hup
            obtain ⟨Z, hZZ⟩ : ∃ Z, Utf8.encode ((r : Int) + 32) = Z := ⟨_, rfl⟩
            have hZl : Z.data.toList = Lib.encodeRune ((r : Int) + 32) := by rw [← hZZ]; exact encode_small r (by omega)
            have HT0 := Lib.hid hZl
            have hZ : Z.size ≤ 4 := by rw [Lib.size_eq, hZl]; have := Lib.runeCells_le ((r : Int) + 32); rw [Lib.runeCells_length] at this; exact this.2
            have hne2 := (up_decode hup []).2.2.2.2
            have HNE := Lib.hid hne2
            clear hup hZl hne2
            rcases hA with q1 | ⟨q1, q2⟩
            all_goals
              go_wp2_with fail
              refine (HDEC.out _ (HE.out.below hbw)).mono ?_
              rintro e w2 ⟨rfl, b2⟩
              have hb3 := below_step hbw b2
              clear b2 hbw HDEC
              go_wp2_with fail
              refine (HSC.out _).mono ?_
              rintro e w' ⟨rfl, rfl⟩
              cases gap
              · have v1 : ¬ (9223372036854775807 < acc.size + (Z).size) := by have := hZ; omega
                go_wp2_with fail
                go_roundw
                case rel => exact ⟨_, false, pos + n, hpn, rfl, rfl, by go_num, by rw [Lib.size_eq, app_list, List.length_append, ← Lib.size_eq, ← Lib.size_eq]; have := hZ; omega, foldR_step HF.out hp HRN.out (Lib.encodeRune ((r : Int) + 32)) HNE.out HS0.out (by rw [HU0.out, if_pos rfl]) _ (by simp only [app_list, foldStep, HT0.out, Bool.false_eq_true, if_false]), hb3⟩
                case measure => simp [intOf]; omega
              · have v1 : ¬ (9223372036854775807 < acc.size + 1) := by omega
                have v2 : ¬ (9223372036854775807 < acc.size + 1 + (Z).size) := by have := hZ; omega
                go_wp2_with fail
                go_roundw
                case rel => exact ⟨_, false, pos + n, hpn, rfl, rfl, by go_num, by rw [Lib.size_eq, app_list, app_list, List.length_append, List.length_append, ← Lib.size_eq, ← Lib.size_eq, ← Lib.size_eq]; have := hZ; have h32 : (⟨#[32]⟩ : ByteArray).size = 1 := rfl; omega, foldR_step HF.out hp HRN.out (Lib.encodeRune ((r : Int) + 32)) HNE.out HS0.out (by rw [HU0.out, if_pos rfl]) _ (by simp only [app_list, foldStep, HT0.out, if_true]), hb3⟩
                case measure => simp [intOf]; omega
          · have HU0 := Lib.hid hup
            obtain ⟨Z, hZZ⟩ : ∃ Z, Utf8.encode ((r : Int) + 32) = Z := ⟨_, rfl⟩
            have hZl : Z.data.toList = Lib.encodeRune ((r : Int) + 32) := by rw [← hZZ]; exact encode_small r (by omega)
            have HT0 := Lib.hid hZl
            have hZ : Z.size ≤ 4 := by rw [Lib.size_eq, hZl]; have := Lib.runeCells_le ((r : Int) + 32); rw [Lib.runeCells_length] at this; exact this.2
            have hne2 := (up_decode hup []).2.2.2.2
            have HNE := Lib.hid hne2
            clear hup hZl hne2
            rcases hA with q1 | ⟨q1, q2⟩
            all_goals
              go_wp2_with fail
              refine (HDEC.out _ (HE.out.below hbw)).mono ?_
              rintro e w2 ⟨rfl, b2⟩
              have hb3 := below_step hbw b2
              clear b2 hbw HDEC
              go_wp2_with fail
              refine (HSC.out _).mono ?_
              rintro e w' ⟨rfl, rfl⟩
              cases gap
              · have v1 : ¬ (9223372036854775807 < acc.size + (Z).size) := by have := hZ; omega
                go_wp2_with fail
                go_roundw
                case rel => exact ⟨_, false, pos + n, hpn, rfl, rfl, by go_num, by rw [Lib.size_eq, app_list, List.length_append, ← Lib.size_eq, ← Lib.size_eq]; have := hZ; omega, foldR_step HF.out hp HRN.out (Lib.encodeRune ((r : Int) + 32)) HNE.out HS0.out (by rw [HU0.out, if_pos rfl]) _ (by simp only [app_list, foldStep, HT0.out, Bool.false_eq_true, if_false]), hb3⟩
                case measure => simp [intOf]; omega
              · have v1 : ¬ (9223372036854775807 < acc.size + 1) := by omega
                have v2 : ¬ (9223372036854775807 < acc.size + 1 + (Z).size) := by have := hZ; omega
                go_wp2_with fail
                go_roundw
                case rel => exact ⟨_, false, pos + n, hpn, rfl, rfl, by go_num, by rw [Lib.size_eq, app_list, app_list, List.length_append, List.length_append, ← Lib.size_eq, ← Lib.size_eq, ← Lib.size_eq]; have := hZ; have h32 : (⟨#[32]⟩ : ByteArray).size = 1 := rfl; omega, foldR_step HF.out hp HRN.out (Lib.encodeRune ((r : Int) + 32)) HNE.out HS0.out (by rw [HU0.out, if_pos rfl]) _ (by simp only [app_list, foldStep, HT0.out, if_true]), hb3⟩
                case measure => simp [intOf]; omega
          · have HT0 := Lib.hid (rfl : Y.data.toList = Y.data.toList)
            rcases hcl with ⟨hup, g1, g2⟩ | ⟨hup, g1, g2, g3⟩ | ⟨hup, g1, g2, g3, g4, g5⟩ | ⟨hup, g1, g2, g3, g4⟩
            all_goals
              have HU0 := Lib.hid hup
              clear hup
              rcases hA with q1 | ⟨q1, q2⟩
              all_goals
                go_wp2_with fail
                refine (HDEC.out _ (HE.out.below hbw)).mono ?_
                rintro e w2 ⟨rfl, b2⟩
                have hb3 := below_step hbw b2
                clear b2 hbw HDEC
                go_wp2_with fail
                refine (HSC.out _).mono ?_
                rintro e w' ⟨rfl, rfl⟩
                cases gap
                · have v1 : ¬ (9223372036854775807 < acc.size + (Y).size) := by have := hZ; omega
                  go_wp2_with fail
                  go_roundw
                  case rel => exact ⟨_, false, pos + n, hpn, rfl, rfl, by go_num, by rw [Lib.size_eq, app_list, List.length_append, ← Lib.size_eq, ← Lib.size_eq]; have := hZ; omega, foldR_step HF.out hp HRN.out Y.data.toList HYN.out HS0.out (by rw [HU0.out, if_neg (by simp)]; exact HYL.out.1) _ (by simp only [app_list, foldStep, HT0.out, Bool.false_eq_true, if_false]), hb3⟩
                  case measure => simp [intOf]; omega
                · have v1 : ¬ (9223372036854775807 < acc.size + 1) := by omega
                  have v2 : ¬ (9223372036854775807 < acc.size + 1 + (Y).size) := by have := hZ; omega
                  go_wp2_with fail
                  go_roundw
                  case rel => exact ⟨_, false, pos + n, hpn, rfl, rfl, by go_num, by rw [Lib.size_eq, app_list, app_list, List.length_append, List.length_append, ← Lib.size_eq, ← Lib.size_eq, ← Lib.size_eq]; have := hZ; have h32 : (⟨#[32]⟩ : ByteArray).size = 1 := rfl; omega, foldR_step HF.out hp HRN.out Y.data.toList HYN.out HS0.out (by rw [HU0.out, if_neg (by simp)]; exact HYL.out.1) _ (by simp only [app_list, foldStep, HT0.out, if_true]), hb3⟩
                  case measure => simp [intOf]; omega
        · have HN := Lib.hid (foldR_space HF.out hp HRN.out HSP.out)
          clear hr1
          rcases hA with q1 | ⟨q1, q2⟩
          all_goals
            go_wp2_with fail
            refine (HDEC.out _ (HE.out.below hbw)).mono ?_
            rintro e w2 ⟨rfl, b2⟩
            have hb3 := below_step hbw b2
            clear b2 hbw HDEC
            go_wp2_with fail
            refine (HSC.out _).mono ?_
            rintro e w' ⟨rfl, rfl⟩
            go_wp2_with fail
            go_roundw
            case rel => exact ⟨_, _, pos + n, hpn, rfl, rfl, by go_num, by omega, HN.out, hb3⟩
            case measure => simp [intOf]; omega
    · obtain rfl : pos = s.size := by omega
      have HD := Lib.hid (show acc.data.toList = fold s.data.toList by
        obtain ⟨f, sp, _, hf, _⟩ := HF.out
        rw [drop_end _ _ (Nat.le_refl _), foldGo_nil] at hf
        exact hf)
      go_wp2_with fail
      go_ret
      exact ⟨ret_strs HD.out, hbw⟩

end Go.Proofs.YtnlmfoccdmkncaaGreatDoor

/-
  The reference's DefName: it answers as the program's Name does.
-/
namespace Go.Proofs.YtnlmfoccdmkncaaGreatDoor
open Go.RowKit
set_option maxRecDepth 100000
set_option linter.unusedVariables false
set_option linter.unusedSimpArgs false

theorem any_or (P Q : UInt8 → Bool) : ∀ l : List UInt8, l.any (fun x => P x || Q x) = (l.any P || l.any Q)
  | [] => rfl
  | x :: l => by simp only [List.any_cons, any_or P Q l]; cases P x <;> cases Q x <;> simp
theorem any_is (c : UInt8) : ∀ l : List UInt8, l.any (fun x => x == c) = l.contains c
  | [] => rfl
  | x :: l => by
    simp only [List.any_cons, any_is c l, List.contains_cons]
    congr 1
    rw [Bool.eq_iff_iff, beq_iff_eq, beq_iff_eq]
    exact eq_comm
theorem hasBad_rows (l : List UInt8) : hasBad l.length l = (hasB 91 l || hasB 93 l || hasB 10 l || hasB 0 l) := by
  rw [hasBad_any]
  have : (fun x => badSigns.contains x) = fun x : UInt8 => ((x == 91 || x == 93) || x == 10) || x == 0 := by
    funext x
    rw [Bool.eq_iff_iff]
    simp [badSigns, or_assoc]
  rw [this, any_or, any_or, any_or, any_is, any_is, any_is, any_is]
  rfl

theorem nameL_rows (l : List UInt8) : nameL l = if fold l = [] ∨ 60 < (fold l).length ∨ hasB 91 l = true ∨ hasB 93 l = true ∨ hasB 10 l = true ∨ hasB 0 l = true then ([], false) else (fold l, true) := by
  unfold nameL
  rw [hasBad_rows]
  cases hasB 91 l <;> cases hasB 93 l <;> cases hasB 10 l <;> cases hasB 0 l <;> simp

set_option maxHeartbeats 4000000 in
theorem rname_any (s : ByteArray) (w : World) (hE : Env w) (hs : s.size ≤ 1000000) :
    Calls Tryz.prog 7 #[.string s] w fun e w' => e = .returned (.tuple #[.string ⟨(nameL s.data.toList).1.toArray⟩, .bool (nameL s.data.toList).2]) ∧ Below w.heap.size w w' := by
  obtain ⟨F, hF⟩ : ∃ F : ByteArray, ⟨(fold s.data.toList).toArray⟩ = F := ⟨_, rfl⟩
  have hFl : fold s.data.toList = F.data.toList := by rw [← hF]
  have hc := rfold_any s w hE hs
  rw [hF] at hc
  have HC := Lib.hid hc
  have hN := nameL_rows s.data.toList
  rw [hFl] at hN
  have r1 : ∀ W, Calls Tryz.prog 22 #[.string s, .int .u8 91] W fun e w' => e = .returned (.bool (hasB 91 s.data.toList)) ∧ W = w' := fun W => row2_any s 91 W (by omega)
  have r2 : ∀ W, Calls Tryz.prog 22 #[.string s, .int .u8 93] W fun e w' => e = .returned (.bool (hasB 93 s.data.toList)) ∧ W = w' := fun W => row2_any s 93 W (by omega)
  have r3 : ∀ W, Calls Tryz.prog 22 #[.string s, .int .u8 10] W fun e w' => e = .returned (.bool (hasB 10 s.data.toList)) ∧ W = w' := fun W => row2_any s 10 W (by omega)
  have r4 : ∀ W, Calls Tryz.prog 22 #[.string s, .int .u8 0] W fun e w' => e = .returned (.bool (hasB 0 s.data.toList)) ∧ W = w' := fun W => row2_any s 0 W (by omega)
  obtain ⟨b1, h1⟩ : ∃ b, hasB 91 s.data.toList = b := ⟨_, rfl⟩
  obtain ⟨b2, h2⟩ : ∃ b, hasB 93 s.data.toList = b := ⟨_, rfl⟩
  obtain ⟨b3, h3⟩ : ∃ b, hasB 10 s.data.toList = b := ⟨_, rfl⟩
  obtain ⟨b4, h4⟩ : ∃ b, hasB 0 s.data.toList = b := ⟨_, rfl⟩
  rw [h1] at r1 hN
  rw [h2] at r2 hN
  rw [h3] at r3 hN
  rw [h4] at r4 hN
  have R1 := Lib.hid r1
  have R2 := Lib.hid r2
  have R3 := Lib.hid r3
  have R4 := Lib.hid r4
  clear hc hF hFl hE r1 r2 r3 r4 h1 h2 h3 h4
  by_cases h0 : 0 < F.size
  · have he := empty_no h0
    have hFne : F.data.toList ≠ [] := by intro h; rw [Lib.size_eq, h] at h0; exact absurd h0 (by simp)
    by_cases h60 : (60 : Int) < (F.size : Int)
    · have HN := Lib.hid (hN.trans (if_pos (Or.inr (Or.inl (by rw [← Lib.size_eq]; omega)))))
      clear hN hFne
      go_enter Tryz.func7, Tryz.ntmps7
      go_wp2_with fail
      refine HC.out.mono ?_
      rintro e w2 ⟨rfl, bb⟩
      go_wp2_with fail
      go_ret2
      exact ⟨ret_sb HN.out, bb⟩
    · have h60n : ¬ 60 < F.data.toList.length := by rw [← Lib.size_eq]; omega
      cases b1
      · cases b2
        · cases b3
          · cases b4
            · have HN := Lib.hid (hN.trans (if_neg (by simp [hFne]; omega)))
              clear hN hFne h60n
              go_enter Tryz.func7, Tryz.ntmps7
              go_wp2_with fail
              refine HC.out.mono ?_
              rintro e w2 ⟨rfl, bb⟩
              go_wp2_with fail
              refine (R1.out _).mono ?_
              rintro e w' ⟨rfl, hw'⟩
              obtain rfl := hw'.symm
              go_wp2_with fail
              refine (R2.out _).mono ?_
              rintro e w' ⟨rfl, hw'⟩
              obtain rfl := hw'.symm
              go_wp2_with fail
              refine (R3.out _).mono ?_
              rintro e w' ⟨rfl, hw'⟩
              obtain rfl := hw'.symm
              go_wp2_with fail
              refine (R4.out _).mono ?_
              rintro e w' ⟨rfl, hw'⟩
              obtain rfl := hw'.symm
              go_wp2_with fail
              go_ret2
              exact ⟨ret_sb HN.out, bb⟩
            · have HN := Lib.hid (hN.trans (if_pos (by simp)))
              clear hN hFne h60n
              go_enter Tryz.func7, Tryz.ntmps7
              go_wp2_with fail
              refine HC.out.mono ?_
              rintro e w2 ⟨rfl, bb⟩
              go_wp2_with fail
              refine (R1.out _).mono ?_
              rintro e w' ⟨rfl, hw'⟩
              obtain rfl := hw'.symm
              go_wp2_with fail
              refine (R2.out _).mono ?_
              rintro e w' ⟨rfl, hw'⟩
              obtain rfl := hw'.symm
              go_wp2_with fail
              refine (R3.out _).mono ?_
              rintro e w' ⟨rfl, hw'⟩
              obtain rfl := hw'.symm
              go_wp2_with fail
              refine (R4.out _).mono ?_
              rintro e w' ⟨rfl, hw'⟩
              obtain rfl := hw'.symm
              go_wp2_with fail
              go_ret2
              exact ⟨ret_sb HN.out, bb⟩
          · have HN := Lib.hid (hN.trans (if_pos (by simp)))
            clear hN hFne h60n
            go_enter Tryz.func7, Tryz.ntmps7
            go_wp2_with fail
            refine HC.out.mono ?_
            rintro e w2 ⟨rfl, bb⟩
            go_wp2_with fail
            refine (R1.out _).mono ?_
            rintro e w' ⟨rfl, hw'⟩
            obtain rfl := hw'.symm
            go_wp2_with fail
            refine (R2.out _).mono ?_
            rintro e w' ⟨rfl, hw'⟩
            obtain rfl := hw'.symm
            go_wp2_with fail
            refine (R3.out _).mono ?_
            rintro e w' ⟨rfl, hw'⟩
            obtain rfl := hw'.symm
            go_wp2_with fail
            go_ret2
            exact ⟨ret_sb HN.out, bb⟩
        · have HN := Lib.hid (hN.trans (if_pos (by simp)))
          clear hN hFne h60n
          go_enter Tryz.func7, Tryz.ntmps7
          go_wp2_with fail
          refine HC.out.mono ?_
          rintro e w2 ⟨rfl, bb⟩
          go_wp2_with fail
          refine (R1.out _).mono ?_
          rintro e w' ⟨rfl, hw'⟩
          obtain rfl := hw'.symm
          go_wp2_with fail
          refine (R2.out _).mono ?_
          rintro e w' ⟨rfl, hw'⟩
          obtain rfl := hw'.symm
          go_wp2_with fail
          go_ret2
          exact ⟨ret_sb HN.out, bb⟩
      · have HN := Lib.hid (hN.trans (if_pos (by simp)))
        clear hN hFne h60n
        go_enter Tryz.func7, Tryz.ntmps7
        go_wp2_with fail
        refine HC.out.mono ?_
        rintro e w2 ⟨rfl, bb⟩
        go_wp2_with fail
        refine (R1.out _).mono ?_
        rintro e w' ⟨rfl, hw'⟩
        obtain rfl := hw'.symm
        go_wp2_with fail
        go_ret2
        exact ⟨ret_sb HN.out, bb⟩
  · have he := empty_yes (s := F) (by omega)
    have hFn : F.data.toList = [] := List.eq_nil_of_length_eq_zero (by rw [← Lib.size_eq]; omega)
    have HN := Lib.hid (hN.trans (if_pos (Or.inl hFn)))
    clear hN hFn
    go_enter Tryz.func7, Tryz.ntmps7
    go_wp2_with fail
    refine HC.out.mono ?_
    rintro e w2 ⟨rfl, bb⟩
    go_wp2_with fail
    go_ret2
    exact ⟨ret_sb HN.out, bb⟩

end Go.Proofs.YtnlmfoccdmkncaaGreatDoor

/-
  The reference's Find (chapter 14): it answers as a table of the same definitions does.
-/
namespace Go.Proofs.YtnlmfoccdmkncaaGreatDoor
open Go.RowKit
set_option maxRecDepth 100000
set_option linter.unusedVariables false
set_option linter.unusedSimpArgs false

set_option maxHeartbeats 4000000 in
theorem rfind_any (ds : List DefL) (v : Value) (s : ByteArray) (note : Bool) (w : World) (hE : Env w) (hT : ReadsDefs w v ds) (hl : ds.length ≤ 1000000000) (hs : s.size ≤ 1000000) :
    Calls Tryz.prog 18 #[v, .string s, .bool note] w fun e w' => e = .returned (.tuple #[(findL (some ds) s.data.toList note).1.val, .bool (findL (some ds) s.data.toList note).2]) ∧ Below w.heap.size w w' := by
  have hb1 : Below w.heap.size w (w.alloc (.cells #[.string ⟨#[]⟩, .string ⟨#[]⟩, .string ⟨#[]⟩, .string ⟨#[]⟩, .bool false] 26)) := (Below.refl _ w).alloc (Nat.le_refl _) _
  have hnm := rname_any s _ (hE.below hb1) hs
  obtain ⟨r, hr⟩ : ∃ r, findL (some ds) s.data.toList note = r := ⟨_, rfl⟩
  rw [hr]
  have hr' := hr
  unfold findL at hr'
  obtain ⟨x, is, hx⟩ : ∃ x is, nameL s.data.toList = (x, is) := ⟨_, _, rfl⟩
  rw [hx] at hnm hr'
  simp only at hnm hr'
  have HNM := Lib.hid hnm
  clear hnm hx hr hE
  obtain ⟨ao, cp, rfl, hR, _⟩ := hT
  obtain ⟨N, hN⟩ : ∃ N, ds.length = N := ⟨_, rfl⟩
  rw [hN] at hl hR ⊢
  have HNN := Lib.hid hN
  have HRR := Lib.hid hR
  clear hN hR
  cases is
  · have HQ := Lib.hid (show r = (DefL.none, false) by rw [← hr', if_pos rfl])
    clear hr'
    go_enter Tryz.func18, Tryz.ntmps18
    go_wp2_with fail
    refine HNM.out.mono ?_
    rintro e w2 ⟨rfl, b2⟩
    obtain ⟨c0, c1, c2, c3, c4, f0, f1, f2, f3, f4, hsz⟩ := zero_def b2
    have hB := below_step hb1 b2
    clear hb1 b2
    go_wp2_with fail
    go_loop [10] (fun u => u = .int .i64 0) (fun _ => 0)
    case atStart => exact rfl
    case round =>
      subst hrel
      go_wp2_with fail
      refine bodyPost_ret (v := .tuple #[.agg #[.string ⟨#[]⟩, .string ⟨#[]⟩, .string ⟨#[]⟩, .string ⟨#[]⟩, .bool false], .bool false]) (by simp [results, Tryz.results18, go_sem, c0, c1, c2, c3, c4, f0, f1, f2, f3, f4]) rfl ⟨?_, below_def hB⟩
      rw [HQ.out]
      rfl
  · rw [if_neg (by simp)] at hr'
    have HR := Lib.hid hr'
    clear hr'
    go_enter Tryz.func18, Tryz.ntmps18
    go_wp2_with fail
    refine HNM.out.mono ?_
    rintro e w2 ⟨rfl, b2⟩
    have hB2 := below_step hb1 b2
    obtain ⟨c0, c1, c2, c3, c4, f0, f1, f2, f3, f4, hsz⟩ := zero_def b2
    clear hb1 b2
    go_wp2_with fail
    go_loop [10] (fun u10 => ∃ k : Nat, k ≤ N ∧ u10 = .int .i64 k ∧ lookL (ds.drop k) x note = lookL ds x note) (fun u10 => N - (intOf u10).toNat)
    case atStart => exact ⟨0, Nat.zero_le _, rfl, rfl⟩
    case round =>
      obtain ⟨k, hk, rfl, hlk⟩ := hrel
      by_cases hlt : k < N
      · have hki : (k : Int) < (N : Int) := by omega
        obtain ⟨d, hd⟩ : ∃ d, ds[k]? = some d := ⟨ds[k]'(by have := HNN.out; omega), List.getElem?_eq_getElem _⟩
        obtain ⟨g, o, rfl⟩ : ∃ g o, ao = some ⟨g, o, none⟩ := by
          cases hao : ao with
          | none => have := HRR.out.non hao; omega
          | some ad =>
            obtain ⟨g, o, sp⟩ := ad
            obtain rfl : sp = none := (HRR.out.at' _ hao).1
            exact ⟨g, o, rfl⟩
        obtain ⟨e0, e1, e2, e3, e4⟩ := (HRR.out.below hB2).dfn k d hd
        have hdr : ds.drop k = d :: ds.drop (k + 1) := by
          obtain ⟨h1, h2⟩ := List.getElem?_eq_some_iff.1 hd
          rw [← h2, List.getElem_cons_drop]
        rw [hdr, look_cons] at hlk
        have HLK := Lib.hid hlk
        clear hlk hd hdr
        by_cases hq : d.name = x
        · subst hq
          cases hnn : (d.note == note)
          · have HN := Lib.hid (show lookL (ds.drop (k + 1)) d.name note = lookL ds d.name note by have := HLK.out; rwa [hnn, Bool.and_false, if_neg (by simp)] at this)
            go_wp2_with fail
            go_round
            case rel => exact ⟨k + 1, by omega, by go_num, HN.out⟩
            case measure => simp [intOf]; omega
          · have HQ := Lib.hid (show r = (d, true) by rw [← HR.out, show lookL ds d.name note = some d by have := HLK.out; rw [hnn, Bool.and_true, if_pos (by simp)] at this; exact this.symm])
            go_wp2_with fail
            refine bodyPost_ret (v := .tuple #[.agg #[.string ⟨d.name.toArray⟩, .string ⟨d.url.toArray⟩, .string ⟨d.title.toArray⟩, .string ⟨d.text.toArray⟩, .bool d.note], .bool true]) (by simp [results, Tryz.results18, go_sem, c0, c1, c2, c3, c4, f0, f1, f2, f3, f4]) rfl ⟨?_, below_def hB2⟩
            rw [HQ.out]
            rfl
        · have HN := Lib.hid (show lookL (ds.drop (k + 1)) x note = lookL ds x note by have := HLK.out; rwa [show (d.name == x) = false by simpa using hq, Bool.false_and, if_neg (by simp)] at this)
          go_wp2_with fail
          go_round
          case rel => exact ⟨k + 1, by omega, by go_num, HN.out⟩
          case measure => simp [intOf]; omega
      · obtain rfl : k = N := by omega
        have HQ := Lib.hid (show r = (DefL.none, false) by rw [← HR.out, ← hlk, ← HNN.out, List.drop_length]; rfl)
        clear hlk
        go_wp2_with fail
        refine bodyPost_ret (v := .tuple #[.agg #[.string ⟨#[]⟩, .string ⟨#[]⟩, .string ⟨#[]⟩, .string ⟨#[]⟩, .bool false], .bool false]) (by simp [results, Tryz.results18, go_sem, c0, c1, c2, c3, c4, f0, f1, f2, f3, f4]) rfl ⟨?_, below_def hB2⟩
        rw [HQ.out]
        rfl

end Go.Proofs.YtnlmfoccdmkncaaGreatDoor

/-
  append at a step of a region that draws its order: whatever is appended, nil or not; and two operations either of which may come up first. No program in sight.
-/
namespace Go.Proofs.YtnlmfoccdmkncaaGreatDoor
open Go.RowKit Go
set_option linter.unusedVariables false
set_option linter.unusedSimpArgs false

section
variable {P : Program}

theorem step_append_row (w : World) {ops : Array Oper} {o : Oper} {a : Act} {K : Act → World → Prop} {Q : Exit → Act → World → Prop} {E : Prop} (hgd : o.guard = none) (s x : Operand) (t : TypeId)
    (ho : o.op = .call { callee := .builtin .append, args := #[s, x], argTypes := #[t, t] })
    (base : Nat) (e : TypeId) (i : TypeInfo) (z : Value) (size bytes : Nat) (ht : P.underlying t = some (.slice e)) (hi : P.info? e = some i) (hz : i.zero = some z)
    (hsize : i.size = size) (hby : i.bytes = bytes) (hzs : z.cells.size = size) (hsz : 0 < size)
    (v : Value) (n : Nat) (xs : List Value) (hs : a.eval s = v) (hown : w.ownsRow base e size v n xs)
    (ao : Option Addr) (m c : Nat) (news : List Value) (hx : a.eval x = .slice ao m c) (hr : RowR w size ao m news) (hc : ao = none → c = 0) (h1 : ∀ u ∈ news, u.oneCell' = true)
    (h63 : n + m ≤ maxLen) (hbytes : (n + m) * bytes ≤ 140737488355328) (hbase : base ≤ w.heap.size)
    (h : ∀ v' w', w'.ownsRow base e size v' (n + m) (xs ++ news) → w.grownBy w' v.ownBlock → (v'.ownBlock = v.ownBlock ∨ v'.ownBlock = some w.heap.size) → K (a.put o.dst v') w') :
    if Region.wanted o (yielded ops a.tmps) = true then Oper.wp P o a w K Q else E := by
  have hw : Region.wanted o (yielded ops a.tmps) = true := by simp [Region.wanted, hgd]
  rw [if_pos hw]
  cases ao with
  | some ad =>
    obtain ⟨v', w', hrun, h2, h3, h4⟩ := run_append_keep (P := P) w base t o.type e i z size bytes ht hi hz hsize hby hzs hsz v n xs hown ad m c news hr.len (hr.at' ad rfl).2 h1 h63 hbytes hbase
    unfold Oper.wp execOp
    simp only [ho, resolve, invoke, builtin, Sem.run_bind, Sem.run_pure, Result.andThen_ok, List.map_toArray, List.map_cons, List.map_nil, hs, hx, hrun]
    exact h v' w' h2 h3.grown h4
  | none =>
    obtain rfl := hr.non rfl
    obtain rfl := hc rfl
    have hn : news = [] := List.eq_nil_of_length_eq_zero (by simpa using hr.len)
    subst hn
    have hrun := run_append_owned_none (P := P) (w := w) base t o.type e i size ht hi v n xs hown
    unfold Oper.wp execOp
    simp only [ho, resolve, invoke, builtin, Sem.run_bind, Sem.run_pure, Result.andThen_ok, List.map_toArray, List.map_cons, List.map_nil, hs, hx, hrun]
    exact h v w (by simpa using hown) (World.grownBy.refl w _) (.inl rfl)

variable {ops : Array Oper} {Q : Exit → Act → World → Prop} {md : Region.Mode} {S : Nat → World → Prop}

/-- Two may come up. -/
theorem wpAnyI_two {i j : Nat} {o o' : Oper} {fuel : Nat} {listed : Array Bool} {a : Act} {w : World} (hr : Region.ready md ops listed = [i, j]) (ho : ops[i]? = some o) (ho' : ops[j]? = some o')
    (h : ∀ K' : Act → World → Prop, (∀ a w, S i w ∧ wpAnyI P md ops Q S fuel (listed.setIfInBounds i true) a w → K' a w) → if Region.wanted o (yielded ops a.tmps) = true then Oper.wp P o a w K' Q else K' (a.put o.dst undef) w)
    (h' : ∀ K' : Act → World → Prop, (∀ a w, S j w ∧ wpAnyI P md ops Q S fuel (listed.setIfInBounds j true) a w → K' a w) → if Region.wanted o' (yielded ops a.tmps) = true then Oper.wp P o' a w K' Q else K' (a.put o'.dst undef) w) :
    wpAnyI P md ops Q S (fuel + 1) listed a w :=
  ⟨fun h0 => (by rw [hr] at h0; cases h0), by
    rw [hr]
    intro k hk
    rcases List.mem_cons.1 hk with rfl | hk
    · exact wpOp_step ho h
    · rw [List.mem_singleton.1 hk]; exact wpOp_step ho' h'⟩
end

end Go.Proofs.YtnlmfoccdmkncaaGreatDoor

/-
  define.Table.All, and the methods at the nil table.
-/
namespace Go.Proofs.YtnlmfoccdmkncaaGreatDoor
open Go.RowKit
set_option maxRecDepth 100000
set_option linter.unusedVariables false
set_option linter.unusedSimpArgs false

theorem all_any (b : Nat) (sv : Value) (ds : List DefL) (B : Nat) (w : World) (hb : w.heap[b]? = some (.cells #[sv] 48 (0, 0))) (ho : w.ownsRow B 26 5 sv ds.length (defCells ds)) (hl : ds.length ≤ 1000000) :
    Calls Tryz.prog 16 #[.pointer (some ⟨b, 0, none⟩)] w fun e w' => ∃ v', e = .returned v' ∧ w'.ownsRow w.heap.size 26 5 v' ds.length (defCells ds) ∧ Below w.heap.size w w' := by
  obtain ⟨i0, hinf, hz0, hz1, hz2⟩ := info_parts infoDef
  have hc := TabAt.cell hb
  obtain ⟨ao, c, rfl, hr, hn, hcc⟩ := own_slice ho
  have HO := Lib.hid (And.intro hr hn)
  clear ho hb hr hn
  go_enter Tryz.func16, Tryz.ntmps16
  go_wp2_with (first
    | (at_builtin; refine wpList_append_row _ rfl _ _ 40 rfl w.heap.size 26 i0 (.agg #[.string ⟨#[]⟩, .string ⟨#[]⟩, .string ⟨#[]⟩, .string ⟨#[]⟩, .bool false]) 5 72 Tryz.underlying40 hinf hz0 hz1 hz2 rfl (by decide) _ 0 [] rfl (World.ownsRow_nil _ _ _ _) ao ds.length c (defCells ds) rfl HO.out.1 HO.out.2 (defCells_one ds) ?c3 ?c4 ?c5 ?_))
  case c3 => unfold maxLen; omega
  case c4 => omega
  case c5 => exact Nat.le_refl _
  intro v' w4 hown4 hgrow
  have hB4 := (Below.refl w.heap.size w).grown hgrow (Nat.le_refl _) (fun j hj => by simp [Value.ownBlock] at hj)
  go_wp2_with fail
  go_ret
  exact ⟨v', rfl, by simpa using hown4, hB4⟩

theorem all_nil (w : World) : Calls Tryz.prog 16 #[.pointer none] w fun e w' => e = .returned (.slice none 0 0) ∧ w = w' := by
  go_enter Tryz.func16, Tryz.ntmps16
  go_wp2_with fail
  go_ret
  exact ⟨rfl, rfl⟩

theorem add_nil (d : DefL) (w : World) : Calls Tryz.prog 15 #[.pointer none, .agg #[.string ⟨d.name.toArray⟩, .string ⟨d.url.toArray⟩, .string ⟨d.title.toArray⟩, .string ⟨d.text.toArray⟩, .bool d.note]] w fun e w' => e = .returned (.bool false) ∧ Below w.heap.size w w' := by
  go_enter Tryz.func15, Tryz.ntmps15
  go_wp2_with fail
  go_ret
  exact ⟨rfl, (Below.refl _ w).alloc (Nat.le_refl _) _⟩

end Go.Proofs.YtnlmfoccdmkncaaGreatDoor
