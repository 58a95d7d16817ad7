import Derived.Test.YtcannffahjbjnaaGreatDoorVwBB
import Derived.Test.YtcannffahjbjnaaGreatDoorVwBA
set_option linter.unusedVariables false
set_option linter.unusedSimpArgs false
set_option maxRecDepth 100000
set_option maxHeartbeats 64000000
namespace Go.Proofs.YtcannffahjbjnaaGreatDoor
open Go.RowKit
theorem zy:(Tryz.prog.info? 4).map (fun i=>(i.zero,i.size,i.bytes))=some (some (.bool false),1,1):=by kernel_rfl
theorem zz:(Tryz.prog.info? 154).map (fun i=>(i.zero,i.size,i.bytes))=some (some (.slice none 0 0),1,24):=by kernel_rfl
theorem rZ (z:Value) (n:Nat):madeCells #[z] n=ej n (fun _=>z):=by
 apply Array.ext';rw [toList_madeCells_one];simp [ej,List.map_const']
theorem xr (n:Nat) (hn:n <= 64) (w:World):(Instr.makeSlice 154 (.int .i64 n) (.int .i64 n)).run Tryz.prog w=.ok (.slice (some ⟨w.heap.size,0,none⟩) n n) (w.alloc (.cells (ej n fun _=>.bool false) 4)):=by
 obtain ⟨i0,hi,hz0,hz1,hz2⟩:=info_parts zy;have:=run_make (P:=Tryz.prog) w 154 4 i0 (.bool false) Tryz.underlying154 hi hz0 .i64 .i64 n n (by omega) (by omega) (by rw [hz2];omega) (by omega);rw [hz1,Nat.mul_one]at this;simp only [Int.toNat_natCast,Value.cells]at this;rw [rZ]at this;exact this
theorem Ab (n:Nat) (hn:n <= 64) (w:World):(Instr.makeSlice 107 (.int .i64 n) (.int .i64 n)).run Tryz.prog w=.ok (.slice (some ⟨w.heap.size,0,none⟩) n n) (w.alloc (.cells (ej n fun _=>.int .i64 0) 3)):=by
 obtain ⟨i0,hi,hz0,hz1,hz2⟩:=info_parts Tryz.infoInt;have:=run_make (P:=Tryz.prog) w 107 3 i0 (.int .i64 0) Tryz.underlying107 hi hz0 .i64 .i64 n n (by omega) (by omega) (by rw [hz2];omega) (by omega);rw [hz1,Nat.mul_one]at this;simp only [Int.toNat_natCast,Value.cells]at this;rw [rZ]at this;exact this
theorem ie.par5 {W0 w w2 w5:World} {p n kL kJ kM:Nat} {vL vJ vM:Value} {rl rj rm:Nat ->Nat} {R:Nat ->Nat ->Bool} {J M:Nat ->Nat ->Int} (h:ie W0 w p n kL kJ kM vL vJ vM rl rj rm R J M)
  (hb:Below w.heap.size w w2) {e:TypeId} {v:Value} {k:Nat} {xs:List Value} (ho:w.ownsRow W0.heap.size e 1 v k xs) (he:e≠153) (hg:w2.grownBy w5 v.ownBlock):w5.heap[p]? =some (.cells #[.int .i64 n,vL,vJ,vM] 153 (0,0)):=by
 rw [hg.block p (by have:=h.plt;have:=hb.size;omega) (fun e2=>bH ho h.par he e2.symm),hb.block p h.plt];exact h.par
def iK (F:Nat ->Nat ->Int) (x y c d:Nat):Int:=if c<x∨(c=x∧d<y)then F c d else 0
theorem r8 (F:Nat ->Nat ->Int) (c d:Nat):iK F 0 0 c d=0:=if_neg (by omega)
theorem uD (F:Nat ->Nat ->Int) (x n c d:Nat) (hd:d<n):iK F x n c d=iK F (x+1) 0 c d:=by
 unfold iK;by_cases h:c<x∨(c=x∧d<n)
 ·rw [if_pos h,if_pos (by omega)]
 ·rw [if_neg h,if_neg (by omega)]
theorem uB (F:Nat ->Nat ->Int) (n c d:Nat) (hc:c<n):iK F n 0 c d=F c d:=if_pos (Or.inl hc)
theorem uC (F:Nat ->Nat ->Int) (x y c d:Nat):(if c=x∧d=y then F x y else iK F x y c d)=iK F x (y+1) c d:=by
 unfold iK;by_cases h:c=x∧d=y
 ·obtain ⟨rfl,rfl⟩:=h;rw [if_pos ⟨rfl,rfl⟩,if_pos (by omega)]
 ·rw [if_neg h];by_cases h2:c<x∨(c=x∧d<y)
  ·rw [if_pos h2,if_pos (by omega)]
  ·rw [if_neg h2,if_neg (by omega)]
theorem ie.congrJ {W0 w:World} {p n kL kJ kM:Nat} {vL vJ vM:Value} {rl rj rm:Nat ->Nat} {R:Nat ->Nat ->Bool} {J M:Nat ->Nat ->Int} (h:ie W0 w p n kL kJ kM vL vJ vM rl rj rm R J M) {J' M':Nat ->Nat ->Int} (hJ:∀a b,a<kJ ->b<n ->J a b=J' a b) (hM:∀a b,a<kM ->b<n ->M a b=M' a b):
  ie W0 w p n kL kJ kM vL vJ vM rl rj rm R J' M':=
 ⟨h.below,h.pn,h.par,h.mL,h.mJ.congr (fun a b ha hb=>by rw [hJ a b ha hb]),h.mM.congr (fun a b ha hb=>by rw [hM a b ha hb]),h.sepO,h.sepR⟩
theorem EO {g cap k:Nat} {v:Value} {Wd w2:World} (h:v.ownBlock=some g∨g=w2.heap.size) (hs:Wd.heap.size <= w2.heap.size:=by simp;omega):∀g2,(Value.slice (some ⟨g,0,none⟩) k cap).ownBlock=some g2 ->v.ownBlock=some g2∨Wd.heap.size <= g2:=by
 intro g2 e;have:g=g2:=(by injection e);subst this;rcases h with h|h
 ·exact Or.inl h
 ·exact Or.inr (by omega)
theorem xd (n:Nat) (P:Nat ->Int×Int) (ao:Option Addr) (m cp:Nat) (W0:World) (h0:0<n) (hn:n <= 64) (hm:m <= 1000) (hp:fM W0 ao m P):
  Calls Tryz.prog 46 #[.int .i64 n,.slice ao m cp] W0 (sN W0 n m P):=by
 have hmkB:=xr n hn;have hmkI:=Ab n hn;obtain ⟨i0,hi,hz0,hz1,hz2⟩:=info_parts zz;obtain ⟨j0,hj,hy0,hy1,hy2⟩:=info_parts Tryz.infoInts;have HP:=Lib.hid hp;clear hp;go_enter Tryz.func46,Tryz.ntmps46
 go_wp2_with fail;obtain ⟨p,hpe⟩:∃p,W0.heap.size=p:=⟨_,rfl⟩
 have hO0:ie W0 (W0.alloc (.cells #[.int .i64 n,.slice none 0 0,.slice none 0 0,.slice none 0 0] 153)) p n 0 0 0 (.slice none 0 0) (.slice none 0 0) (.slice none 0 0) (fun x=>x) (fun x=>x) (fun x=>x) (fun x y=>x==y) (fun _ _=>0) (fun _ _=>0):=by
  rw [<- hpe]
  have hm0:∀(eo ei:TypeId) (F:Nat ->Nat ->Value),Mx (W0.alloc (.cells #[.int .i64 n,.slice none 0 0,.slice none 0 0,.slice none 0 0] 153)) W0.heap.size n 0 (.slice none 0 0) eo ei (fun x=>x) F:=fun eo ei F=>
   ⟨World.ownsRow_nil _ _ _ _,fun a ha=>absurd ha (by omega),fun a _ ha=>absurd ha (by omega)⟩
  exact ⟨(Below.refl _ W0).alloc (Nat.le_refl _) _,Nat.le_refl _,heap_alloc_new W0 _,hm0 _ _ _,hm0 _ _ _,hm0 _ _ _,fun g hg=>by simp [Value.ownBlock]at hg,fun a _ ha=>absurd ha (by omega)⟩
 rw [hpe];have HO0:=Lib.hid hO0;clear hO0;go_loopw [7] (fun u7 wr=>∃(a:Nat) (vL vJ vM:Value) (rl rj rm:Nat ->Nat),a <= n∧u7=.int .i64 a∧ie W0 wr p n a a a vL vJ vM rl rj rm (fun x y=>x==y) (fun _ _=>0) (fun _ _=>0)) (fun u7 _=>n - (intOf u7).toNat)
 case atStart=>exact ⟨0,_,_,_,_,_,_,Nat.zero_le _,rfl,HO0.out⟩
 case round=>
  obtain ⟨a,vL,vJ,vM,rl,rj,rm,ha,rfl,hO⟩:=hrel
  as_aux_lemma=>
  by_cases hlt:a<n
  ·obtain ⟨lo,cL,hvL,_⟩:=nk hO.mL.own;subst hvL;obtain ⟨lj,cJ,hvJ,_⟩:=nk hO.mJ.own;subst hvJ;obtain ⟨lm,cM,hvM,_⟩:=nk hO.mM.own;subst hvM
   as_aux_lemma=>
   have hOd:=(hO).later (Below.refl (wr).heap.size (wr)).drew;go_wp2_with fail;obtain ⟨Wd,hWd⟩:∃W,(wr).drew=W:=⟨_,rfl⟩
   rw [hWd]at hOd;refine aQ (S:=fun j W'=>([4,6,7].contains j=true) ->W'.cell? ⟨p,1,none⟩=some (.slice lo a cL)) (by kernel_rfl) ?_;rw [hWd];have c1:Wd.cell? ⟨p,1,none⟩=some (.slice lo a cL):=(by first|exact hOd.cells.2.1|exact hOd.cells.2.2.1|exact hOd.cells.2.2.2);have hpd:=hOd.plt;have b1:=(Below.refl Wd.heap.size Wd).alloc (Nat.le_refl _) (.cells (ej n fun _=>Value.bool false) 4);have b2:=b1.alloc b1.size (.cells #[.slice (some ⟨Wd.heap.size,0,none⟩) n n] 154);have q1:=(b1.cell (p:=⟨p,1,none⟩) hpd).trans c1;have q2:=(b2.cell (p:=⟨p,1,none⟩) hpd).trans c1;have hown2:World.ownsRow ((Wd.alloc (.cells (ej n fun _=>Value.bool false) 4)).alloc (.cells #[.slice (some ⟨Wd.heap.size,0,none⟩) n n] 154)) W0.heap.size 154 1 (.slice lo a cL) a (dw rl n a):=((hOd.mL.own.alloc _).alloc _)
   have hnews:=nj (Wd.alloc (.cells (ej n fun _=>Value.bool false) 4)) (.slice (some ⟨Wd.heap.size,0,none⟩) n n) 154;rw [World.size_alloc]at hnews;have HX:=Lib.hid (And.intro hOd (And.intro hown2 (And.intro hnews b2)));have hbs:=hOd.below.size;clear hown2 hnews b1 b2 hOd hWd
   as_aux_lemma=>
   refine ju 0 32 ?_ rfl (by kernel_rfl) (fun _ _ _ h=>h) (fun _ h=>absurd h (by decide)) rfl (Or.inl ⟨by rfl,?_⟩) ?_;rotate_left
   ·intro w' _;go_simp<;>with_reducible rfl
   simp only [List.set];refine ju 1 33 ?_ rfl (by kernel_rfl) (fun _ _ _ h=>h) (fun _ h=>absurd h (by decide)) rfl (Or.inl ⟨by rfl,?_⟩) ?_;rotate_left
   ·intro w' _;go_simp<;>with_reducible rfl
   simp only [List.set];refine ju 2 34 ?_ rfl (by kernel_rfl) (fun _ _ _ h=>h) (fun _ h=>absurd h (by decide)) rfl (Or.inl ⟨by rfl,?_⟩) ?_;rotate_left
   ·intro w' _;go_simp<;>with_reducible rfl
   simp only [List.set];refine ju 3 35 ?_ rfl (by kernel_rfl) (fun _ _ _ h=>h) (fun _ h=>absurd h (by decide)) rfl (Or.inl ⟨by rfl,?_⟩) ?_;rotate_left
   ·intro w' _;go_simp<;>with_reducible rfl
   simp only [List.set];refine ju 5 37 ?_ rfl (by kernel_rfl) (fun _ _ _ h=>h) (fun _ h=>absurd h (by decide)) rfl (Or.inl ⟨by rfl,?_⟩) ?_;rotate_left
   ·intro w' _;go_simp<;>with_reducible rfl
   simp only [List.set]
   as_aux_lemma=>
   refine fY (S0:=fun W'=>W'.cell? ⟨p,1,none⟩=some (.slice lo a cL)) (i:=4) (v:=?_) rfl (by kernel_rfl) (by kernel_rfl) (by kernel_rfl) (by kernel_rfl) [4,6,7] (by kernel_rfl) (fun _ _ _ h=>h) (fun _ h _=>h) (fun j hj _ h=>h (by simpa using hj)) (some 36) rfl (Or.inl ⟨by rfl,?_⟩) c1 ?_;rotate_left
   ·intro w' s0;go_simp<;>with_reducible rfl
   try simp only [Act.put,List.setIfInBounds_toArray,List.set_cons_zero,List.set_cons_succ]
   as_aux_lemma=>
   refine ac (i:=6) (by kernel_rfl) rfl (fun K' hK=>?_);have HKK:=Lib.hid hK;clear hK;go_simp
   refine HKK.out _ _ ⟨fun _=>q1,?_⟩;clear HKK K';try simp only [Act.put,List.setIfInBounds_toArray,List.set_cons_zero,List.set_cons_succ]
   refine ac (i:=7) (by kernel_rfl) rfl (fun K' hK=>?_);have HKK:=Lib.hid hK;clear hK;go_simp
   refine HKK.out _ _ ⟨fun _=>q2,?_⟩;clear HKK K';try simp only [Act.put,List.setIfInBounds_toArray,List.set_cons_zero,List.set_cons_succ]
   as_aux_lemma=>
   refine ac (i:=8) (by kernel_rfl) rfl (fun K' hK=>?_);have HKK:=Lib.hid hK;clear hK;refine step_append_lies _ rfl (.tmp 36) (.tmp 39) 151 rfl W0.heap.size 154 i0 (.slice none 0 0) 1 24 (by kernel_rfl) hi hz0 hz1 hz2 rfl (by decide) (.slice lo a cL) a (dw rl n a) rfl HX.out.2.1 ⟨Wd.heap.size+1,0,none⟩ 1 1 [.slice (some ⟨Wd.heap.size,0,none⟩) n n] rfl rfl HX.out.2.2.1 (by intro u hu;simp at hu;subst hu;rfl) (by decide) (by unfold maxLen;omega) (by omega) (by simp;omega) _ rfl ?_;intro g cap w5 hown5 hgrow5 hat5 hlt5;have hp5:=HX.out.1.par5 HX.out.2.2.2 HX.out.1.mL.own (by decide) hgrow5;have hO2:=HX.out.1.pushL (.cells #[.slice (some ⟨Wd.heap.size,0,none⟩) n n] 154) hown5 hgrow5;have p5:=jU (i:=1) hp5 rfl;have f5:=j9 1 hp5;have HNN:=Lib.hid hO2;clear hown5 hgrow5 hat5 hO2 hp5;refine HKK.out _ _ ⟨fun h=>absurd h (by decide),?_⟩;clear HKK K';try simp only [Act.put,List.setIfInBounds_toArray,List.set_cons_zero,List.set_cons_succ]
   as_aux_lemma=>
   refine ju 9 41 ?_ rfl (by kernel_rfl) (fun _ _ _ h=>h) (fun _ h=>absurd h (by decide)) rfl (Or.inl ⟨by rfl,?_⟩) ?_;rotate_left
   ·intro w' _;go_simp<;>with_reducible rfl
   simp only [List.set];refine ju 10 42 ?_ rfl (by kernel_rfl) (fun _ _ _ h=>h) (fun _ h=>absurd h (by decide)) rfl (Or.inl ⟨by rfl,?_⟩) ?_;rotate_left
   ·intro w' _;go_simp<;>with_reducible rfl
   simp only [List.set];refine ac (i:=11) (by kernel_rfl) rfl (fun K' hK=>?_);have HKK:=Lib.hid hK;clear hK;go_simp
   refine HKK.out _ _ ⟨fun h=>absurd h (by decide),?_⟩;clear HKK K';try simp only [Act.put,List.setIfInBounds_toArray,List.set_cons_zero,List.set_cons_succ]
   as_aux_lemma=>
   refine aP (by kernel_rfl) ?_ _;have hO2:=HNN.out;clear p5 f5 q1 q2 c1 HX HNN hpd hbs hlt5;generalize w5.setCell ⟨p,1,none⟩ (.slice (some ⟨g,0,none⟩) (a+1) cap)=WA at hO2⊢;generalize (fun x=>if x=a then Wd.heap.size else rl x)=rL2 at hO2;generalize Value.slice (some ⟨g,0,none⟩) (a+1) cap=vL2 at hO2⊢;obtain ⟨R2,hR2⟩:∃f:Nat ->Nat ->Bool,(fun x y=>if x=a then false else x==y)=f:=⟨_,rfl⟩
   rw [hR2]at hO2;have HR2:=Lib.hid hR2;clear hR2 hO
   as_aux_lemma=>
   have hOd:=(hO2).later (Below.refl (WA).heap.size (WA)).drew;go_wp2_with fail;obtain ⟨Wd,hWd⟩:∃W,(WA).drew=W:=⟨_,rfl⟩
   rw [hWd]at hOd;refine aQ (S:=fun j W'=>([4,6,7].contains j=true) ->W'.cell? ⟨p,2,none⟩=some (.slice lj a cJ)) (by kernel_rfl) ?_;rw [hWd];have c1:Wd.cell? ⟨p,2,none⟩=some (.slice lj a cJ):=(by first|exact hOd.cells.2.1|exact hOd.cells.2.2.1|exact hOd.cells.2.2.2);have hpd:=hOd.plt;have b1:=(Below.refl Wd.heap.size Wd).alloc (Nat.le_refl _) (.cells (ej n fun _=>Value.int .i64 0) 3);have b2:=b1.alloc b1.size (.cells #[.slice (some ⟨Wd.heap.size,0,none⟩) n n] 107);have q1:=(b1.cell (p:=⟨p,2,none⟩) hpd).trans c1;have q2:=(b2.cell (p:=⟨p,2,none⟩) hpd).trans c1;have hown2:World.ownsRow ((Wd.alloc (.cells (ej n fun _=>Value.int .i64 0) 3)).alloc (.cells #[.slice (some ⟨Wd.heap.size,0,none⟩) n n] 107)) W0.heap.size 107 1 (.slice lj a cJ) a (dw rj n a):=((hOd.mJ.own.alloc _).alloc _)
   have hnews:=nj (Wd.alloc (.cells (ej n fun _=>Value.int .i64 0) 3)) (.slice (some ⟨Wd.heap.size,0,none⟩) n n) 107;rw [World.size_alloc]at hnews;have HX:=Lib.hid (And.intro hOd (And.intro hown2 (And.intro hnews b2)));have hbs:=hOd.below.size;clear hown2 hnews b1 b2 hOd hWd
   as_aux_lemma=>
   refine ju 0 43 ?_ rfl (by kernel_rfl) (fun _ _ _ h=>h) (fun _ h=>absurd h (by decide)) rfl (Or.inl ⟨by rfl,?_⟩) ?_;rotate_left
   ·intro w' _;go_simp<;>with_reducible rfl
   simp only [List.set];refine ju 1 44 ?_ rfl (by kernel_rfl) (fun _ _ _ h=>h) (fun _ h=>absurd h (by decide)) rfl (Or.inl ⟨by rfl,?_⟩) ?_;rotate_left
   ·intro w' _;go_simp<;>with_reducible rfl
   simp only [List.set];refine ju 2 45 ?_ rfl (by kernel_rfl) (fun _ _ _ h=>h) (fun _ h=>absurd h (by decide)) rfl (Or.inl ⟨by rfl,?_⟩) ?_;rotate_left
   ·intro w' _;go_simp<;>with_reducible rfl
   simp only [List.set];refine ju 3 46 ?_ rfl (by kernel_rfl) (fun _ _ _ h=>h) (fun _ h=>absurd h (by decide)) rfl (Or.inl ⟨by rfl,?_⟩) ?_;rotate_left
   ·intro w' _;go_simp<;>with_reducible rfl
   simp only [List.set];refine ju 5 48 ?_ rfl (by kernel_rfl) (fun _ _ _ h=>h) (fun _ h=>absurd h (by decide)) rfl (Or.inl ⟨by rfl,?_⟩) ?_;rotate_left
   ·intro w' _;go_simp<;>with_reducible rfl
   simp only [List.set]
   as_aux_lemma=>
   refine fY (S0:=fun W'=>W'.cell? ⟨p,2,none⟩=some (.slice lj a cJ)) (i:=4) (v:=?_) rfl (by kernel_rfl) (by kernel_rfl) (by kernel_rfl) (by kernel_rfl) [4,6,7] (by kernel_rfl) (fun _ _ _ h=>h) (fun _ h _=>h) (fun j hj _ h=>h (by simpa using hj)) (some 47) rfl (Or.inl ⟨by rfl,?_⟩) c1 ?_;rotate_left
   ·intro w' s0;go_simp<;>with_reducible rfl
   try simp only [Act.put,List.setIfInBounds_toArray,List.set_cons_zero,List.set_cons_succ]
   as_aux_lemma=>
   refine ac (i:=6) (by kernel_rfl) rfl (fun K' hK=>?_);have HKK:=Lib.hid hK;clear hK;go_simp
   refine HKK.out _ _ ⟨fun _=>q1,?_⟩;clear HKK K';try simp only [Act.put,List.setIfInBounds_toArray,List.set_cons_zero,List.set_cons_succ]
   refine ac (i:=7) (by kernel_rfl) rfl (fun K' hK=>?_);have HKK:=Lib.hid hK;clear hK;go_simp
   refine HKK.out _ _ ⟨fun _=>q2,?_⟩;clear HKK K';try simp only [Act.put,List.setIfInBounds_toArray,List.set_cons_zero,List.set_cons_succ]
   as_aux_lemma=>
   refine ac (i:=8) (by kernel_rfl) rfl (fun K' hK=>?_);have HKK:=Lib.hid hK;clear hK;refine step_append_lies _ rfl (.tmp 47) (.tmp 50) 145 rfl W0.heap.size 107 j0 (.slice none 0 0) 1 24 (by kernel_rfl) hj hy0 hy1 hy2 rfl (by decide) (.slice lj a cJ) a (dw rj n a) rfl HX.out.2.1 ⟨Wd.heap.size+1,0,none⟩ 1 1 [.slice (some ⟨Wd.heap.size,0,none⟩) n n] rfl rfl HX.out.2.2.1 (by intro u hu;simp at hu;subst hu;rfl) (by decide) (by unfold maxLen;omega) (by omega) (by simp;omega) _ rfl ?_;intro g cap w5 hown5 hgrow5 hat5 hlt5;have hp5:=HX.out.1.par5 HX.out.2.2.2 HX.out.1.mJ.own (by decide) hgrow5;have hO3:=HX.out.1.pushJ (.cells #[.slice (some ⟨Wd.heap.size,0,none⟩) n n] 107) hown5 hgrow5 (EO hat5);have p5:=jU (i:=2) hp5 rfl;have f5:=j9 2 hp5;have HNN:=Lib.hid hO3;clear hown5 hgrow5 hat5 hO3 hp5;refine HKK.out _ _ ⟨fun h=>absurd h (by decide),?_⟩;clear HKK K';try simp only [Act.put,List.setIfInBounds_toArray,List.set_cons_zero,List.set_cons_succ]
   as_aux_lemma=>
   refine ju 9 52 ?_ rfl (by kernel_rfl) (fun _ _ _ h=>h) (fun _ h=>absurd h (by decide)) rfl (Or.inl ⟨by rfl,?_⟩) ?_;rotate_left
   ·intro w' _;go_simp<;>with_reducible rfl
   simp only [List.set];refine ju 10 53 ?_ rfl (by kernel_rfl) (fun _ _ _ h=>h) (fun _ h=>absurd h (by decide)) rfl (Or.inl ⟨by rfl,?_⟩) ?_;rotate_left
   ·intro w' _;go_simp<;>with_reducible rfl
   simp only [List.set];refine ac (i:=11) (by kernel_rfl) rfl (fun K' hK=>?_);have HKK:=Lib.hid hK;clear hK;go_simp
   refine HKK.out _ _ ⟨fun h=>absurd h (by decide),?_⟩;clear HKK K';try simp only [Act.put,List.setIfInBounds_toArray,List.set_cons_zero,List.set_cons_succ]
   as_aux_lemma=>
   refine aP (by kernel_rfl) ?_ _;have hO3:=HNN.out;clear p5 f5 q1 q2 c1 HX HNN hpd hbs hlt5;generalize w5.setCell ⟨p,2,none⟩ (.slice (some ⟨g,0,none⟩) (a+1) cap)=WB at hO3⊢;generalize (fun x=>if x=a then Wd.heap.size else rj x)=rJ2 at hO3;generalize Value.slice (some ⟨g,0,none⟩) (a+1) cap=vJ2 at hO3⊢;rw [show (fun (x y:Nat)=>if x=a then (0:Int)else 0)=fun _ _=>0 by funext x y;split<;>rfl]at hO3;clear hO2
   as_aux_lemma=>
   have hOd:=(hO3).later (Below.refl (WB).heap.size (WB)).drew;go_wp2_with fail;obtain ⟨Wd,hWd⟩:∃W,(WB).drew=W:=⟨_,rfl⟩
   rw [hWd]at hOd;refine aQ (S:=fun j W'=>([4,6,7].contains j=true) ->W'.cell? ⟨p,3,none⟩=some (.slice lm a cM)) (by kernel_rfl) ?_;rw [hWd];have c1:Wd.cell? ⟨p,3,none⟩=some (.slice lm a cM):=(by first|exact hOd.cells.2.1|exact hOd.cells.2.2.1|exact hOd.cells.2.2.2);have hpd:=hOd.plt;have b1:=(Below.refl Wd.heap.size Wd).alloc (Nat.le_refl _) (.cells (ej n fun _=>Value.int .i64 0) 3);have b2:=b1.alloc b1.size (.cells #[.slice (some ⟨Wd.heap.size,0,none⟩) n n] 107);have q1:=(b1.cell (p:=⟨p,3,none⟩) hpd).trans c1;have q2:=(b2.cell (p:=⟨p,3,none⟩) hpd).trans c1;have hown2:World.ownsRow ((Wd.alloc (.cells (ej n fun _=>Value.int .i64 0) 3)).alloc (.cells #[.slice (some ⟨Wd.heap.size,0,none⟩) n n] 107)) W0.heap.size 107 1 (.slice lm a cM) a (dw rm n a):=((hOd.mM.own.alloc _).alloc _)
   have hnews:=nj (Wd.alloc (.cells (ej n fun _=>Value.int .i64 0) 3)) (.slice (some ⟨Wd.heap.size,0,none⟩) n n) 107;rw [World.size_alloc]at hnews;have HX:=Lib.hid (And.intro hOd (And.intro hown2 (And.intro hnews b2)));have hbs:=hOd.below.size;clear hown2 hnews b1 b2 hOd hWd
   as_aux_lemma=>
   refine ju 0 54 ?_ rfl (by kernel_rfl) (fun _ _ _ h=>h) (fun _ h=>absurd h (by decide)) rfl (Or.inl ⟨by rfl,?_⟩) ?_;rotate_left
   ·intro w' _;go_simp<;>with_reducible rfl
   simp only [List.set];refine ju 1 55 ?_ rfl (by kernel_rfl) (fun _ _ _ h=>h) (fun _ h=>absurd h (by decide)) rfl (Or.inl ⟨by rfl,?_⟩) ?_;rotate_left
   ·intro w' _;go_simp<;>with_reducible rfl
   simp only [List.set];refine ju 2 56 ?_ rfl (by kernel_rfl) (fun _ _ _ h=>h) (fun _ h=>absurd h (by decide)) rfl (Or.inl ⟨by rfl,?_⟩) ?_;rotate_left
   ·intro w' _;go_simp<;>with_reducible rfl
   simp only [List.set];refine ju 3 57 ?_ rfl (by kernel_rfl) (fun _ _ _ h=>h) (fun _ h=>absurd h (by decide)) rfl (Or.inl ⟨by rfl,?_⟩) ?_;rotate_left
   ·intro w' _;go_simp<;>with_reducible rfl
   simp only [List.set];refine ju 5 59 ?_ rfl (by kernel_rfl) (fun _ _ _ h=>h) (fun _ h=>absurd h (by decide)) rfl (Or.inl ⟨by rfl,?_⟩) ?_;rotate_left
   ·intro w' _;go_simp<;>with_reducible rfl
   simp only [List.set]
   as_aux_lemma=>
   refine fY (S0:=fun W'=>W'.cell? ⟨p,3,none⟩=some (.slice lm a cM)) (i:=4) (v:=?_) rfl (by kernel_rfl) (by kernel_rfl) (by kernel_rfl) (by kernel_rfl) [4,6,7] (by kernel_rfl) (fun _ _ _ h=>h) (fun _ h _=>h) (fun j hj _ h=>h (by simpa using hj)) (some 58) rfl (Or.inl ⟨by rfl,?_⟩) c1 ?_;rotate_left
   ·intro w' s0;go_simp<;>with_reducible rfl
   try simp only [Act.put,List.setIfInBounds_toArray,List.set_cons_zero,List.set_cons_succ]
   as_aux_lemma=>
   refine ac (i:=6) (by kernel_rfl) rfl (fun K' hK=>?_);have HKK:=Lib.hid hK;clear hK;go_simp
   refine HKK.out _ _ ⟨fun _=>q1,?_⟩;clear HKK K';try simp only [Act.put,List.setIfInBounds_toArray,List.set_cons_zero,List.set_cons_succ]
   refine ac (i:=7) (by kernel_rfl) rfl (fun K' hK=>?_);have HKK:=Lib.hid hK;clear hK;go_simp
   refine HKK.out _ _ ⟨fun _=>q2,?_⟩;clear HKK K';try simp only [Act.put,List.setIfInBounds_toArray,List.set_cons_zero,List.set_cons_succ]
   as_aux_lemma=>
   refine ac (i:=8) (by kernel_rfl) rfl (fun K' hK=>?_);have HKK:=Lib.hid hK;clear hK;refine step_append_lies _ rfl (.tmp 58) (.tmp 61) 145 rfl W0.heap.size 107 j0 (.slice none 0 0) 1 24 (by kernel_rfl) hj hy0 hy1 hy2 rfl (by decide) (.slice lm a cM) a (dw rm n a) rfl HX.out.2.1 ⟨Wd.heap.size+1,0,none⟩ 1 1 [.slice (some ⟨Wd.heap.size,0,none⟩) n n] rfl rfl HX.out.2.2.1 (by intro u hu;simp at hu;subst hu;rfl) (by decide) (by unfold maxLen;omega) (by omega) (by simp;omega) _ rfl ?_;intro g cap w5 hown5 hgrow5 hat5 hlt5;have hp5:=HX.out.1.par5 HX.out.2.2.2 HX.out.1.mM.own (by decide) hgrow5;have hO4:=HX.out.1.pushM (.cells #[.slice (some ⟨Wd.heap.size,0,none⟩) n n] 107) hown5 hgrow5 (EO hat5);have p5:=jU (i:=3) hp5 rfl;have f5:=j9 3 hp5;have HNN:=Lib.hid hO4;clear hown5 hgrow5 hat5 hO4 hp5;refine HKK.out _ _ ⟨fun h=>absurd h (by decide),?_⟩;clear HKK K';try simp only [Act.put,List.setIfInBounds_toArray,List.set_cons_zero,List.set_cons_succ]
   as_aux_lemma=>
   refine ju 9 63 ?_ rfl (by kernel_rfl) (fun _ _ _ h=>h) (fun _ h=>absurd h (by decide)) rfl (Or.inl ⟨by rfl,?_⟩) ?_;rotate_left
   ·intro w' _;go_simp<;>with_reducible rfl
   simp only [List.set];refine ju 10 64 ?_ rfl (by kernel_rfl) (fun _ _ _ h=>h) (fun _ h=>absurd h (by decide)) rfl (Or.inl ⟨by rfl,?_⟩) ?_;rotate_left
   ·intro w' _;go_simp<;>with_reducible rfl
   simp only [List.set];refine ac (i:=11) (by kernel_rfl) rfl (fun K' hK=>?_);have HKK:=Lib.hid hK;clear hK;go_simp
   refine HKK.out _ _ ⟨fun h=>absurd h (by decide),?_⟩;clear HKK K';try simp only [Act.put,List.setIfInBounds_toArray,List.set_cons_zero,List.set_cons_succ]
   as_aux_lemma=>
   refine aP (by kernel_rfl) ?_ _;have hO4:=HNN.out;clear p5 f5 q1 q2 c1 HX HNN hpd hbs hlt5;generalize w5.setCell ⟨p,3,none⟩ (.slice (some ⟨g,0,none⟩) (a+1) cap)=WC at hO4⊢;generalize (fun x=>if x=a then Wd.heap.size else rm x)=rM2 at hO4;generalize Value.slice (some ⟨g,0,none⟩) (a+1) cap=vM2 at hO4⊢;rw [show (fun (x y:Nat)=>if x=a then (0:Int)else 0)=fun _ _=>0 by funext x y;split<;>rfl]at hO4;clear hO3;have hO5:=hO4.setL a (Nat.lt_succ_self a) true;have hO6:=hO5.congrR (R':=fun x y=>x==y) (fun c d hc hd=>by
    by_cases e:c=a
    ·by_cases e2:d=a
     ·rw [if_pos ⟨e,e2⟩,e,e2];simp
     ·rw [if_neg (fun h=>e2 h.2),<- HR2.out,e];simp;exact fun h=>e2 h.symm
    ·rw [if_neg (fun h=>e h.1),<- HR2.out];simp [e])
   obtain ⟨bo,cb,hv,hcell⟩:=hO4.mL.cells (Nat.succ_pos a);have k1:=hO4.cells.2.1;rw [hv]at k1;obtain ⟨k2,_,_⟩:=hcell a (Nat.lt_succ_self a);have k3:=hO4.mL.frozen (Nat.lt_succ_self a) a;have k4:=(hcell a (Nat.lt_succ_self a)).2.2 a hlt;have HO6:=Lib.hid hO6;clear hO4 hO5 hO6 hcell;go_wp2_with fail;go_roundw;case rel=>exact ⟨a+1,_,_,_,_,_,_,by omega,by go_num,HO6.out⟩
   case measure=>simp [intOf];omega
  ·obtain rfl:a=n:=(by omega);have HO1:=Lib.hid hO;clear hO HO0 hmkB hmkI hi hz0 hz1 hz2 hj hy0 hy1 hy2;go_wp2_with fail;go_loopw [8] (fun u8 w2=>∃i:Nat,i <= m∧u8=.int .i64 i∧dz a i P∧ie W0 w2 p a a a a vL vJ vM rl rj rm (uV i P) (fun _ _=>0) (fun _ _=>0)) (fun u8 _=>m - (intOf u8).toNat)
   case atStart=>exact ⟨0,Nat.zero_le _,rfl,(fun i hi=>absurd hi (by omega)),HO1.out.congrR fun x y _ _=>by unfold uV;simp⟩
   case round=>
    rename World=>W2
    obtain ⟨i,him,rfl,hin,hO⟩:=hrel;have HIN:=Lib.hid hin;clear hin
    as_aux_lemma=>
    by_cases hlt2:i<m
    ·obtain ⟨b,off,hp1,hp2,hp3⟩:=HP.out;have hao:=hp1 (by omega);have hbl:=hp2 (by omega);obtain ⟨e1,e2⟩:=hp3 i hlt2;have d1:=(hO.below.cell (p:=⟨b,off+i*2,none⟩) hbl).trans e1;have d2:=(hO.below.cell (p:=⟨b,off+i*2+1,none⟩) hbl).trans e2;subst hao;obtain ⟨x,hx⟩:∃x,(P i).1=x:=⟨_,rfl⟩
     obtain ⟨y,hy⟩:∃y,(P i).2=y:=⟨_,rfl⟩
     rw [hx]at d1;rw [hy]at d2;have HXY:=Lib.hid (And.intro hx hy);clear hp1 hp2 hp3 e1 e2 hx hy;by_cases hr:0 <= x∧0 <= y∧x<a∧y<a
     ·obtain ⟨X,rfl⟩:∃X:Nat,x=X:=⟨x.toNat,by omega⟩
      obtain ⟨Y,rfl⟩:∃Y:Nat,y=Y:=⟨y.toNat,by omega⟩
      obtain ⟨r1,r2,r3,r4⟩:=hr;have hX:X<a:=(by omega);have hY:Y<a:=(by omega);have HN:=Lib.hid (show dz a (i+1) P from fun j hj=>by
       by_cases e:j=i
       ·subst e;rw [HXY.out.1,HXY.out.2];omega
       ·exact HIN.out j (by omega))
      have HREL:=Lib.hid (show∀c d,(if c=X∧d=Y then true else uV i P c d)=uV (i+1) P c d from fun c d=>by
       unfold uV;rw [List.range_succ,List.any_append];simp only [List.any_cons,List.any_nil,Bool.or_false,HXY.out.1,HXY.out.2,Int.toNat_natCast];by_cases e:c=X∧d=Y
       ·rw [if_pos e,e.1,e.2];simp
       ·rw [if_neg e];have:(X==c&&Y==d)=false:=by
         rw [Bool.and_eq_false_iff];by_cases e1:c=X
         ·right;simp;intro h;exact e ⟨e1,h.symm⟩
         ·left;simp;intro h;exact e1 h.symm
        rw [this,Bool.or_false])
      have HO:=Lib.hid hO;clear hO;go_wp2_with fail;go_quiet (fail)
      have hOq:=HO.out.later (⟨rfl,rfl,rfl,Nat.le_refl _,fun _ _=>rfl⟩:Below W2.heap.size W2 (W2.drewN nq));generalize W2.drewN nq=W3 at hOq⊢;obtain ⟨bo,cb,hv,hcell⟩:=hOq.mL.cells (by omega);have k1:=hOq.cells.2.1;rw [hv]at k1;obtain ⟨k2,_,_⟩:=hcell X hX;have k3:=hOq.mL.frozen hX Y;have k4:=(hcell X hX).2.2 Y hY;have HO6:=Lib.hid ((hOq.setL Y hX true).congrR fun c d _ _=>HREL.out c d);clear hOq hcell d1 d2;go_wp2_with fail;go_roundw;case rel=>exact ⟨i+1,by omega,by go_num,HN.out,HO6.out⟩
      case measure=>simp [intOf];omega
     ·have HBAD:=Lib.hid (And.intro (show¬dz a m P from fun h=>hr (by have:=h i hlt2;rw [HXY.out.1,HXY.out.2]at this;omega)) hO.below);clear hO;by_cases c1:x<0
      ·go_wp2_with fail;go_quiet (fail)
       go_wp2_with fail
       go_ret2
       exact ⟨dP HBAD.out.2 nq,Or.inl ⟨HBAD.out.1,rfl⟩⟩
      ·by_cases c2:y<0
       ·go_wp2_with fail;go_quiet (fail)
        go_wp2_with fail
        go_ret2
        exact ⟨dP HBAD.out.2 nq,Or.inl ⟨HBAD.out.1,rfl⟩⟩
       ·by_cases c3:(a:Int) <= x
        ·go_wp2_with fail;go_quiet (fail)
         go_wp2_with fail
         go_ret2
         exact ⟨dP HBAD.out.2 nq,Or.inl ⟨HBAD.out.1,rfl⟩⟩
        ·have c4:(a:Int) <= y:=(by omega);go_wp2_with fail;go_quiet (fail)
         go_wp2_with fail
         go_ret2
         exact ⟨dP HBAD.out.2 nq,Or.inl ⟨HBAD.out.1,rfl⟩⟩
    ·obtain rfl:i=m:=(by omega);have HO2:=Lib.hid hO;clear hO HO1;go_wp2_with fail;go_loopw [11] (fun u11 w3=>∃kk:Nat,kk <= a∧u11=.int .i64 kk∧ie W0 w3 p a a a a vL vJ vM rl rj rm (ck i P kk) (fun _ _=>0) (fun _ _=>0)) (fun u11 _=>a - (intOf u11).toNat)
     case atStart=>exact ⟨0,Nat.zero_le _,rfl,HO2.out⟩
     case round=>
      rename World=>W3
      obtain ⟨kk,hkk,rfl,hO⟩:=hrel
      as_aux_lemma=>
      by_cases hkl:kk<a
      ·have HO3:=Lib.hid hO;clear hO;go_wp2_with fail;go_loopw [12] (fun u12 w4=>∃xx:Nat,xx <= a∧u12=.int .i64 xx∧ie W0 w4 p a a a a vL vJ vM rl rj rm (iu kk (ck i P kk) xx 0) (fun _ _=>0) (fun _ _=>0)) (fun u12 _=>a - (intOf u12).toNat)
       case atStart=>exact ⟨0,Nat.zero_le _,rfl,HO3.out.congrR fun c d _ _=>(BO _ _ c d).symm⟩
       case round=>
        rename World=>W4
        obtain ⟨xx,hxa,rfl,hO⟩:=hrel
        as_aux_lemma=>
        by_cases hxx:xx<a
        ·have HO4:=Lib.hid hO;clear hO;go_wp2_with fail;go_loopw [13] (fun u13 w5=>∃yy:Nat,yy <= a∧u13=.int .i64 yy∧ie W0 w5 p a a a a vL vJ vM rl rj rm (iu kk (ck i P kk) xx yy) (fun _ _=>0) (fun _ _=>0)) (fun u13 _=>a - (intOf u13).toNat)
         case atStart=>exact ⟨0,Nat.zero_le _,rfl,HO4.out⟩
         case round=>
          rename World=>W5
          obtain ⟨yy,hya,rfl,hO⟩:=hrel
          as_aux_lemma=>
          by_cases hyy:yy<a
          ·obtain ⟨bo,cb,hv,hcell⟩:=hO.mL.cells (by omega);have k1:=hO.cells.2.1;rw [hv]at k1;obtain ⟨k2,_,x2⟩:=hcell xx hxx;obtain ⟨k3,_,y2⟩:=hcell kk hkl;have m1:=x2 yy hyy;have m2:=x2 kk hkl;have m3:=y2 yy hyy;rw [BN]at m1;rw [Ef]at m2;rw [Eg]at m3;have m4:=hO.mL.frozen hxx yy;have hput:=fun c d=>DA kk (ck i P kk) xx yy c d;have hst:gk kk (ck i P kk) xx yy=(ck i P kk xx yy||(ck i P kk xx kk&&ck i P kk kk yy)):=rfl;clear hcell x2 y2;obtain ⟨q1,h1⟩:∃q,ck i P kk xx yy=q:=⟨_,rfl⟩
           obtain ⟨q2,h2⟩:∃q,ck i P kk xx kk=q:=⟨_,rfl⟩
           obtain ⟨q3,h3⟩:∃q,ck i P kk kk yy=q:=⟨_,rfl⟩
           rw [h1]at m1;rw [h2]at m2;rw [h3]at m3;rw [h1,h2,h3]at hst;clear h1 h2 h3;cases q1
           ·cases q2
            ·as_aux_lemma=>
             have hrel:∀c d,(if c=xx∧d=yy then false else iu kk (ck i P kk) xx yy c d)=iu kk (ck i P kk) xx (yy+1) c d:=fun c d=>by rw [hput,hst];rfl
             have HO6:=Lib.hid (((hO.setL yy hxx false).congrR fun c d _ _=>hrel c d).later (Below.refl _ _).drew);clear hput hst hO hrel;go_wp2_with fail;go_region
             generalize (W5.setCell ⟨rl xx,yy,none⟩ (.bool false)).drew=W6 at*;go_wp2_with fail;go_roundw;case rel=>exact ⟨yy+1,by omega,by go_num,HO6.out⟩
             case measure=>simp [intOf];omega
            ·as_aux_lemma=>
             have hrel:∀c d,(if c=xx∧d=yy then q3 else iu kk (ck i P kk) xx yy c d)=iu kk (ck i P kk) xx (yy+1) c d:=fun c d=>by rw [hput,hst];rfl
             have HO6:=Lib.hid (((hO.setL yy hxx q3).congrR fun c d _ _=>hrel c d).later (Below.refl _ _).drew);clear hput hst hO hrel;go_wp2_with fail;go_region
             generalize (W5.setCell ⟨rl xx,yy,none⟩ (.bool q3)).drew=W6 at*;go_wp2_with fail;go_roundw;case rel=>exact ⟨yy+1,by omega,by go_num,HO6.out⟩
             case measure=>simp [intOf];omega
           ·as_aux_lemma=>
            have hrel:∀c d,(if c=xx∧d=yy then true else iu kk (ck i P kk) xx yy c d)=iu kk (ck i P kk) xx (yy+1) c d:=fun c d=>by rw [hput,hst];rfl
            have HO6:=Lib.hid (((hO.setL yy hxx true).congrR fun c d _ _=>hrel c d).later (Below.refl _ _).drew);clear hput hst hO hrel;go_wp2_with fail;go_region
            generalize (W5.setCell ⟨rl xx,yy,none⟩ (.bool true)).drew=W6 at*;go_wp2_with fail;go_roundw;case rel=>exact ⟨yy+1,by omega,by go_num,HO6.out⟩
            case measure=>simp [intOf];omega
          ·obtain rfl:yy=a:=(by omega);have HO6:=Lib.hid (hO.congrR fun c d _ hd=>DB kk (ck i P kk) xx yy c d hd);clear hO;go_wp2_with fail;go_roundw;case rel=>exact ⟨xx+1,by omega,by go_num,HO6.out⟩
           case measure=>simp [intOf];omega
        ·obtain rfl:xx=a:=(by omega);have HO6:=Lib.hid (hO.congrR fun c d hc _=>show _=ck i P (kk+1) c d from Dz kk (ck i P kk) xx c d hc);clear hO;go_wp2_with fail;go_roundw;case rel=>exact ⟨kk+1,by omega,by go_num,HO6.out⟩
         case measure=>simp [intOf];omega
      ·obtain rfl:kk=a:=(by omega);obtain ⟨R,hR⟩:∃R,ck i P kk=R:=⟨_,rfl⟩
       have hpost:∀e w',sN W0 kk i P e w'=sN W0 kk i P e w':=fun _ _=>rfl;rw [hR]at hO;have HRR:=Lib.hid hR;have HO3:=Lib.hid hO;have hrf:=hO.readR h0;have p0:=hrf.num;obtain ⟨bo,cb,k1,hrows⟩:=hrf.rows;have HROW:=Lib.hid hrows;clear hO hR hrf hrows HO2 hpost;go_wp2_with fail;go_loop [14] (fun u14=>∃x:Nat,x <= kk∧u14=.int .i64 x∧∀c d,c<x ->d<kk ->¬(c≠d∧R c d=true∧R d c=true)) (fun u14=>kk - (intOf u14).toNat)
       case atStart=>exact ⟨0,Nat.zero_le _,rfl,fun c d hc=>absurd hc (by omega)⟩
       case round=>
        obtain ⟨x,hxk,rfl,hno⟩:=hrel;have HNO:=Lib.hid hno;clear hno
        as_aux_lemma=>
        by_cases hxx:x<kk
        ·go_wp2_with fail;go_loop [15] (fun u15=>∃y:Nat,y <= kk∧u15=.int .i64 y∧∀d,d<y ->¬(x≠d∧R x d=true∧R d x=true)) (fun u15=>kk - (intOf u15).toNat)
         case atStart=>exact ⟨0,Nat.zero_le _,rfl,fun d hd=>absurd hd (by omega)⟩
         case round=>
          obtain ⟨y,hyk,rfl,hno⟩:=hrel;have HN2:=Lib.hid hno;clear hno
          as_aux_lemma=>
          by_cases hyy:y<kk
          ·obtain ⟨bx,cx,x1,x2⟩:=HROW.out x hxx;obtain ⟨by_,cy,y1,y2⟩:=HROW.out y hyy;have m1:=x2 y hyy;have m2:=y2 x hxx;clear x2 y2;obtain ⟨q1,h1⟩:∃q,R x y=q:=⟨_,rfl⟩
           obtain ⟨q2,h2⟩:∃q,R y x=q:=⟨_,rfl⟩
           rw [h1]at m1;rw [h2]at m2;have HQ:=Lib.hid (And.intro h1 h2);clear h1 h2;by_cases hxy:x=y
           ·have HS:=Lib.hid (show∀d,d<y+1 ->¬(x≠d∧R x d=true∧R d x=true)from fun d hd=>by
             by_cases e:d=y
             ·rw [e];exact fun h=>h.1 hxy
             ·exact HN2.out d (by omega))
            have t1:((x:Int) !=(y:Int))=false:=(by simp;omega);clear hxy;go_wp2_with fail;go_round;case rel=>exact ⟨y+1,by omega,by go_num,HS.out⟩
            case measure=>simp [intOf];omega
           ·have t1:((x:Int) !=(y:Int))=true:=(by simp;omega);have HS:=Lib.hid (show¬(q1=true∧q2=true) ->∀d,d<y+1 ->¬(x≠d∧R x d=true∧R d x=true)from fun hq d hd=>by
             by_cases e:d=y
             ·rw [e,HQ.out.1,HQ.out.2];exact fun h=>hq h.2
             ·exact HN2.out d (by omega))
            have HXY:=Lib.hid hxy;clear hxy;cases q1
            ·go_wp2_with fail;go_round;case rel=>exact ⟨y+1,by omega,by go_num,HS.out (by simp)⟩
             case measure=>simp [intOf];omega
            ·cases q2
             ·go_wp2_with fail;go_round;case rel=>exact ⟨y+1,by omega,by go_num,HS.out (by simp)⟩
              case measure=>simp [intOf];omega
             ·go_wp2_with fail
              go_ret2
              exact ⟨HO3.out.below,Or.inr (Or.inl ⟨HIN.out,fun hg=>(hg x y hxx hyy).1 ⟨HXY.out,by rw [HRR.out];exact HQ.out.1,by rw [HRR.out];exact HQ.out.2⟩,rfl⟩)⟩
          ·obtain rfl:y=kk:=(by omega);have HS:=Lib.hid (show∀c d,c<x+1 ->d<y ->¬(c≠d∧R c d=true∧R d c=true)from fun c d hc hd=>by
            by_cases e:c=x
            ·rw [e];exact HN2.out d hd
            ·exact HNO.out c d (by omega) hd)
           go_wp2_with fail;go_round;case rel=>exact ⟨x+1,by omega,by go_num,HS.out⟩
           case measure=>simp [intOf];omega
        ·have HANTI:=Lib.hid (show∀c d,c<kk ->d<kk ->¬(c≠d∧R c d=true∧R d c=true)from fun c d hc hd=>HNO.out c d (by omega) hd);have hOz:=HO3.out.congrJ (J':=iK (fun c d=>cg R kk c d true) 0 0) (M':=iK (fun c d=>cg R kk c d false) 0 0) (fun c d _ _=>(r8 _ c d).symm) (fun c d _ _=>(r8 _ c d).symm);have HOZ:=Lib.hid hOz;clear p0 k1 HROW HNO hOz;go_wp2_with fail;go_loopw [16] (fun u16 w7=>∃xj:Nat,xj <= kk∧u16=.int .i64 xj∧(∀c d,c<xj ->d<kk ->0 <= cg R kk c d true∧0 <= cg R kk c d false)∧ie W0 w7 p kk kk kk kk vL vJ vM rl rj rm R (iK (fun c d=>cg R kk c d true) xj 0) (iK (fun c d=>cg R kk c d false) xj 0)) (fun u16 _=>kk - (intOf u16).toNat)
         case atStart=>exact ⟨0,Nat.zero_le _,rfl,fun c d hc=>absurd hc (by omega),HOZ.out⟩
         case round=>
          rename World=>W7
          obtain ⟨xj,hxjk,rfl,hge,hO⟩:=hrel;have HGE:=Lib.hid hge;have HO7:=Lib.hid hO;clear hge hO
          as_aux_lemma=>
          by_cases hxjx:xj<kk
          ·go_wp2_with fail;go_loopw [17] (fun u17 w8=>∃yj:Nat,yj <= kk∧u17=.int .i64 yj∧(∀d,d<yj ->0 <= cg R kk xj d true∧0 <= cg R kk xj d false)∧ie W0 w8 p kk kk kk kk vL vJ vM rl rj rm R (iK (fun c d=>cg R kk c d true) xj yj) (iK (fun c d=>cg R kk c d false) xj yj)) (fun u17 _=>kk - (intOf u17).toNat)
           case atStart=>exact ⟨0,Nat.zero_le _,rfl,fun d hd=>absurd hd (by omega),HO7.out⟩
           case round=>
            rename World=>W8
            obtain ⟨yj,hyjk,rfl,hge,hO⟩:=hrel;have HG2:=Lib.hid hge;clear hge
            as_aux_lemma=>
            by_cases hyjy:yj<kk
            ·have hOd:=hO.later (Below.refl W8.heap.size W8).drew;clear hO;go_wp2_with fail;obtain ⟨Wd,hWd⟩:∃W,W8.drew=W:=⟨_,rfl⟩
             rw [hWd]at hOd;obtain ⟨bj,cj,hvj,hcj⟩:=hOd.mJ.cells (by omega);obtain ⟨bm,cm,hvm,hcm⟩:=hOd.mM.cells (by omega);obtain ⟨_,_,c2,c3⟩:=hOd.cells;rw [hvj]at c2;rw [hvm]at c3;have o2:=(hcj xj hxjx).1;have o3:=(hcm xj hxjx).1;refine aQ (S:=fun j W'=>([3,5,6,11,13,14,19,23].contains j=true) ->(W'.cell? ⟨p,2,none⟩=some (.slice (some ⟨bj,0,none⟩) kk cj)∧W'.cell? ⟨bj,xj,none⟩=some (.slice (some ⟨rj xj,0,none⟩) kk kk)∧W'.cell? ⟨p,3,none⟩=some (.slice (some ⟨bm,0,none⟩) kk cm)∧W'.cell? ⟨bm,xj,none⟩=some (.slice (some ⟨rm xj,0,none⟩) kk kk))) (by kernel_rfl) ?_;rw [hWd];have HOd:=Lib.hid hOd;clear hWd hOd hcj hcm
             as_aux_lemma=>
             refine ju 0 220 ?_ rfl (by kernel_rfl) (fun _ _ _ h=>h) (fun _ h=>absurd h (by decide)) rfl (Or.inl ⟨by rfl,?_⟩) ?_;rotate_left
             ·intro w' _;go_simp<;>with_reducible rfl
             simp only [List.set];refine ju 1 221 ?_ rfl (by kernel_rfl) (fun _ _ _ h=>h) (fun _ h=>absurd h (by decide)) rfl (Or.inl ⟨by rfl,?_⟩) ?_;rotate_left
             ·intro w' _;go_simp<;>with_reducible rfl
             simp only [List.set];refine ju 2 222 ?_ rfl (by kernel_rfl) (fun _ _ _ h=>h) (fun _ h=>absurd h (by decide)) rfl (Or.inl ⟨by rfl,?_⟩) ?_;rotate_left
             ·intro w' _;go_simp<;>with_reducible rfl
             simp only [List.set];refine ju 4 224 ?_ rfl (by kernel_rfl) (fun _ _ _ h=>h) (fun _ h=>absurd h (by decide)) rfl (Or.inl ⟨by rfl,?_⟩) ?_;rotate_left
             ·intro w' _;go_simp<;>with_reducible rfl
             simp only [List.set];refine ju 7 227 ?_ rfl (by kernel_rfl) (fun _ _ _ h=>h) (fun _ h=>absurd h (by decide)) rfl (Or.inl ⟨by rfl,?_⟩) ?_;rotate_left
             ·intro w' _;go_simp<;>with_reducible rfl
             simp only [List.set]
             as_aux_lemma=>
             refine ju 8 228 ?_ rfl (by kernel_rfl) (fun _ _ _ h=>h) (fun _ h=>absurd h (by decide)) rfl (Or.inl ⟨by rfl,?_⟩) ?_;rotate_left
             ·intro w' _;go_simp<;>with_reducible rfl
             simp only [List.set];refine ju 9 229 ?_ rfl (by kernel_rfl) (fun _ _ _ h=>h) (fun _ h=>absurd h (by decide)) rfl (Or.inl ⟨by rfl,?_⟩) ?_;rotate_left
             ·intro w' _;go_simp<;>with_reducible rfl
             simp only [List.set];refine ju 10 230 ?_ rfl (by kernel_rfl) (fun _ _ _ h=>h) (fun _ h=>absurd h (by decide)) rfl (Or.inl ⟨by rfl,?_⟩) ?_;rotate_left
             ·intro w' _;go_simp<;>with_reducible rfl
             simp only [List.set];refine ju 12 232 ?_ rfl (by kernel_rfl) (fun _ _ _ h=>h) (fun _ h=>absurd h (by decide)) rfl (Or.inl ⟨by rfl,?_⟩) ?_;rotate_left
             ·intro w' _;go_simp<;>with_reducible rfl
             simp only [List.set];refine ju 15 235 ?_ rfl (by kernel_rfl) (fun _ _ _ h=>h) (fun _ h=>absurd h (by decide)) rfl (Or.inl ⟨by rfl,?_⟩) ?_;rotate_left
             ·intro w' _;go_simp<;>with_reducible rfl
             simp only [List.set]
             as_aux_lemma=>
             refine ju 16 236 ?_ rfl (by kernel_rfl) (fun _ _ _ h=>h) (fun _ h=>absurd h (by decide)) rfl (Or.inl ⟨by rfl,?_⟩) ?_;rotate_left
             ·intro w' _;go_simp<;>with_reducible rfl
             simp only [List.set];refine ju 17 237 ?_ rfl (by kernel_rfl) (fun _ _ _ h=>h) (fun _ h=>absurd h (by decide)) rfl (Or.inl ⟨by rfl,?_⟩) ?_;rotate_left
             ·intro w' _;go_simp<;>with_reducible rfl
             simp only [List.set];refine ju 18 238 ?_ rfl (by kernel_rfl) (fun _ _ _ h=>h) (fun _ h=>absurd h (by decide)) rfl (Or.inl ⟨by rfl,?_⟩) ?_;rotate_left
             ·intro w' _;go_simp<;>with_reducible rfl
             simp only [List.set];refine ju 20 240 ?_ rfl (by kernel_rfl) (fun _ _ _ h=>h) (fun _ h=>absurd h (by decide)) rfl (Or.inl ⟨by rfl,?_⟩) ?_;rotate_left
             ·intro w' _;go_simp<;>with_reducible rfl
             simp only [List.set];refine ju 21 241 ?_ rfl (by kernel_rfl) (fun _ _ _ h=>h) (fun _ h=>absurd h (by decide)) rfl (Or.inl ⟨by rfl,?_⟩) ?_;rotate_left
             ·intro w' _;go_simp<;>with_reducible rfl
             simp only [List.set];refine ju 22 242 ?_ rfl (by kernel_rfl) (fun _ _ _ h=>h) (fun _ h=>absurd h (by decide)) rfl (Or.inl ⟨by rfl,?_⟩) ?_;rotate_left
             ·intro w' _;go_simp<;>with_reducible rfl
             simp only [List.set]
             as_aux_lemma=>
             refine ga 3 223 ?_ rfl [3,5,6,11,13,14,19,23] (by kernel_rfl) (fun _ _ _ h=>h) (by decide) rfl (Or.inl ⟨by rfl,?_⟩) ⟨c2,o2,c3,o3⟩ ?_;rotate_left
             ·rintro w' ⟨s0,s1,s2,s3⟩;go_simp<;>with_reducible rfl
             simp only [List.set];refine ga 5 225 ?_ rfl [3,5,6,11,13,14,19,23] (by kernel_rfl) (fun _ _ _ h=>h) (by decide) rfl (Or.inl ⟨by rfl,?_⟩) ⟨c2,o2,c3,o3⟩ ?_;rotate_left
             ·rintro w' ⟨s0,s1,s2,s3⟩;go_simp<;>with_reducible rfl
             simp only [List.set];refine ga 6 226 ?_ rfl [3,5,6,11,13,14,19,23] (by kernel_rfl) (fun _ _ _ h=>h) (by decide) rfl (Or.inl ⟨by rfl,?_⟩) ⟨c2,o2,c3,o3⟩ ?_;rotate_left
             ·rintro w' ⟨s0,s1,s2,s3⟩;go_simp<;>with_reducible rfl
             simp only [List.set]
             as_aux_lemma=>
             refine ga 11 231 ?_ rfl [3,5,6,11,13,14,19,23] (by kernel_rfl) (fun _ _ _ h=>h) (by decide) rfl (Or.inl ⟨by rfl,?_⟩) ⟨c2,o2,c3,o3⟩ ?_;rotate_left
             ·rintro w' ⟨s0,s1,s2,s3⟩;go_simp<;>with_reducible rfl
             simp only [List.set];refine ga 13 233 ?_ rfl [3,5,6,11,13,14,19,23] (by kernel_rfl) (fun _ _ _ h=>h) (by decide) rfl (Or.inl ⟨by rfl,?_⟩) ⟨c2,o2,c3,o3⟩ ?_;rotate_left
             ·rintro w' ⟨s0,s1,s2,s3⟩;go_simp<;>with_reducible rfl
             simp only [List.set];refine ga 14 234 ?_ rfl [3,5,6,11,13,14,19,23] (by kernel_rfl) (fun _ _ _ h=>h) (by decide) rfl (Or.inl ⟨by rfl,?_⟩) ⟨c2,o2,c3,o3⟩ ?_;rotate_left
             ·rintro w' ⟨s0,s1,s2,s3⟩;go_simp<;>with_reducible rfl
             simp only [List.set]
             as_aux_lemma=>
             refine ac (i:=19) (by kernel_rfl) rfl (fun K' hK=>?_);have HKK:=Lib.hid hK;clear hK;go_simp
             refine (rV p kk xj yj R true Wd hn hxjx hyjy (HOd.out.readR h0)).mono ?_;rintro e W9 ⟨rfl,b9⟩;have d2:=(b9.cell (World.block_lt_of_cell? _ _ c2)).trans c2;have d3:=(b9.cell (World.block_lt_of_cell? _ _ c3)).trans c3;have n2:=(b9.cell (World.block_lt_of_cell? _ _ o2)).trans o2;have n3:=(b9.cell (World.block_lt_of_cell? _ _ o3)).trans o3;have HO9:=Lib.hid (HOd.out.later b9);clear b9 c2 c3 o2 o3;go_wp2_with fail;refine HKK.out _ _ ⟨fun _=>⟨d2,n2,d3,n3⟩,?_⟩;clear HKK K';try simp only [Act.put,List.setIfInBounds_toArray,List.set_cons_zero,List.set_cons_succ]
             as_aux_lemma=>
             refine ac (i:=23) (by kernel_rfl) rfl (fun K' hK=>?_);have HKK:=Lib.hid hK;clear hK;go_simp
             refine (rV p kk xj yj R false W9 hn hxjx hyjy (HO9.out.readR h0)).mono ?_;rintro e W10 ⟨rfl,b10⟩;have c2:=(b10.cell (World.block_lt_of_cell? _ _ d2)).trans d2;have c3:=(b10.cell (World.block_lt_of_cell? _ _ d3)).trans d3;have o2:=(b10.cell (World.block_lt_of_cell? _ _ n2)).trans n2;have o3:=(b10.cell (World.block_lt_of_cell? _ _ n3)).trans n3;have hO10:=HO9.out.later b10;clear b10 d2 d3 n2 n3;go_wp2_with fail;refine HKK.out _ _ ⟨fun _=>⟨c2,o2,c3,o3⟩,?_⟩;clear HKK K';try simp only [Act.put,List.setIfInBounds_toArray,List.set_cons_zero,List.set_cons_succ]
             obtain ⟨jv,hjv⟩:∃v,cg R kk xj yj true=v:=⟨_,rfl⟩
             obtain ⟨mv,hmv⟩:∃v,cg R kk xj yj false=v:=⟨_,rfl⟩
             rw [hjv,hmv];have hO11:=hO10.setJ yj hxjx jv;have hO12:=(hO11.setM yj hxjx mv).congrJ (J':=iK (fun c d=>cg R kk c d true) xj (yj+1)) (M':=iK (fun c d=>cg R kk c d false) xj (yj+1)) (fun c d _ _=>by rw [<- uC,<- hjv]) (fun c d _ _=>by rw [<- uC,<- hmv]);have f2:=hO10.mJ.frozen hxjx yj;have f3:=hO11.mM.frozen hxjx yj;obtain ⟨v2,z2⟩:∃v,W10.cell? ⟨rj xj,yj,none⟩=some v:=by
              obtain ⟨_,_,_,h⟩:=hO10.mJ.cells (by omega);exact ⟨_,(h xj hxjx).2.2 yj hyjy⟩
             obtain ⟨v3,z3⟩:∃v,(W10.setCell ⟨rj xj,yj,none⟩ (.int .i64 jv)).cell? ⟨rm xj,yj,none⟩=some v:=by
              obtain ⟨_,_,_,h⟩:=hO11.mM.cells (by omega);exact ⟨_,(h xj hxjx).2.2 yj hyjy⟩
             have HV:=Lib.hid (And.intro hjv hmv);have HO12:=Lib.hid hO12;clear hO10 hO11 hO12 hjv hmv
             as_aux_lemma=>
             refine ac (i:=24) (by kernel_rfl) rfl (fun K' hK=>?_);have HKK:=Lib.hid hK;clear hK;go_simp
             refine HKK.out _ _ ⟨fun h=>absurd h (by decide),?_⟩;clear HKK K';try simp only [Act.put,List.setIfInBounds_toArray,List.set_cons_zero,List.set_cons_succ]
             refine ac (i:=25) (by kernel_rfl) rfl (fun K' hK=>?_);have HKK:=Lib.hid hK;clear hK;go_simp
             refine HKK.out _ _ ⟨fun h=>absurd h (by decide),?_⟩;clear HKK K';try simp only [Act.put,List.setIfInBounds_toArray,List.set_cons_zero,List.set_cons_succ]
             as_aux_lemma=>
             refine ac (i:=26) (by kernel_rfl) rfl (fun K' hK=>?_);have HKK:=Lib.hid hK;clear hK;go_simp
             refine HKK.out _ _ ⟨fun h=>absurd h (by decide),?_⟩;clear HKK K';try simp only [Act.put,List.setIfInBounds_toArray,List.set_cons_zero,List.set_cons_succ]
             refine ac (i:=27) (by kernel_rfl) rfl (fun K' hK=>?_);have HKK:=Lib.hid hK;clear hK;go_simp
             refine HKK.out _ _ ⟨fun h=>absurd h (by decide),?_⟩;clear HKK K';try simp only [Act.put,List.setIfInBounds_toArray,List.set_cons_zero,List.set_cons_succ]
             as_aux_lemma=>
             refine aP (by kernel_rfl) ?_ _;clear f2 f3 z2 z3 c2 c3 o2 o3;generalize (W10.setCell ⟨rj xj,yj,none⟩ (.int .i64 jv)).setCell ⟨rm xj,yj,none⟩ (.int .i64 mv)=W12 at HO12⊢;obtain ⟨bj2,cj2,hvj2,hcj2⟩:=HO12.out.mJ.cells (by omega);obtain ⟨bm2,cm2,hvm2,hcm2⟩:=HO12.out.mM.cells (by omega);obtain ⟨_,_,c2,c3⟩:=HO12.out.cells;rw [hvj2]at c2;rw [hvm2]at c3;have o2:=(hcj2 xj hxjx).1;have o3:=(hcm2 xj hxjx).1;have z2:W12.cell? ⟨rj xj,yj,none⟩=some (.int .i64 jv):=by
              rw [(hcj2 xj hxjx).2.2 yj hyjy,<- HV.out.1];unfold iK;rw [if_pos (by omega)]
             have z3:W12.cell? ⟨rm xj,yj,none⟩=some (.int .i64 mv):=by
              rw [(hcm2 xj hxjx).2.2 yj hyjy,<- HV.out.2];unfold iK;rw [if_pos (by omega)]
             clear hcj2 hcm2
             as_aux_lemma=>
             by_cases w1:jv<0
             ·go_wp2_with fail
              go_ret2
              exact ⟨HO12.out.below,Or.inr (Or.inl ⟨HIN.out,fun hg=>by
               have:=(hg xj yj hxjx hyjy).2.1;rw [HRR.out,HV.out.1]at this;omega,rfl⟩)⟩
             ·by_cases w2:mv<0
              ·go_wp2_with fail
               go_ret2
               exact ⟨HO12.out.below,Or.inr (Or.inl ⟨HIN.out,fun hg=>by
                have:=(hg xj yj hxjx hyjy).2.2;rw [HRR.out,HV.out.2]at this;omega,rfl⟩)⟩
              ·have HG3:=Lib.hid (show∀d,d<yj+1 ->0 <= cg R kk xj d true∧0 <= cg R kk xj d false from fun d hd=>by
                by_cases e:d=yj
                ·rw [e,HV.out.1,HV.out.2];omega
                ·exact HG2.out d (by omega))
               go_wp2_with fail;go_roundw;case rel=>exact ⟨yj+1,by omega,by go_num,HG3.out,HO12.out⟩
               case measure=>simp [intOf];omega
            ·obtain rfl:yj=kk:=(by omega);have HG3:=Lib.hid (show∀c d,c<xj+1 ->d<yj ->0 <= cg R yj c d true∧0 <= cg R yj c d false from fun c d hc hd=>by
              by_cases e:c=xj
              ·rw [e];exact HG2.out d hd
              ·exact HGE.out c d (by omega) hd)
             have HO8:=Lib.hid (hO.congrJ (J':=iK (fun c d=>cg R yj c d true) (xj+1) 0) (M':=iK (fun c d=>cg R yj c d false) (xj+1) 0) (fun c d _ hd=>uD _ xj yj c d hd) (fun c d _ hd=>uD _ xj yj c d hd));clear hO;go_wp2_with fail;go_roundw;case rel=>exact ⟨xj+1,by omega,by go_num,HG3.out,HO8.out⟩
             case measure=>simp [intOf];omega
          ·have HGG:=Lib.hid (show xN kk R from fun c d hc hd=>⟨HANTI.out c d hc hd,HGE.out c d (by omega) hd⟩);have HOF:=Lib.hid (HO7.out.congrJ (J':=fun c d=>cg R kk c d true) (M':=fun c d=>cg R kk c d false) (fun c d hc _=>uB _ xj c d (by omega)) (fun c d hc _=>uB _ xj c d (by omega)));go_wp2_with fail
           go_ret2
           refine ⟨HOF.out.below,Or.inr (Or.inr ⟨HIN.out,by rw [HRR.out];exact HGG.out,p,rfl,?_⟩)⟩;rw [HRR.out];have hf:=HOF.out;obtain ⟨bj2,cj2,hvj2,hcj2⟩:=hf.mJ.cells h0;obtain ⟨bm2,cm2,hvm2,hcm2⟩:=hf.mM.cells h0;obtain ⟨_,_,c2,c3⟩:=hf.cells;rw [hvj2]at c2;rw [hvm2]at c3;exact ⟨hf.readR h0,⟨bj2,cj2,c2,fun c hc=>⟨rj c,kk,(hcj2 c hc).1,fun d hd=>(hcj2 c hc).2.2 d hd⟩⟩,⟨bm2,cm2,c3,fun c hc=>⟨rm c,kk,(hcm2 c hc).1,fun d hd=>(hcm2 c hc).2.2 d hd⟩⟩⟩
end Go.Proofs.YtcannffahjbjnaaGreatDoor
