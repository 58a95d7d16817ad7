import Derived.Test.YtcannffahjbjnaaGreatDoorVwBQ
import Derived.Test.YtcannffahjbjnaaGreatDoorVwBS
import Derived.Test.YtcannffahjbjnaaGreatDoorVwBT
set_option linter.unusedVariables false
set_option linter.unusedSimpArgs false
set_option maxRecDepth 100000
set_option maxHeartbeats 64000000
namespace Go.Proofs.YtcannffahjbjnaaGreatDoor
open Go.RowKit
theorem AB:(Tryz.prog.info? 92).map (fun i=>(i.zero,i.size,i.bytes))=some (some (.agg #[.int .i64 0,.string ⟨#[]⟩]),2,24):=by kernel_rfl
def kv (x:wY):List Value:=[.int .i64 (x.kind:Int),.string ⟨x.text.toArray⟩]
def oQ (B:Nat) (w:World) (v:Value) (l:List wY):Prop:=w.ownsRow B 92 2 v l.length (l.flatMap kv)
def lX (B:Nat) (w:World) (v:Value) (l:List eB):Prop:=w.ownsRow B 40 2 v l.length (l.flatMap eP)
def lZ (B:Nat) (w:World) (v:Value) (l:List cO):Prop:=w.ownsRow B 47 5 v l.length (cB l)
structure dJ where
 bv:Value
 av:Value
 dv:Value
 gv:Value
 tv:Value
def dJ.owns (V:dJ) (k:Nat):Prop:=some k=V.bv.ownBlock∨some k=V.av.ownBlock∨some k=V.dv.ownBlock∨some k=V.gv.ownBlock∨some k=V.tv.ownBlock
structure cW (B b sb:Nat) (w:World) (V:dJ) (st:aq):Prop where
 heap:w.heap[b]? =some (.cells #[V.bv,V.av,V.dv,V.gv,.pointer (some ⟨sb,0,none⟩),V.tv] 60 (0,0))
 bl:aD B w V.bv st.blocks
 at':lX B w V.av st.atoms
 df:lZ B w V.dv st.defs
 dg:oQ B w V.gv st.diags
 tb:lZ B w V.tv st.tab
 ap:V.dv.ownBlock=none∨V.dv.ownBlock≠V.tv.ownBlock
 base:B <= b
theorem cW.lt {B b sb:Nat} {w:World} {V:dJ} {st:aq} (h:cW B b sb w V st):b<w.heap.size:=(Array.getElem?_eq_some_iff.1 h.heap).1
theorem cW.below {B b sb:Nat} {w w':World} {V:dJ} {st:aq} (h:cW B b sb w V st) (hb:Below w.heap.size w w'):cW B b sb w' V st:=
 ⟨(hb.block b h.lt).trans h.heap,ah h.bl hb,ah h.at' hb,ah h.df hb,ah h.dg hb,ah h.tb hb,h.ap,h.base⟩
structure BK (B b:Nat) (V:dJ) (w w':World):Prop where
 below:Below B w w'
 keep:∀k,k<w.heap.size ->k≠b ->¬V.owns k ->w'.heap[k]? =w.heap[k]?
def dJ.newer (V V':dJ) (n:Nat):Prop:=∀k,V'.owns k ->V.owns k∨n <= k
def dP (B b sb:Nat) (w:World) (V:dJ) (st':aq) (w':World):Prop:=∃V',cW B b sb w' V' st'∧BK B b V w w'∧V.newer V' w.heap.size
theorem BK.refl (B b:Nat) (V:dJ) (w:World):BK B b V w w:=⟨Below.refl _ _,fun _ _ _ _=>rfl⟩
theorem BK.of_below {B b:Nat} {V:dJ} {w w':World} (h:Below w.heap.size w w') (hB:B <= w.heap.size):BK B b V w w':=⟨h.mono hB,fun k hk _ _=>h.block k hk⟩
theorem BK.trans {B b:Nat} {V V1:dJ} {w w1 w2:World} (h:BK B b V w w1) (hn:V.newer V1 w.heap.size) (h2:BK B b V1 w1 w2):BK B b V w w2:=
 ⟨h.below.trans h2.below,fun k hk hb hne=>(h2.keep k (Nat.lt_of_lt_of_le hk h.below.size) hb (fun ho=>by
  rcases hn k ho with h0|h0
  ·exact hne h0
  ·omega)).trans (h.keep k hk hb hne)⟩
theorem dP.trans {B b sb:Nat} {w w1 w2:World} {V V1:dJ} {st:aq} (hk:BK B b V w w1) (hn:V.newer V1 w.heap.size) (h2:dP B b sb w1 V1 st w2):dP B b sb w V st w2:=by
 obtain ⟨V2,g1,g2,g3⟩:=h2;refine ⟨V2,g1,hk.trans hn g2,fun k hk2=>?_⟩;rcases g3 k hk2 with h|h
 ·exact hn k h
 ·exact Or.inr (Nat.le_trans hk.below.size h)
theorem dJ.newer_refl (V:dJ) (n:Nat):V.newer V n:=fun _ h=>Or.inl h
theorem BK.own {B b sb B2:Nat} {w w':World} {V:dJ} {st:aq} {e:TypeId} {size:Nat} {v:Value} {n:Nat} {xs:List Value} (hk:BK B b V w w') (h:cW B b sb w V st) (hr:w.ownsRow B2 e size v n xs) (h0:e≠60) (h1:e≠45) (h2:e≠40) (h3:e≠47) (h4:e≠92):w'.ownsRow B2 e size v n xs:=by
 have one:∀{e2 z2 n2:Nat} {v2:Value} {x2:List Value} {B3:Nat} (_:w.ownsRow B3 e2 z2 v2 n2 x2) (_:e≠e2) (g:Nat),v.ownBlock=some g ->some g≠v2.ownBlock:=fun hr2 he g hg=>by
  rcases aV hr hr2 he with h|h
  ·rw [hg]at h;cases h
  ·rw [hg]at h;exact h
 refine dZ hr fun g hg=>hk.keep g (World.ownsRow.lt hr g hg).2 (fun e0=>?_) (fun ho=>?_)
 ·have:=cR hr h.heap h0;rw [hg,e0]at this;exact this rfl
 ·rcases ho with ho|ho|ho|ho|ho
  ·exact one h.bl h1 g hg ho
  ·exact one h.at' h2 g hg ho
  ·exact one h.df h3 g hg ho
  ·exact one h.dg h4 g hg ho
  ·exact one h.tb h3 g hg ho
theorem mc {B b sb:Nat} {w:World} {V:dJ} {st:aq} (h:cW B b sb w V st) (kind:Nat) (T:ByteArray) (hl:st.diags.length <= 1000000000000) (hk:kind <= 1000):
  Calls Tryz.prog 23 #[.pointer (some ⟨b,0,none⟩),.int .i64 (kind:Int),.string T] w fun e w'=>e=.returned (.tuple #[])∧dP B b sb w V (st.diag kind T.data.toList) w':=by
 obtain ⟨is,hsi,hs0,hs1,hs2⟩:=info_parts AB;obtain ⟨gao,gc,hgv,_⟩:=ac h.dg;have c3:w.cell? ⟨b,3,none⟩=some V.gv:=(by rw [cell_of_row w b _ _ _ _ h.heap];rfl);rw [hgv]at c3;have hBw:B <= w.heap.size:=(by have:=h.base;have:=h.lt;omega);have HH:=zh h;have hdg:=h.dg;unfold oQ at hdg;rw [hgv]at hdg;have HDG:=zh hdg;have HGV:=zh hgv;obtain ⟨n,hn⟩:∃n,st.diags.length=n:=⟨_,rfl⟩
 rw [hn]at c3 HDG hl HGV;have HN:=zh hn;clear h hdg hgv hn;go_enter Tryz.func23,Tryz.ntmps23
 go_wp2_with (first
  |(at_builtin;refine dq _ rfl _ _ 31 rfl B 92 is (.agg #[.int .i64 0,.string ⟨#[]⟩]) 2 24 Tryz.underlying31 hsi hs0 hs1 hs2 rfl (by decide) _ n _ rfl (World.ownsRow.alloc HDG.out _) ⟨w.heap.size,0,none⟩ 1 1 [.int .i64 (kind:Int),.string T] rfl rfl ?c1 ?c2 ?c3 ?c4 ?c5 ?_))
 case c1=>exact ar _ _ _ _ rfl
 case c2=>intro u hu;simp at hu;rcases hu with rfl|rfl<;>rfl
 case c3=>unfold maxLen;omega
 case c4=>omega
 case c5=>simp;omega
 intro v4 w4 hown4 honto hat;have hg1:=(World.grownBy_alloc w (.cells #[.int .i64 (kind:Int),.string T] 92) (Value.slice gao n gc).ownBlock).trans honto.grown;rw [<- HGV.out]at hg1 hat;obtain ⟨vao,vc,hvv,_⟩:=ac hown4;subst hvv;have hob:=cR HH.out.dg HH.out.heap (by decide);have hh4:=(hg1.block b HH.out.lt hob).trans HH.out.heap;have c3':w4.cell? ⟨b,3,none⟩=some V.gv:=(by rw [cell_of_row w4 b _ _ _ _ hh4];rfl);have f3:w4.frozen? ⟨b,3,none⟩=false:=frozen_of_row w4 b 3 _ _ hh4;have HO4:=zh hown4;have HG1:=zh hg1;have HAT:=zh hat;have HH4:=zh hh4;clear hown4 honto hat hg1 hob hh4;go_wp2_with fail
 go_end0
 refine ⟨rfl,⟨V.bv,V.av,V.dv,.slice vao (n+1) vc,V.tv⟩,?_,⟨?_,fun k hk hkb hko=>?_⟩,fun k hk=>?_⟩
 ·have kp:∀{e2 z2 n2:Nat} {v2:Value} {x2:List Value} (_:w.ownsRow B e2 z2 v2 n2 x2) (_:e2≠92) (_:e2≠60),(w4.setCell ⟨b,3,none⟩ (.slice vao (n+1) vc)).ownsRow B e2 z2 v2 n2 x2:=fun hr h1 h2=>
   aR (a:=⟨b,3,none⟩) (World.ownsRow.kept hr HG1.out (aV hr HH.out.dg h1)) HH4.out h2 _
  refine ⟨heap_setCell_same w4 b 3 _ _ _ HH4.out,kp HH.out.bl (by decide) (by decide),kp HH.out.at' (by decide) (by decide),kp HH.out.df (by decide) (by decide),?_,kp HH.out.tb (by decide) (by decide),HH.out.ap,HH.out.base⟩;have h1:=aR (a:=⟨b,3,none⟩) HO4.out HH4.out (by decide) (.slice vao (n+1) vc);unfold oQ aq.diag;simp only [List.length_append,List.flatMap_append,List.length_cons,List.length_nil,HN.out];have h2:[(⟨kind,T.data.toList⟩:wY)].flatMap kv=[.int .i64 (kind:Int),.string T]:=(by simp [kv,Lib.mk_data]);rw [h2];exact h1
 ·exact ((Below.refl B w).grown HG1.out hBw (fun j hj=>(World.ownsRow.lt HH.out.dg j hj).1)).setCell (p:=⟨b,3,none⟩) HH.out.base _
 ·rw [Below.heap_setCell _ _ _ _ hkb];exact HG1.out.block k hk (fun e=>hko (Or.inr (Or.inr (Or.inr (Or.inl e)))))
 ·rcases hk with e|e|e|e|e
  ·exact Or.inl (Or.inl e)
  ·exact Or.inl (Or.inr (Or.inl e))
  ·exact Or.inl (Or.inr (Or.inr (Or.inl e)))
  ·rcases HAT.out with h|h
   ·exact Or.inl (Or.inr (Or.inr (Or.inr (Or.inl (e.trans h)))))
   ·refine Or.inr ?_;have:=Option.some.inj (e.trans h);rw [this];simp
  ·exact Or.inl (Or.inr (Or.inr (Or.inr (Or.inr e))))
def gx (v:Value) (o:Option Nat) (n:Nat):Prop:=v.ownBlock=o∨∃k,v.ownBlock=some k∧n <= k
theorem cW.kept {B b sb:Nat} {w w4:World} {V:dJ} {st:aq} (h:cW B b sb w V st) {e:TypeId} {z n:Nat} {v:Value} {xs:List Value} (hr:w.ownsRow B e z v n xs) (hg:w.grownBy w4 v.ownBlock) (he:e≠60):w4.heap[b]? =w.heap[b]? :=
 hg.block b h.lt (cR hr h.heap he)
theorem ej {B:Nat} {w w4:World} {b:Nat} {j:Nat} {cs:Array Value} {u:Value} (hh:w4.heap[b]? =some (.cells cs 60 (0,0))) {e e2:TypeId} {z n z2 n2:Nat} {v v2:Value} {xs x2:List Value} (hr:w.ownsRow B e z v n xs) (hg:w.grownBy w4 v.ownBlock) (hr2:w.ownsRow B e2 z2 v2 n2 x2) (h1:e2≠e) (h2:e2≠60):(w4.setCell ⟨b,j,none⟩ u).ownsRow B e2 z2 v2 n2 x2:=
 aR (a:=⟨b,j,none⟩) (World.ownsRow.kept hr2 hg (aV hr2 hr h1)) hh h2 _
theorem ny {B b sb:Nat} {w w4:World} {V:dJ} {st:aq} (h:cW B b sb w V st) {e:TypeId} {z n:Nat} {v:Value} {xs:List Value} (hr:w.ownsRow B e z v n xs) (hg:w.grownBy w4 v.ownBlock) (hv:∀k,some k=v.ownBlock ->V.owns k) (j:Nat) (u:Value):BK B b V w (w4.setCell ⟨b,j,none⟩ u):=
 ⟨((Below.refl B w).grown hg (by have:=h.base;have:=h.lt;omega) (fun j hj=>(World.ownsRow.lt hr j hj).1)).setCell (p:=⟨b,j,none⟩) h.base _,fun k hk hkb hko=>by
  rw [Below.heap_setCell _ _ _ _ hkb];exact hg.block k hk (fun e=>hko (hv k e))⟩
theorem cW.pushB {B b sb:Nat} {w w4:World} {V:dJ} {st:aq} (h:cW B b sb w V st) (x:ak) {v:Value} (hown:aD B w4 v (st.blocks++[x])) (hg:w.grownBy w4 V.bv.ownBlock) (hat:gx v V.bv.ownBlock w.heap.size):
  dP B b sb w V {st with blocks:=st.blocks++[x]} (w4.setCell ⟨b,0,none⟩ v):=by
 have hh4:=(h.kept h.bl hg (by decide)).trans h.heap;refine ⟨{V with bv:=v},⟨heap_setCell_same w4 b 0 _ _ _ hh4,aR (a:=⟨b,0,none⟩) hown hh4 (by decide) _,ej hh4 h.bl hg h.at' (by decide) (by decide),ej hh4 h.bl hg h.df (by decide) (by decide),ej hh4 h.bl hg h.dg (by decide) (by decide),ej hh4 h.bl hg h.tb (by decide) (by decide),h.ap,h.base⟩,ny h h.bl hg (fun k e=>Or.inl e) 0 v,fun k hk=>?_⟩;rcases hk with e|e|e|e|e
 ·rcases hat with e2|⟨k2,e2,h2⟩
  ·exact Or.inl (Or.inl (e.trans e2))
  ·exact Or.inr (by rw [Option.some.inj (e.trans e2)];exact h2)
 ·exact Or.inl (Or.inr (Or.inl e))
 ·exact Or.inl (Or.inr (Or.inr (Or.inl e)))
 ·exact Or.inl (Or.inr (Or.inr (Or.inr (Or.inl e))))
 ·exact Or.inl (Or.inr (Or.inr (Or.inr (Or.inr e))))
theorem cW.pushA {B b sb:Nat} {w w4:World} {V:dJ} {st:aq} (h:cW B b sb w V st) (x:eB) {v:Value} (hown:lX B w4 v (st.atoms++[x])) (hg:w.grownBy w4 V.av.ownBlock) (hat:gx v V.av.ownBlock w.heap.size):
  dP B b sb w V {st with atoms:=st.atoms++[x]} (w4.setCell ⟨b,1,none⟩ v):=by
 have hh4:=(h.kept h.at' hg (by decide)).trans h.heap;refine ⟨{V with av:=v},⟨heap_setCell_same w4 b 1 _ _ _ hh4,ej hh4 h.at' hg h.bl (by decide) (by decide),aR (a:=⟨b,1,none⟩) hown hh4 (by decide) _,ej hh4 h.at' hg h.df (by decide) (by decide),ej hh4 h.at' hg h.dg (by decide) (by decide),ej hh4 h.at' hg h.tb (by decide) (by decide),h.ap,h.base⟩,ny h h.at' hg (fun k e=>Or.inr (Or.inl e)) 1 v,fun k hk=>?_⟩;rcases hk with e|e|e|e|e
 ·exact Or.inl (Or.inl e)
 ·rcases hat with e2|⟨k2,e2,h2⟩
  ·exact Or.inl (Or.inr (Or.inl (e.trans e2)))
  ·exact Or.inr (by rw [Option.some.inj (e.trans e2)];exact h2)
 ·exact Or.inl (Or.inr (Or.inr (Or.inl e)))
 ·exact Or.inl (Or.inr (Or.inr (Or.inr (Or.inl e))))
 ·exact Or.inl (Or.inr (Or.inr (Or.inr (Or.inr e))))
theorem cW.pushD {B b sb:Nat} {w w4:World} {V:dJ} {st:aq} (h:cW B b sb w V st) (x:cO) {v:Value} (hown:lZ B w4 v (st.defs++[x])) (hg:w.grownBy w4 V.dv.ownBlock) (hat:gx v V.dv.ownBlock w.heap.size):
  dP B b sb w V {st with defs:=st.defs++[x]} (w4.setCell ⟨b,2,none⟩ v):=by
 have hh4:=(h.kept h.df hg (by decide)).trans h.heap;have htv:V.tv.ownBlock=none∨V.tv.ownBlock≠V.dv.ownBlock:=by
  rcases h.ap with e|e
  ·rw [e];exact Classical.em _
  ·exact Or.inr (Ne.symm e)
 have htb:(w4.setCell ⟨b,2,none⟩ v).ownsRow B 47 5 V.tv st.tab.length (cB st.tab):=aR (a:=⟨b,2,none⟩) (World.ownsRow.kept h.tb hg htv) hh4 (by decide) _;refine ⟨{V with dv:=v},⟨heap_setCell_same w4 b 2 _ _ _ hh4,ej hh4 h.df hg h.bl (by decide) (by decide),ej hh4 h.df hg h.at' (by decide) (by decide),aR (a:=⟨b,2,none⟩) hown hh4 (by decide) _,ej hh4 h.df hg h.dg (by decide) (by decide),htb,?_,h.base⟩,ny h h.df hg (fun k e=>Or.inr (Or.inr (Or.inl e))) 2 v,fun k hk=>?_⟩
 ·rcases hat with e2|⟨k2,e2,h2⟩
  ·show v.ownBlock=none∨v.ownBlock≠V.tv.ownBlock;rw [e2];exact h.ap
  ·refine Or.inr (fun e=>?_);have e3:v.ownBlock=V.tv.ownBlock:=e;rw [e2]at e3;have:=(World.ownsRow.lt h.tb k2 e3.symm).2;omega
 rcases hk with e|e|e|e|e
 ·exact Or.inl (Or.inl e)
 ·exact Or.inl (Or.inr (Or.inl e))
 ·rcases hat with e2|⟨k2,e2,h2⟩
  ·exact Or.inl (Or.inr (Or.inr (Or.inl (e.trans e2))))
  ·exact Or.inr (by rw [Option.some.inj (e.trans e2)];exact h2)
 ·exact Or.inl (Or.inr (Or.inr (Or.inr (Or.inl e))))
 ·exact Or.inl (Or.inr (Or.inr (Or.inr (Or.inr e))))
theorem jh (s:ByteArray) (ao:Option Addr) (cap:Nat) (ts:List eB) (w:World) (hE:kU w) (hR:0<ts.length ->bL w 2 ao ts.length (ts.flatMap eP)) (hs:s.size <= 1000000) (hT:∀a∈ts,a.text.length <= 1000000):
  Calls Tryz.prog 63 #[.string s,.slice ao ts.length cap] w fun e w'=>e=.returned (.string ⟨(aA s.data.toList ts).toArray⟩)∧Below w.heap.size w w':=by
 have HC:=zh (uJ s ao cap ts w hE hR hs hT);obtain ⟨n,hn⟩:∃n,ts.length=n:=⟨_,rfl⟩
 rw [hn]at HC⊢;clear hR hE hs hT hn;go_enter Tryz.func63,Tryz.ntmps63
 go_wp2_with fail;refine HC.out.mono ?_;rintro e w2 ⟨rfl,hb⟩;have HB:=zh hb;clear hb;go_wp2_with fail;go_ret;exact ⟨rfl,HB.out⟩
theorem zX (B b:Nat) (sv:Value) (ds:List cO) (d:cO) (w:World) (hBb:B <= b) (hb:w.heap[b]? =some (.cells #[sv] 58 (0,0))) (ho:w.ownsRow B 47 5 sv ds.length (cB ds)) (hl:ds.length <= 1000000000):
  Calls Tryz.prog 102 #[.pointer (some ⟨b,0,none⟩),d.val] w fun e w'=>e=.returned (.bool (iJ ds d).2)∧∃sv',w'.heap[b]? =some (.cells #[sv'] 58 (0,0))∧w'.ownsRow B 47 5 sv' (iJ ds d).1.length (cB (iJ ds d).1)∧Below B w w'∧(∀k,k<w.heap.size ->k≠b ->some k≠sv.ownBlock ->w'.heap[k]? =w.heap[k]?)∧(sv'.ownBlock=sv.ownBlock∨∃g,sv'.ownBlock=some g∧w.heap.size <= g):=by
 obtain ⟨i0,hi,hz0,hz1,hz2⟩:=info_parts sw;have hbl:b<w.heap.size:=(Array.getElem?_eq_some_iff.1 hb).1;have hb1:Below w.heap.size w (w.alloc (.cells #[.string ⟨d.name.toArray⟩,.string ⟨d.url.toArray⟩,.string ⟨d.title.toArray⟩,.string ⟨d.text.toArray⟩,.bool d.note] 47)):=(Below.refl _ w).alloc (Nat.le_refl _) _;have hh1:=(hb1.block b hbl).trans hb;have ho1:=ah ho hb1;have hf:=xw b sv ds d.name d.note _ hh1 (dL ho1 (Nat.zero_le _)) hl;have hk0:(w.alloc (.cells #[.string ⟨d.name.toArray⟩,.string ⟨d.url.toArray⟩,.string ⟨d.title.toArray⟩,.string ⟨d.text.toArray⟩,.bool d.note] 47)).heap[w.heap.size]? =some (.cells #[.string ⟨d.name.toArray⟩,.string ⟨d.url.toArray⟩,.string ⟨d.title.toArray⟩,.string ⟨d.text.toArray⟩,.bool d.note] 47 (0,0)):=heap_alloc_new w _;have HF:=zh hf;have HX:=zh (And.intro hb1 (And.intro hh1 (And.intro ho1 hk0)));have hnr:(some w.heap.size:Option Nat)≠sv.ownBlock:=fun h=>by have:=(World.ownsRow.lt ho w.heap.size h.symm).2;omega
 clear hf hb1 hh1 ho1 hk0 ho hb;show Calls Tryz.prog _ #[_,.agg #[.string ⟨d.name.toArray⟩,.string ⟨d.url.toArray⟩,.string ⟨d.title.toArray⟩,.string ⟨d.text.toArray⟩,.bool d.note]] w _;go_enter Tryz.func102,Tryz.ntmps102
 go_wp2_with fail;refine HF.out.mono ?_;rintro e w2 ⟨n,rfl,hpost,b2⟩;obtain ⟨hb1,hh1,ho1,hk0⟩:=HX.out;have hB2:=aa hb1 b2;have hh2:=(b2.block b (by have:=hb1.size;omega)).trans hh1;have ho2:=ah ho1 b2;have hk2:=(b2.block _ (Array.getElem?_eq_some_iff.1 hk0).1).trans hk0;clear HF HX hb1 hh1 ho1 hk0 b2;rcases hpost with ⟨rfl,hlk⟩|⟨k,d2,rfl,hk,hd,hlk⟩
 ·have HA:=zh (show iJ ds d=(ds++[d],true) by unfold iJ;rw [hlk];rfl);obtain ⟨sao,scap,hsv,_⟩:=ac ho2;subst hsv;have p0:=nL.cell hh2;have hbl2:b<w2.heap.size:=(Array.getElem?_eq_some_iff.1 hh2).1;have hdl2:w.heap.size<w2.heap.size:=(Array.getElem?_eq_some_iff.1 hk2).1;obtain ⟨c0,c1,c2,c3,c4⟩:w2.cell? ⟨w.heap.size,0,none⟩=some (.string ⟨d.name.toArray⟩)∧w2.cell? ⟨w.heap.size,1,none⟩=some (.string ⟨d.url.toArray⟩)∧w2.cell? ⟨w.heap.size,2,none⟩=some (.string ⟨d.title.toArray⟩)∧w2.cell? ⟨w.heap.size,3,none⟩=some (.string ⟨d.text.toArray⟩)∧w2.cell? ⟨w.heap.size,4,none⟩=some (.bool d.note):=by
   refine ⟨?_,?_,?_,?_,?_⟩<;>(rw [cell_of_row w2 w.heap.size _ _ _ _ hk2];rfl)
  have b2a:=(Below.refl w2.heap.size w2).alloc (Nat.le_refl _) (.cells #[.string ⟨d.name.toArray⟩,.string ⟨d.url.toArray⟩,.string ⟨d.title.toArray⟩,.string ⟨d.text.toArray⟩,.bool d.note] 47);have p0a:=(b2a.cell (p:=⟨b,0,none⟩) hbl2).trans p0;have a0:=(b2a.cell (p:=⟨w.heap.size,0,none⟩) hdl2).trans c0;have a1:=(b2a.cell (p:=⟨w.heap.size,1,none⟩) hdl2).trans c1;have a2:=(b2a.cell (p:=⟨w.heap.size,2,none⟩) hdl2).trans c2;have a3:=(b2a.cell (p:=⟨w.heap.size,3,none⟩) hdl2).trans c3;have a4:=(b2a.cell (p:=⟨w.heap.size,4,none⟩) hdl2).trans c4;have hoA:=ah ho2 b2a;have hhA:=(b2a.block b hbl2).trans hh2;have hkA:=(b2a.block w.heap.size hdl2).trans hk2;have hBA:=(hB2.mono (show B <= w.heap.size by omega)).trans (b2a.mono (show B <= w2.heap.size by omega));have hlA:w2.heap.size<(w2.alloc (.cells #[.string ⟨d.name.toArray⟩,.string ⟨d.url.toArray⟩,.string ⟨d.title.toArray⟩,.string ⟨d.text.toArray⟩,.bool d.note] 47)).heap.size:=(by simp);have hnews:=ar w2 [.string ⟨d.name.toArray⟩,.string ⟨d.url.toArray⟩,.string ⟨d.title.toArray⟩,.string ⟨d.text.toArray⟩,.bool d.note] 47 w2.heap.size rfl;have hob:(some b:Option Nat)≠(Value.slice sao ds.length scap).ownBlock:=cR hoA hhA (by decide);have hbne:¬w.heap.size=b:=(by omega);have hbA:∀k,k<w2.heap.size ->(w2.alloc (.cells #[.string ⟨d.name.toArray⟩,.string ⟨d.url.toArray⟩,.string ⟨d.title.toArray⟩,.string ⟨d.text.toArray⟩,.bool d.note] 47)).heap[k]? =w2.heap[k]? :=fun k hk=>b2a.block k hk;obtain ⟨WA,hWA⟩:∃W,w2.alloc (.cells #[.string ⟨d.name.toArray⟩,.string ⟨d.url.toArray⟩,.string ⟨d.title.toArray⟩,.string ⟨d.text.toArray⟩,.bool d.note] 47)=W:=⟨_,rfl⟩
  have HA2:=zh (And.intro hoA (And.intro hhA (And.intro hkA (And.intro hBA (And.intro hnews (And.intro hob hbA))))));clear hlk hoA hhA hkA hBA hnews hob hbA hWA WA b2a;go_wp2_with fail
  go_region_law
   ((
    refine step_append_lies _ rfl (.tmp 20) (.tmp 22) 30 rfl B 47 i0 (.agg #[.string ⟨#[]⟩,.string ⟨#[]⟩,.string ⟨#[]⟩,.string ⟨#[]⟩,.bool false]) 5 72 Tryz.underlying30 hi hz0 hz1 hz2 rfl (by decide) (.slice sao ds.length scap) ds.length (cB ds) rfl HA2.out.1 ⟨w2.heap.size,0,none⟩ 1 1 [.string ⟨d.name.toArray⟩,.string ⟨d.url.toArray⟩,.string ⟨d.title.toArray⟩,.string ⟨d.text.toArray⟩,.bool d.note] rfl rfl HA2.out.2.2.2.2.1 (nR d) (by decide) (by unfold maxLen;omega) (by omega) ?_ _ rfl ?_
    ·exact Nat.le_of_lt (Nat.lt_of_le_of_lt (show B <= w2.heap.size by omega) hlA)
    intro g cap w5 hown5 hgrow5 hat5 hlt5;have hk5:=(hgrow5.block w.heap.size (Nat.lt_trans hdl2 hlA) hnr).trans HA2.out.2.2.1;have hh5:=(hgrow5.block b (Nat.lt_trans hbl2 hlA) HA2.out.2.2.2.2.2.1).trans HA2.out.2.1;have g0:=aN a0 (hk5.trans HA2.out.2.2.1.symm);have g1:=aN a1 (hk5.trans HA2.out.2.2.1.symm);have g2:=aN a2 (hk5.trans HA2.out.2.2.1.symm);have g3:=aN a3 (hk5.trans HA2.out.2.2.1.symm);have g4:=aN a4 (hk5.trans HA2.out.2.2.1.symm);have p5:=nL.cell hh5;have f5:=frozen_of_row w5 b 0 _ _ hh5;have kk:=Below.heap_setCell w5 ⟨b,0,none⟩ (.slice (some ⟨g,0,none⟩) (ds.length+1) cap) w.heap.size hbne;have k0:=aN g0 kk;have k1:=aN g1 kk;have k2:=aN g2 kk;have k3:=aN g3 kk;have k4:=aN g4 kk))
  all_goals
   go_wp2_with fail;go_ret;refine ⟨by rw [HA.out];rfl,.slice (some ⟨g,0,none⟩) (ds.length+1) cap,heap_setCell_same w5 b 0 _ _ _ hh5,?_,(HA2.out.2.2.2.1.drew.grown hgrow5 (Nat.le_of_lt (Nat.lt_of_le_of_lt (show B <= w2.heap.size by omega) hlA)) (fun j hj=>(HA2.out.1.lt j hj).1)).setCell (p:=⟨b,0,none⟩) hBb _,fun k hk hkb hks=>?_,?_⟩
   ·rw [HA.out];rw [show (ds++[d]).length=ds.length+1 by simp,gS];exact aR (a:=⟨b,0,none⟩) hown5 hh5 (by decide) _
   ·have hk2:k<w2.heap.size:=Nat.lt_of_lt_of_le hk hB2.size;rw [Below.heap_setCell _ _ _ _ hkb,hgrow5.block k (Nat.lt_trans hk2 hlA) hks];exact (HA2.out.2.2.2.2.2.2 k hk2).trans (hB2.block k hk)
   ·rcases hat5 with h|h
    ·exact Or.inl (by rw [h];rfl)
    ·refine Or.inr ⟨g,rfl,?_⟩;have:=hB2.size;have h3:(w2.alloc (.cells #[.string ⟨d.name.toArray⟩,.string ⟨d.url.toArray⟩,.string ⟨d.title.toArray⟩,.string ⟨d.text.toArray⟩,.bool d.note] 47)).drew.heap.size=g:=h.symm;have h4:(w2.alloc (.cells #[.string ⟨d.name.toArray⟩,.string ⟨d.url.toArray⟩,.string ⟨d.title.toArray⟩,.string ⟨d.text.toArray⟩,.bool d.note] 47)).drew.heap.size=w2.heap.size+1:=(by simp);omega
 ·have HA:=zh (show iJ ds d=(ds,false) by unfold iJ;rw [hlk];rfl);have hk0:(0:Int) <= (k:Int):=(by omega);clear hlk hd;go_wp2_with fail;go_ret;exact ⟨by rw [HA.out];rfl,sv,hh2,by rw [HA.out];exact ho2,hB2.mono (by omega),fun k hk _ _=>hB2.block k hk,Or.inl rfl⟩
theorem TabAt5.cell {w:World} {b:Nat} {x0 x1 x2 x3 x4 sv:Value} {T:TypeId} (h:w.heap[b]? =some (.cells #[x0,x1,x2,x3,x4,sv] T (0,0))):w.cell? ⟨b,5,none⟩=some sv:=by
 rw [cell_of_row w b 5 _ _ _ h];rfl
theorem Au (x0 x1 x2 x3 x4:Value) (b:Nat) (sv:Value) (ds:List cO) (x:List UInt8) (note:Bool) (w:World) (hb:w.heap[b]? =some (.cells #[x0,x1,x2,x3,x4,sv] 60 (0,0))) (ho:w.ownsRow 0 47 5 sv ds.length (cB ds)) (hl:ds.length <= 1000000000000):
  Calls Tryz.prog 131 #[.pointer (some ⟨b,5,none⟩),.string ⟨x.toArray⟩,.bool note] w fun e w'=>∃n,e=.returned (.int .i64 n)∧s8 ds x note n∧Below w.heap.size w w':=by
 have hc:=TabAt5.cell hb;obtain ⟨ao,c,hsv,hR,_⟩:=ac ho;subst hsv;have HR:=zh hR;clear hR ho hb;go_enter Tryz.func131,Tryz.ntmps131
 go_wp2_with fail;go_loopw [14] (fun u14 wr=>∃k:Nat,k <= ds.length∧u14=.int .i64 k∧Below w.heap.size w wr∧dY (ds.drop k) x note=dY ds x note) (fun u14 _=>ds.length - (intOf u14).toNat)
 case atStart=>exact ⟨0,Nat.zero_le _,rfl,Below.refl _ _,rfl⟩
 case round=>
  obtain ⟨k,hk,rfl,hB,hlk⟩:=hrel;by_cases hlt:k<ds.length
  ·obtain ⟨d,hd⟩:∃d,ds[k]? =some d:=⟨ds[k],by simp [hlt]⟩
   obtain ⟨g,o,rfl⟩:∃g o,ao=some ⟨g,o,none⟩:=by
    cases hao:ao with
    |none=>have:=HR.out.non hao;omega
    |some ad=>
     obtain ⟨g,o,sp⟩:=ad;obtain rfl:sp=none:=(HR.out.at' _ hao).1;exact ⟨g,o,rfl⟩
   obtain ⟨c0,c1,c2,c3,c4⟩:=(HR.out.below hB).dfn k d hd;have hdr:ds.drop k=d::ds.drop (k+1):=by
    obtain ⟨h1,h2⟩:=List.getElem?_eq_some_iff.1 hd;rw [<- h2,List.getElem_cons_drop]
   rw [hdr,rs]at hlk;have HLK:=zh hlk;have HD:=zh hd;clear hlk hd hdr;have hB2:=hB.alloc hB.size (.cells #[.string ⟨d.name.toArray⟩,.string ⟨d.url.toArray⟩,.string ⟨d.title.toArray⟩,.string ⟨d.text.toArray⟩,.bool d.note] 47);by_cases hq:d.name=x
   ·subst hq;cases hnn:(d.note==note)
    ·have HN:=zh (show dY (ds.drop (k+1)) d.name note=dY ds d.name note by have:=HLK.out;rwa [hnn,Bool.and_false,if_neg (by simp)]at this);go_wp2_with fail;go_roundw;case rel=>exact ⟨k+1,by omega,by go_num,hB2,HN.out⟩
     case measure=>simp [intOf];omega
    ·have HN:=zh (show dY ds d.name note=some d by have:=HLK.out;rw [hnn,Bool.and_true,if_pos (by simp)]at this;exact this.symm);go_wp2_with fail;go_ret;exact ⟨k,rfl,Or.inr ⟨k,d,rfl,hlt,HD.out,HN.out⟩,hB2⟩
   ·have HN:=zh (show dY (ds.drop (k+1)) x note=dY ds x note by have:=HLK.out;rwa [show (d.name==x)=false by simpa using hq,Bool.false_and,if_neg (by simp)]at this);go_wp2_with fail;go_roundw;case rel=>exact ⟨k+1,by omega,by go_num,hB2,HN.out⟩
    case measure=>simp [intOf];omega
  ·obtain rfl:k=ds.length:=(by omega);have HN:=zh (show dY ds x note=none by rw [<- hlk,List.drop_length];rfl);clear hlk;go_wp2_with fail;go_ret;exact ⟨-1,rfl,Or.inl ⟨rfl,HN.out⟩,hB⟩
theorem xX (x0 x1 x2 x3 x4:Value) (B b:Nat) (sv:Value) (ds:List cO) (d:cO) (w:World) (hBb:B <= b) (hb:w.heap[b]? =some (.cells #[x0,x1,x2,x3,x4,sv] 60 (0,0))) (ho:w.ownsRow B 47 5 sv ds.length (cB ds)) (hl:ds.length <= 1000000000000):
  Calls Tryz.prog 102 #[.pointer (some ⟨b,5,none⟩),d.val] w fun e w'=>e=.returned (.bool (iJ ds d).2)∧∃sv',w'.heap[b]? =some (.cells #[x0,x1,x2,x3,x4,sv'] 60 (0,0))∧w'.ownsRow B 47 5 sv' (iJ ds d).1.length (cB (iJ ds d).1)∧Below B w w'∧(∀k,k<w.heap.size ->k≠b ->some k≠sv.ownBlock ->w'.heap[k]? =w.heap[k]?)∧(sv'.ownBlock=sv.ownBlock∨∃g,sv'.ownBlock=some g∧w.heap.size <= g):=by
 obtain ⟨i0,hi,hz0,hz1,hz2⟩:=info_parts sw;have hbl:b<w.heap.size:=(Array.getElem?_eq_some_iff.1 hb).1;have hb1:Below w.heap.size w (w.alloc (.cells #[.string ⟨d.name.toArray⟩,.string ⟨d.url.toArray⟩,.string ⟨d.title.toArray⟩,.string ⟨d.text.toArray⟩,.bool d.note] 47)):=(Below.refl _ w).alloc (Nat.le_refl _) _;have hh1:=(hb1.block b hbl).trans hb;have ho1:=ah ho hb1;have hf:=Au x0 x1 x2 x3 x4 b sv ds d.name d.note _ hh1 (dL ho1 (Nat.zero_le _)) hl;have hk0:(w.alloc (.cells #[.string ⟨d.name.toArray⟩,.string ⟨d.url.toArray⟩,.string ⟨d.title.toArray⟩,.string ⟨d.text.toArray⟩,.bool d.note] 47)).heap[w.heap.size]? =some (.cells #[.string ⟨d.name.toArray⟩,.string ⟨d.url.toArray⟩,.string ⟨d.title.toArray⟩,.string ⟨d.text.toArray⟩,.bool d.note] 47 (0,0)):=heap_alloc_new w _;have HF:=zh hf;have HX:=zh (And.intro hb1 (And.intro hh1 (And.intro ho1 hk0)));have hnr:(some w.heap.size:Option Nat)≠sv.ownBlock:=fun h=>by have:=(World.ownsRow.lt ho w.heap.size h.symm).2;omega
 clear hf hb1 hh1 ho1 hk0 ho hb;show Calls Tryz.prog _ #[_,.agg #[.string ⟨d.name.toArray⟩,.string ⟨d.url.toArray⟩,.string ⟨d.title.toArray⟩,.string ⟨d.text.toArray⟩,.bool d.note]] w _;go_enter Tryz.func102,Tryz.ntmps102
 go_wp2_with fail;refine HF.out.mono ?_;rintro e w2 ⟨n,rfl,hpost,b2⟩;obtain ⟨hb1,hh1,ho1,hk0⟩:=HX.out;have hB2:=aa hb1 b2;have hh2:=(b2.block b (by have:=hb1.size;omega)).trans hh1;have ho2:=ah ho1 b2;have hk2:=(b2.block _ (Array.getElem?_eq_some_iff.1 hk0).1).trans hk0;clear HF HX hb1 hh1 ho1 hk0 b2;rcases hpost with ⟨rfl,hlk⟩|⟨k,d2,rfl,hk,hd,hlk⟩
 ·have HA:=zh (show iJ ds d=(ds++[d],true) by unfold iJ;rw [hlk];rfl);obtain ⟨sao,scap,hsv,_⟩:=ac ho2;subst hsv;have p0:=TabAt5.cell hh2;have hbl2:b<w2.heap.size:=(Array.getElem?_eq_some_iff.1 hh2).1;have hdl2:w.heap.size<w2.heap.size:=(Array.getElem?_eq_some_iff.1 hk2).1;obtain ⟨c0,c1,c2,c3,c4⟩:w2.cell? ⟨w.heap.size,0,none⟩=some (.string ⟨d.name.toArray⟩)∧w2.cell? ⟨w.heap.size,1,none⟩=some (.string ⟨d.url.toArray⟩)∧w2.cell? ⟨w.heap.size,2,none⟩=some (.string ⟨d.title.toArray⟩)∧w2.cell? ⟨w.heap.size,3,none⟩=some (.string ⟨d.text.toArray⟩)∧w2.cell? ⟨w.heap.size,4,none⟩=some (.bool d.note):=by
   refine ⟨?_,?_,?_,?_,?_⟩<;>(rw [cell_of_row w2 w.heap.size _ _ _ _ hk2];rfl)
  have b2a:=(Below.refl w2.heap.size w2).alloc (Nat.le_refl _) (.cells #[.string ⟨d.name.toArray⟩,.string ⟨d.url.toArray⟩,.string ⟨d.title.toArray⟩,.string ⟨d.text.toArray⟩,.bool d.note] 47);have p0a:=(b2a.cell (p:=⟨b,5,none⟩) hbl2).trans p0;have a0:=(b2a.cell (p:=⟨w.heap.size,0,none⟩) hdl2).trans c0;have a1:=(b2a.cell (p:=⟨w.heap.size,1,none⟩) hdl2).trans c1;have a2:=(b2a.cell (p:=⟨w.heap.size,2,none⟩) hdl2).trans c2;have a3:=(b2a.cell (p:=⟨w.heap.size,3,none⟩) hdl2).trans c3;have a4:=(b2a.cell (p:=⟨w.heap.size,4,none⟩) hdl2).trans c4;have hoA:=ah ho2 b2a;have hhA:=(b2a.block b hbl2).trans hh2;have hkA:=(b2a.block w.heap.size hdl2).trans hk2;have hBA:=(hB2.mono (show B <= w.heap.size by omega)).trans (b2a.mono (show B <= w2.heap.size by omega));have hlA:w2.heap.size<(w2.alloc (.cells #[.string ⟨d.name.toArray⟩,.string ⟨d.url.toArray⟩,.string ⟨d.title.toArray⟩,.string ⟨d.text.toArray⟩,.bool d.note] 47)).heap.size:=(by simp);have hnews:=ar w2 [.string ⟨d.name.toArray⟩,.string ⟨d.url.toArray⟩,.string ⟨d.title.toArray⟩,.string ⟨d.text.toArray⟩,.bool d.note] 47 w2.heap.size rfl;have hob:(some b:Option Nat)≠(Value.slice sao ds.length scap).ownBlock:=cR hoA hhA (by decide);have hbne:¬w.heap.size=b:=(by omega);have hbA:∀k,k<w2.heap.size ->(w2.alloc (.cells #[.string ⟨d.name.toArray⟩,.string ⟨d.url.toArray⟩,.string ⟨d.title.toArray⟩,.string ⟨d.text.toArray⟩,.bool d.note] 47)).heap[k]? =w2.heap[k]? :=fun k hk=>b2a.block k hk;obtain ⟨WA,hWA⟩:∃W,w2.alloc (.cells #[.string ⟨d.name.toArray⟩,.string ⟨d.url.toArray⟩,.string ⟨d.title.toArray⟩,.string ⟨d.text.toArray⟩,.bool d.note] 47)=W:=⟨_,rfl⟩
  have HA2:=zh (And.intro hoA (And.intro hhA (And.intro hkA (And.intro hBA (And.intro hnews (And.intro hob hbA))))));clear hlk hoA hhA hkA hBA hnews hob hbA hWA WA b2a;go_wp2_with fail
  go_region_law
   ((
    refine step_append_lies _ rfl (.tmp 20) (.tmp 22) 30 rfl B 47 i0 (.agg #[.string ⟨#[]⟩,.string ⟨#[]⟩,.string ⟨#[]⟩,.string ⟨#[]⟩,.bool false]) 5 72 Tryz.underlying30 hi hz0 hz1 hz2 rfl (by decide) (.slice sao ds.length scap) ds.length (cB ds) rfl HA2.out.1 ⟨w2.heap.size,0,none⟩ 1 1 [.string ⟨d.name.toArray⟩,.string ⟨d.url.toArray⟩,.string ⟨d.title.toArray⟩,.string ⟨d.text.toArray⟩,.bool d.note] rfl rfl HA2.out.2.2.2.2.1 (nR d) (by decide) (by unfold maxLen;omega) (by omega) ?_ _ rfl ?_
    ·exact Nat.le_of_lt (Nat.lt_of_le_of_lt (show B <= w2.heap.size by omega) hlA)
    intro g cap w5 hown5 hgrow5 hat5 hlt5;have hk5:=(hgrow5.block w.heap.size (Nat.lt_trans hdl2 hlA) hnr).trans HA2.out.2.2.1;have hh5:=(hgrow5.block b (Nat.lt_trans hbl2 hlA) HA2.out.2.2.2.2.2.1).trans HA2.out.2.1;have g0:=aN a0 (hk5.trans HA2.out.2.2.1.symm);have g1:=aN a1 (hk5.trans HA2.out.2.2.1.symm);have g2:=aN a2 (hk5.trans HA2.out.2.2.1.symm);have g3:=aN a3 (hk5.trans HA2.out.2.2.1.symm);have g4:=aN a4 (hk5.trans HA2.out.2.2.1.symm);have p5:=TabAt5.cell hh5;have f5:=frozen_of_row w5 b 5 _ _ hh5;have kk:=Below.heap_setCell w5 ⟨b,5,none⟩ (.slice (some ⟨g,0,none⟩) (ds.length+1) cap) w.heap.size hbne;have k0:=aN g0 kk;have k1:=aN g1 kk;have k2:=aN g2 kk;have k3:=aN g3 kk;have k4:=aN g4 kk))
  all_goals
   go_wp2_with fail;go_ret;refine ⟨by rw [HA.out];rfl,.slice (some ⟨g,0,none⟩) (ds.length+1) cap,heap_setCell_same w5 b 5 _ _ _ hh5,?_,(HA2.out.2.2.2.1.drew.grown hgrow5 (Nat.le_of_lt (Nat.lt_of_le_of_lt (show B <= w2.heap.size by omega) hlA)) (fun j hj=>(HA2.out.1.lt j hj).1)).setCell (p:=⟨b,5,none⟩) hBb _,fun k hk hkb hks=>?_,?_⟩
   ·rw [HA.out];rw [show (ds++[d]).length=ds.length+1 by simp,gS];exact aR (a:=⟨b,5,none⟩) hown5 hh5 (by decide) _
   ·have hk2:k<w2.heap.size:=Nat.lt_of_lt_of_le hk hB2.size;rw [Below.heap_setCell _ _ _ _ hkb,hgrow5.block k (Nat.lt_trans hk2 hlA) hks];exact (HA2.out.2.2.2.2.2.2 k hk2).trans (hB2.block k hk)
   ·rcases hat5 with h|h
    ·exact Or.inl (by rw [h];rfl)
    ·refine Or.inr ⟨g,rfl,?_⟩;have:=hB2.size;have h3:(w2.alloc (.cells #[.string ⟨d.name.toArray⟩,.string ⟨d.url.toArray⟩,.string ⟨d.title.toArray⟩,.string ⟨d.text.toArray⟩,.bool d.note] 47)).drew.heap.size=g:=h.symm;have h4:(w2.alloc (.cells #[.string ⟨d.name.toArray⟩,.string ⟨d.url.toArray⟩,.string ⟨d.title.toArray⟩,.string ⟨d.text.toArray⟩,.bool d.note] 47)).drew.heap.size=w2.heap.size+1:=(by simp);omega
 ·have HA:=zh (show iJ ds d=(ds,false) by unfold iJ;rw [hlk];rfl);have hk0:(0:Int) <= (k:Int):=(by omega);clear hlk hd;go_wp2_with fail;go_ret;exact ⟨by rw [HA.out];rfl,sv,hh2,by rw [HA.out];exact ho2,hB2.mono (by omega),fun k hk _ _=>hB2.block k hk,Or.inl rfl⟩
theorem cW.added {B b sb:Nat} {w w':World} {V:dJ} {st:aq} (h:cW B b sb w V st) {sv':Value} {ds:List cO}
  (hh:w'.heap[b]? =some (.cells #[V.bv,V.av,V.dv,V.gv,.pointer (some ⟨sb,0,none⟩),sv'] 60 (0,0))) (ho:w'.ownsRow B 47 5 sv' ds.length (cB ds)) (hB:Below B w w')
  (hk:∀k,k<w.heap.size ->k≠b ->some k≠V.tv.ownBlock ->w'.heap[k]? =w.heap[k]?) (hat:gx sv' V.tv.ownBlock w.heap.size):dP B b sb w V {st with tab:=ds} w':=by
 have kp:∀{e z n:Nat} {v:Value} {xs:List Value} (_:w.ownsRow B e z v n xs) (_:e≠60) (_:v.ownBlock=none∨v.ownBlock≠V.tv.ownBlock),w'.ownsRow B e z v n xs:=fun {e z n v xs} hr h1 h2=>
  dZ hr fun g hg=>hk g (World.ownsRow.lt hr g hg).2 (fun e0=>by
   have:=cR hr h.heap h1;rw [hg,e0]at this;exact this rfl) (fun e0=>by
   rcases h2 with h2|h2
   ·rw [hg]at h2;cases h2
   ·exact h2 (by rw [hg];exact e0))
 refine ⟨{V with tv:=sv'},⟨hh,kp h.bl (by decide) (aV h.bl h.tb (by decide)),kp h.at' (by decide) (aV h.at' h.tb (by decide)),kp h.df (by decide) h.ap,kp h.dg (by decide) (aV h.dg h.tb (by decide)),ho,?_,h.base⟩,⟨hB,fun k hk2 hkb hko=>hk k hk2 hkb (fun e=>hko (Or.inr (Or.inr (Or.inr (Or.inr e)))))⟩,fun k hk2=>?_⟩
 ·show V.dv.ownBlock=none∨V.dv.ownBlock≠sv'.ownBlock;rcases hat with e|⟨k,e,hk2⟩
  ·rw [e];exact h.ap
  ·refine Or.inr (fun e2=>?_);rw [e]at e2;have:=(World.ownsRow.lt h.df k e2).2;omega
 ·rcases hk2 with e|e|e|e|e
  ·exact Or.inl (Or.inl e)
  ·exact Or.inl (Or.inr (Or.inl e))
  ·exact Or.inl (Or.inr (Or.inr (Or.inl e)))
  ·exact Or.inl (Or.inr (Or.inr (Or.inr (Or.inl e))))
  ·rcases hat with e2|⟨k2,e2,h2⟩
   ·exact Or.inl (Or.inr (Or.inr (Or.inr (Or.inr (e.trans e2)))))
   ·exact Or.inr (by rw [Option.some.inj (e.trans e2)];exact h2)
structure qn (w:World):Prop where
 env:kU w
 p10:Lib.TabIs Tryz.prog w "internal/strconv.uint64pow10" .u64 Lib.pow10Tab
theorem qn.below {w w':World} (h:qn w) (hb:Below w.heap.size w w'):qn w':=
 ⟨h.env.below hb,rN (g:=3) (by kernel_rfl) h.p10 hb⟩
def ld (B:Nat) (w:World):Prop:=∀w',Below B w w' ->qn w'
theorem ld.below {B:Nat} {w w':World} (h:ld B w) (hb:Below B w w'):ld B w':=fun w2 h2=>h w2 (hb.trans h2)
theorem ld.env {B:Nat} {w:World} (h:ld B w):kU w:=(h w (Below.refl _ _)).env
theorem ld.p10 {B:Nat} {w:World} (h:ld B w):Lib.TabIs Tryz.prog w "internal/strconv.uint64pow10" .u64 Lib.pow10Tab:=(h w (Below.refl _ _)).p10
theorem ld.of {w:World} (h:qn w):ld w.heap.size w:=fun w' hb=>h.below hb
def l7 (B:Nat) (w:World) (sb:Nat) (z:bT):Prop:=
 ∀w',Below B w w' ->
  (∀x:ByteArray,Calls Tryz.prog 61 #[.pointer (some ⟨sb,0,none⟩),.string x] w' fun e w2=>e=.returned (.bool (z.unk x.data.toList))∧Below w'.heap.size w' w2)∧
  (∀(ao:Option Addr) (cap:Nat) (l:List (List UInt8)),bU w' ao l ->l.length <= 1000000 ->
   Calls Tryz.prog 21 #[.pointer (some ⟨sb,0,none⟩),.slice ao l.length cap] w' fun e w2=>e=.returned (.bool (z.sees l))∧Below w'.heap.size w' w2)
theorem l7.below {B:Nat} {w w':World} {sb:Nat} {z:bT} (h:l7 B w sb z) (hb:Below B w w'):l7 B w' sb z:=fun w2 h2=>h w2 (hb.trans h2)
theorem l7.of {w:World} {sb k:Nat} (h:gQ w sb k):l7 w.heap.size w sb (ee k):=fun w' hb=>
 ⟨fun x=>vf (h.below hb) x,fun ao cap l hR hl=>Bn (h.below hb) hR hl⟩
theorem l7.unknown {B:Nat} {w:World} {sb:Nat} {z:bT} (h:l7 B w sb z) (x:ByteArray):
  Calls Tryz.prog 61 #[.pointer (some ⟨sb,0,none⟩),.string x] w fun e w2=>e=.returned (.bool (z.unk x.data.toList))∧Below w.heap.size w w2:=(h w (Below.refl _ _)).1 x
theorem l7.sees {B:Nat} {w:World} {sb:Nat} {z:bT} (h:l7 B w sb z) {ao:Option Addr} {cap:Nat} {l:List (List UInt8)} (hR:bU w ao l) (hl:l.length <= 1000000):
  Calls Tryz.prog 21 #[.pointer (some ⟨sb,0,none⟩),.slice ao l.length cap] w fun e w2=>e=.returned (.bool (z.sees l))∧Below w.heap.size w w2:=(h w (Below.refl _ _)).2 ao cap l hR hl
theorem iu {w:World} {B:Nat} {e:TypeId} {z n:Nat} {v:Value} {xs:List Value} (h:w.ownsRow B e z v n xs) {g:Nat} (hg:some g=v.ownBlock):∃cs,w.heap[g]? =some (.cells cs e (0,0)):=by
 rcases h.2 with ⟨h0,_⟩|⟨g',c',cur,h0,_,hh,_⟩
 ·rw [h0]at hg;cases hg
 ·rw [h0]at hg;obtain rfl:=Option.some.inj hg;exact ⟨cur,hh⟩
theorem cW.kind {B b sb:Nat} {w:World} {V:dJ} {st:aq} (h:cW B b sb w V st) {k:Nat} (hk:V.owns k):
  ∃cs e,w.heap[k]? =some (.cells cs e (0,0))∧(e=45∨e=40∨e=47∨e=92):=by
 rcases hk with e|e|e|e|e
 ·obtain ⟨cs,hc⟩:=iu h.bl e;exact ⟨cs,_,hc,Or.inl rfl⟩
 ·obtain ⟨cs,hc⟩:=iu h.at' e;exact ⟨cs,_,hc,Or.inr (Or.inl rfl)⟩
 ·obtain ⟨cs,hc⟩:=iu h.df e;exact ⟨cs,_,hc,Or.inr (Or.inr (Or.inl rfl))⟩
 ·obtain ⟨cs,hc⟩:=iu h.dg e;exact ⟨cs,_,hc,Or.inr (Or.inr (Or.inr rfl))⟩
 ·obtain ⟨cs,hc⟩:=iu h.tb e;exact ⟨cs,_,hc,Or.inr (Or.inr (Or.inl rfl))⟩
theorem BK.obj {B b sb:Nat} {w w':World} {V:dJ} {st:aq} (hk:BK B b V w w') (h:cW B b sb w V st) {k:Nat} {o:Obj} (ho:w.heap[k]? =some o)
  (hne:∀cs e fz,o=.cells cs e fz ->e≠60∧e≠45∧e≠40∧e≠47∧e≠92):w'.heap[k]? =some o:=by
 refine (hk.keep k (Array.getElem?_eq_some_iff.1 ho).1 (fun e=>?_) (fun e=>?_)).trans ho
 ·subst e;exact (hne _ _ _ (Option.some.inj (ho.symm.trans h.heap))).1 rfl
 ·obtain ⟨cs,e2,h1,h2⟩:=h.kind e;obtain ⟨_,q1,q2,q3,q4⟩:=hne _ _ _ (Option.some.inj (ho.symm.trans h1));rcases h2 with e|e|e|e
  ·exact q1 e
  ·exact q2 e
  ·exact q3 e
  ·exact q4 e
theorem Ad {B b sb:Nat} {w w':World} {V:dJ} {st:aq} {B2 bb:Nat} {bs:List Value} (hI:Lib.IsBuilderF 112 5 B2 bb bs w) (hk:BK B b V w w') (h:cW B b sb w V st):Lib.IsBuilderF 112 5 B2 bb bs w':=by
 have one:∀p,Lib.BuilderAtF 112 5 B2 bb p bs w ->Lib.BuilderAtF 112 5 B2 bb p bs w':=by
  rintro p ⟨hB,v,hb,hown,hne⟩;refine ⟨hB,v,hk.obj h hb (fun cs e fz he=>?_),⟨hown.1,?_⟩,hne⟩
  ·simp only [Obj.cells.injEq]at he;rw [<- he.2.1];decide
  ·rcases hown.2 with hn|⟨g,cap,cur,fz,hv,hbg,hg,rest⟩
   ·exact Or.inl hn
   ·refine Or.inr ⟨g,cap,cur,fz,hv,hbg,hk.obj h hg (fun cs e fz he=>?_),rest⟩;simp only [Obj.cells.injEq]at he;rw [<- he.2.1];decide
 rcases hI with h1|h1
 ·exact Or.inl (one _ h1)
 ·exact Or.inr (one _ h1)
theorem eM {w w':World} {o:Nat} {B:Nat} {e:TypeId} {z n:Nat} {v:Value} {xs:List Value} (hr:w.ownsRow B e z v n xs) (hO:Lib.OthersKept 5 (some o) w w') (ho:∃cs,w.heap[o]? =some (.cells cs 112 (0,0))) (h1:e≠5) (h2:e≠112):w'.ownsRow B e z v n xs:=
 dZ hr fun g hg=>by
  obtain ⟨cs,hc⟩:=iu hr hg.symm;rw [hc];refine hO g _ hc (fun e0=>?_) (fun c fz e0=>?_)
  ·obtain ⟨cs2,h3⟩:=ho;obtain rfl:=Option.some.inj e0;have:=Option.some.inj (hc.symm.trans h3);simp only [Obj.cells.injEq]at this;exact h2 this.2.1
  ·simp only [Obj.cells.injEq]at e0;exact h1 e0.2.1
theorem cW.others {B b sb:Nat} {w w':World} {V:dJ} {st:aq} {o:Nat} (h:cW B b sb w V st) (hO:Lib.OthersKept 5 (some o) w w') (ho:∃cs,w.heap[o]? =some (.cells cs 112 (0,0))):cW B b sb w' V st:=by
 refine ⟨?_,eM h.bl hO ho (by decide) (by decide),eM h.at' hO ho (by decide) (by decide),eM h.df hO ho (by decide) (by decide),eM h.dg hO ho (by decide) (by decide),eM h.tb hO ho (by decide) (by decide),h.ap,h.base⟩;refine hO b _ h.heap (fun e0=>?_) (fun c fz e0=>?_)
 ·obtain ⟨cs2,h3⟩:=ho;obtain rfl:=Option.some.inj e0;have:=Option.some.inj (h.heap.symm.trans h3);simp only [Obj.cells.injEq]at this;exact absurd this.2.1 (by decide)
 ·simp only [Obj.cells.injEq]at e0;exact absurd e0.2.1 (by decide)
theorem m6 {w:World} {B2 bb:Nat} {bs:List Value} (hI:Lib.IsBuilderF 112 5 B2 bb bs w):∃cs,w.heap[bb]? =some (.cells cs 112 (0,0)):=by
 rcases hI with ⟨_,v,hb,_⟩|⟨_,v,hb,_⟩
 ·exact ⟨_,hb⟩
 ·exact ⟨_,hb⟩
theorem BK.step {B b:Nat} {V:dJ} {w0 w w':World} (h:BK B b V w0 w) (hb:Below w0.heap.size w w') (hB:B <= w0.heap.size):BK B b V w0 w':=
 ⟨h.below.trans (hb.mono hB),fun k hk hkb hko=>(hb.block k hk).trans (h.keep k hk hkb hko)⟩
theorem cW.hB {B b sb:Nat} {w:World} {V:dJ} {st:aq} (h:cW B b sb w V st):B <= w.heap.size:=by
 have:=h.base;have:=h.lt;omega
theorem al.r {B:Nat} {w:World} {ao:Option Addr} {m c:Nat} {l:List (List UInt8)} (h:al B w (.slice ao m c) l):bU w ao l∧(ao=none ->c=0)∧m=l.length:=by
 obtain ⟨h1,h2,h3⟩:=cF h;exact ⟨h2,h3,h1⟩
theorem al.bk {B b sb U:Nat} {w w':World} {V:dJ} {st:aq} {v:Value} {l:List (List UInt8)} (hr:al U w v l) (hk:BK B b V w w') (h:cW B b sb w V st):al U w' v l:=
 hk.own h hr (by decide) (by decide) (by decide) (by decide) (by decide)
theorem lh {B b sb:Nat} {w:World} {V:dJ} {st:aq} {z:bT} (h:cW B b sb w V st) (hS:l7 B w sb z) (T:ByteArray) (hl:st.diags.length <= 1000000000):
  Calls Tryz.prog 22 #[.pointer (some ⟨b,0,none⟩),.string T] w fun e w'=>e=.returned (.tuple #[])∧dP B b sb w V (st.label z T.data.toList) w':=by
 have c4:w.cell? ⟨b,4,none⟩=some (.pointer (some ⟨sb,0,none⟩)):=(by rw [cell_of_row w b _ _ _ _ h.heap];rfl);have HU:=zh (hS.unknown T);have hBw:B <= w.heap.size:=(by have:=h.base;have:=h.lt;omega);have hst:st.label z T.data.toList=if z.unk T.data.toList then st.diag 1 T.data.toList else st:=rfl;obtain ⟨u,hu⟩:∃u,z.unk T.data.toList=u:=⟨_,rfl⟩
 rw [hu]at HU hst;have HH:=zh h;have HST:=zh hst;have HL:=zh hl;clear h hS hst hu hl;go_enter Tryz.func22,Tryz.ntmps22
 go_wp2_with fail;refine HU.out.mono ?_;rintro e w2 ⟨rfl,hb⟩;have HB:=zh hb;have HH2:=zh (HH.out.below hb);clear hb c4;cases u
 ·go_wp2_with fail
  go_end0
  refine ⟨rfl,V,?_,BK.of_below HB.out hBw,V.newer_refl _⟩;rw [HST.out];exact HH2.out
 ·have HD:=zh (mc HH2.out 1 T (by have:=HL.out;omega) (by decide));go_wp2_with fail;refine HD.out.mono ?_;rintro e w3 ⟨rfl,hp⟩;have HP:=zh (dP.trans (BK.of_below HB.out hBw) (V.newer_refl _) hp);clear hp;go_wp2_with fail
  go_end0
  refine ⟨rfl,?_⟩;rw [HST.out];exact HP.out
end Go.Proofs.YtcannffahjbjnaaGreatDoor
namespace Go.Proofs.YtcannffahjbjnaaGreatDoor
def ms (f:UInt8 ->Nat) (s:List UInt8):Nat:=(s.map f).sum
def ey (f:UInt8 ->Nat) (ls:List (List UInt8)):Nat:=(ls.map fun x=>ms f x+f 10).sum
theorem fa (f:UInt8 ->Nat):ms f []=0:=rfl
theorem bM (f:UInt8 ->Nat) (c:UInt8) (s:List UInt8):ms f (c::s)=f c+ms f s:=by simp [ms]
theorem iZ (f:UInt8 ->Nat) (a b:List UInt8):ms f (a++b)=ms f a+ms f b:=by simp [ms]
theorem AU (f:UInt8 ->Nat) (c:UInt8):∀n,ms f (List.replicate n c)=f c*n
 |0=>rfl
 |n+1=>by rw [List.replicate_succ,bM,AU f c n,Nat.mul_succ];omega
theorem gh {f:UInt8 ->Nat} {a b:List UInt8} (h:a.Sublist b):ms f a <= ms f b:=by
 induction h
 ·exact Nat.le_refl _
 ·rw [bM];omega
 ·rw [bM,bM];omega
theorem wg {f:UInt8 ->Nat} {c:UInt8} {s:List UInt8} (h:c∈s):f c <= ms f s:=by
 induction s with
 |nil=>cases h
 |cons d s ih=>
  rw [bM];rcases List.mem_cons.1 h with rfl|h
  ·omega
  ·have:=ih h;omega
theorem jf (f:UInt8 ->Nat):ey f []=0:=rfl
theorem aP (f:UInt8 ->Nat) (x:List UInt8) (l:List (List UInt8)):ey f (x::l)=ms f x+f 10+ey f l:=by simp [ey]
theorem xP (f:UInt8 ->Nat) (a b:List (List UInt8)):ey f (a++b)=ey f a+ey f b:=by simp [ey]
theorem jg {f:UInt8 ->Nat} {a b:List (List UInt8)} (h:a.Sublist b):ey f a <= ey f b:=by
 induction h
 ·exact Nat.le_refl _
 ·rw [aP];omega
 ·rw [aP,aP];omega
theorem xQ {f:UInt8 ->Nat} {g:List UInt8 ->List UInt8} (hg:∀x,ms f (g x) <= ms f x):∀l,ey f (l.map g) <= ey f l
 |[]=>Nat.le_refl _
 |x::l=>by
  have:=xQ hg l;have:=hg x;rw [List.map_cons,aP,aP];omega
theorem xR {f:UInt8 ->Nat} {x:List UInt8} {l:List (List UInt8)} (h:x∈l):ms f x <= ey f l:=by
 induction l with
 |nil=>cases h
 |cons y l ih=>
  rw [aP];rcases List.mem_cons.1 h with rfl|h
  ·omega
  ·have:=ih h;omega
theorem sx (f:UInt8 ->Nat):∀l,ms f (bI l)=ey f l
 |[]=>rfl
 |x::l=>by
  have:=sx f l;unfold bI at this⊢;rw [List.flatMap_cons,iZ,iZ,bM,fa,this,aP];omega
theorem rn (f:UInt8 ->Nat):∀l,ms f (bh l) <= ey f l
 |[]=>Nat.le_refl _
 |[x]=>by rw [bh,aP];omega
 |x::y::t=>by
  have:=rn f (y::t);rw [bh,iZ,bM,aP];omega
theorem fm (p:UInt8 ->Bool) (s:List UInt8):(ai p s).Sublist s:=by
 unfold ai;have h:(s.reverse.dropWhile p).Sublist s.reverse:=List.dropWhile_sublist p;have h2:=h.reverse
 rwa [List.reverse_reverse]at h2
theorem eU (s:List UInt8):(ab s).Sublist s:=List.dropWhile_sublist _
theorem nH (s:List UInt8):(trimB s).Sublist s:=(fm _ _).trans (eU s)
theorem om (s p:List UInt8):(Lib.trimPrefix s p).Sublist s:=by
 unfold Lib.trimPrefix;split
 ·exact List.drop_sublist _ _
 ·exact List.Sublist.refl _
theorem CE (c:UInt8) (s:List UInt8):(bf c s).1.Sublist s:=om s [c]
theorem za (s:List UInt8):(bR s).1.Sublist s:=by
 unfold bR;split
 ·exact (om _ _).trans ((CE _ _).trans (eU s))
 ·exact List.nil_sublist _
theorem Ay (s:List UInt8):(ck s).2.1.Sublist s:=by
 unfold ck
 dsimp only
 split
 ·exact List.nil_sublist _
 ·split
  ·exact (fm _ _).trans ((fm _ _).trans ((nH _).trans ((List.drop_sublist _ _).trans (eU s))))
  ·exact (nH _).trans ((List.drop_sublist _ _).trans (eU s))
theorem yv (s:List UInt8):(bq s).2.2.1.Sublist s:=by
 unfold bq
 dsimp only
 split
 ·exact List.nil_sublist _
 ·split
  ·exact List.nil_sublist _
  ·split
   ·exact List.nil_sublist _
   ·exact (nH _).trans ((List.drop_sublist _ _).trans (eU s))
theorem tN (s:List UInt8):(aj s).2.2.2.1.Sublist s∧((aj s).2.2.2.2=true ->(aj s).1∈s):=by
 unfold aj
 dsimp only
 split
 ·exact ⟨List.nil_sublist _,fun h=>by cases h⟩
 ·split
  ·exact ⟨List.nil_sublist _,fun h=>by cases h⟩
  ·rename_i sign hs;split
   ·exact ⟨List.nil_sublist _,fun h=>by cases h⟩
   ·split
    ·exact ⟨List.nil_sublist _,fun h=>by cases h⟩
    ·exact ⟨(List.drop_sublist _ _).trans ((List.drop_sublist _ _).trans (eU s)),fun _=>(eU s).subset (List.mem_of_getElem? hs)⟩
theorem vF {f:UInt8 ->Nat} (h9:4*f 32 <= f 9):∀(s:List UInt8) (c:Nat),f 32*ff s c+ms f (ab s) <= f 32*c+ms f s
 |[],c=>by simp [ff,ab,fa]
 |x::t,c=>by
  by_cases h1:x=32
  ·subst h1;have ih:=vF h9 t (c+1);rw [show ff ((32:UInt8)::t) c=ff t (c+1) by simp [ff],show ab ((32:UInt8)::t)=ab t by simp [ab,ag],bM];rw [Nat.mul_succ]at ih;omega
  ·by_cases h2:x=9
   ·subst h2;have ih:=vF h9 t (c+(4 - c % 4));rw [show ff ((9:UInt8)::t) c=ff t (c+(4 - c % 4)) by simp [ff],show ab ((9:UInt8)::t)=ab t by simp [ab,ag],bM];rw [Nat.mul_add]at ih;have:=Nat.mul_le_mul_left (f 32) (show 4 - c % 4 <= 4 by omega);omega
   ·rw [show ff (x::t) c=c by simp [ff,h1,h2],show ab (x::t)=x::t by simp [ab,ag,h1,h2]];omega
theorem yt {f:UInt8 ->Nat} (h9:4*f 32 <= f 9) (s:List UInt8):ms f (cT s) <= ms f s:=by
 have:=vF h9 s 0;unfold cT aw;rw [iZ,AU];omega
theorem uS {f:UInt8 ->Nat} (h9:4*f 32 <= f 9) (n:Nat) (s:List UInt8):ms f (aO s n) <= ms f s:=
 Nat.le_trans (gh (List.drop_sublist _ _)) (yt h9 s)
def gO (f:UInt8 ->Nat) (n:Nat) (bs:List ak):Prop:=∀x∈bs,ms f x.text <= n∧ms f x.info <= n
theorem gO.nil (f:UInt8 ->Nat) (n:Nat):gO f n []:=fun x h=>by cases h
theorem gO.mono {f:UInt8 ->Nat} {n m:Nat} {bs:List ak} (h:gO f n bs) (hn:n <= m):gO f m bs:=fun x hx=>⟨Nat.le_trans (h x hx).1 hn,Nat.le_trans (h x hx).2 hn⟩
theorem gO.app {f:UInt8 ->Nat} {n:Nat} {a b:List ak} (h:gO f n a) (h2:gO f n b):gO f n (a++b):=fun x hx=>by
 rcases List.mem_append.1 hx with hx|hx
 ·exact h x hx
 ·exact h2 x hx
theorem gO.cons {f:UInt8 ->Nat} {n:Nat} {a:ak} {b:List ak} (h:ms f a.text <= n∧ms f a.info <= n) (h2:gO f n b):gO f n (a::b):=fun x hx=>by
 rcases List.mem_cons.1 hx with rfl|hx
 ·exact h
 ·exact h2 x hx
theorem gO.one {f:UInt8 ->Nat} {n:Nat} {a:ak} (h:ms f a.text <= n∧ms f a.info <= n):gO f n [a]:=gO.cons h (gO.nil f n)
theorem yM (f:UInt8 ->Nat) (l:List (List UInt8)) (i:Nat):ms f (bS l i) <= ey f l:=by
 unfold bS;cases h:l[i]? with
 |none=>exact Nat.zero_le _
 |some x=>exact xR (List.mem_of_getElem? h)
theorem kX (f:UInt8 ->Nat):∀l,ey f (az l) <= ey f l
 |[]=>Nat.le_refl _
 |s::t=>by
  rw [az];split
  ·have:=kX f t;have:=gh (f:=f) (za s);rw [aP,aP];omega
  ·exact Nat.zero_le _
theorem ra {f:UInt8 ->Nat} (h9:4*f 32 <= f 9) (c:Nat):∀l i m,ey f (aW c l i m).1 <= ey f l
 |[],i,m=>Nat.le_refl _
 |s::t,i,m=>by
  rw [aW];split
  ·have:=ra h9 c t (i+1) (if af s then m else i+1);have:=uS h9 c s;simp only;rw [aP,aP];omega
  ·exact Nat.zero_le _
theorem rB (f:UInt8 ->Nat) (d:Nat):∀l acc k,ey f (bz d l acc k).1 <= ey f acc+ey f l
 |[],acc,k=>by rw [bz];simp only;omega
 |s::t,acc,k=>by
  rw [bz];split
  ·simp only;omega
  ·split
   ·simp only;omega
   ·have:=rB f d t (acc++[ab s]) (k+1);rw [xP,aP,jf]at this;rename_i h1 h2;rw [aP];have:=gh (f:=f) (eU s);omega
theorem tm {f:UInt8 ->Nat} (h9:4*f 32 <= f 9) (d:Nat) (info:List UInt8) (l:List (List UInt8)) (n m:Nat) (hl:ey f l <= m) (hi:ms f info <= m):gO f m [eC d info l n]:=by
 refine gO.one ⟨?_,hi⟩;unfold eC;simp only;rw [sx];exact Nat.le_trans (xQ (uS h9 n) l) hl
theorem rg {f:UInt8 ->Nat} (h9:4*f 32 <= f 9) {W:Nat ->List (List UInt8) ->List ak} (hW:∀d l,gO f (ey f l) (W d l)) (d:Nat) (sign:UInt8) (l:List (List UInt8)):∀n a e,gO f (ey f l) (aJ W d sign l n a e).1
 |0,a,e=>gO.nil _ _
 |n+1,a,e=>by
  rw [aJ];split
  ·exact gO.nil _ _
  ·rename_i s hs;split
   ·exact gO.nil _ _
   ·dsimp only
    refine gO.cons ⟨Nat.zero_le _,Nat.zero_le _⟩ (gO.app ((hW _ _).mono ?_) (rg h9 hW d sign l n _ _));have h1:=jg (f:=f) (List.take_sublist (a+(aW (aj s).2.2.1 (l.drop (a+1)) 1 1).2 - a) ((aj s).2.2.2.1::(aW (aj s).2.2.1 (l.drop (a+1)) 1 1).1));have h2:=ra h9 (aj s).2.2.1 (l.drop (a+1)) 1 1;have h3:=gh (f:=f) (tN s).1;have h4:l.drop a=s::l.drop (a+1):=by
     obtain ⟨h,rfl⟩:=List.getElem?_eq_some_iff.1 hs;exact List.drop_eq_getElem_cons h
    have h5:=jg (f:=f) (List.drop_sublist a l);have h6:=jg (f:=f) (List.take_sublist (aW (aj s).2.2.1 (l.drop (a+1)) 1 1).2 ((aj s).2.2.2.1::(aW (aj s).2.2.1 (l.drop (a+1)) 1 1).1));rw [h4,aP]at h5;rw [aP]at h6;omega
theorem AY {f:UInt8 ->Nat} (h9:4*f 32 <= f 9) {W:Nat ->List (List UInt8) ->List ak} (hW:∀d l,gO f (ey f l) (W d l)) (d:Nat) (l:List (List UInt8)):gO f (ey f l) (bC W d l).1:=by
 have h0:=yM f l 0;unfold bC
 dsimp only
 split
 ·exact gO.nil _ _
 ·split
  ·exact tm h9 _ _ _ _ _ (jg (List.take_sublist _ _)) (Nat.zero_le _)
  ·split
   ·exact tm h9 _ _ _ _ _ (jg ((List.take_sublist _ _).trans (List.drop_sublist _ _))) (Nat.le_trans (gh (yv _)) h0)
   ·split
    ·exact gO.one ⟨Nat.le_trans (gh (Ay _)) h0,Nat.zero_le _⟩
    ·split
     ·exact gO.one ⟨Nat.zero_le _,Nat.zero_le _⟩
     ·split
      ·exact gO.cons ⟨Nat.zero_le _,Nat.zero_le _⟩ ((hW _ _).mono (kX f l))
      ·split
       ·rename_i hl;refine gO.cons ⟨Nat.zero_le _,?_⟩ (rg h9 hW d _ l _ _ _);have hi:(aj (bS l 0)).2.2.2.2=true:=by
         unfold cw at hl;simp only [Bool.and_eq_true]at hl;exact hl.1
        have:=wg (f:=f) ((tN (bS l 0)).2 hi);simp only;rw [bM,fa];omega
       ·split
        ·refine gO.one ⟨?_,Nat.zero_le _⟩;simp only;rw [sx];exact jg (List.take_sublist _ _)
        ·have h1:=rB f d l [] 0;have h2:=rn f (bz d l [] 0).1;have h3:=gh (f:=f) (fm ag (bh (bz d l [] 0).1));rw [jf]at h1;split
         ·exact gO.one ⟨by simp only;omega,Nat.zero_le _⟩
         ·exact gO.one ⟨by simp only;omega,Nat.zero_le _⟩
theorem xe {f:UInt8 ->Nat} (h9:4*f 32 <= f 9) {W:Nat ->List (List UInt8) ->List ak} (hW:∀d l,gO f (ey f l) (W d l)):∀n d l,gO f (ey f l) (c7 W n d l)
 |0,d,l=>gO.nil _ _
 |n+1,d,l=>by
  rw [c7];split
  ·exact gO.nil _ _
  ·exact gO.app (AY h9 hW d l) ((xe h9 hW n d _).mono (jg (List.drop_sublist _ _)))
theorem nP {f:UInt8 ->Nat} (h9:4*f 32 <= f 9):∀k d l,gO f (ey f l) (ec k d l)
 |0,d,l=>gO.nil _ _
 |k+1,d,l=>by
  rw [ec];exact xe h9 (nP h9 k) _ d l
theorem li {f:UInt8 ->Nat} (h9:4*f 32 <= f 9) (l:List (List UInt8)):gO f (ey f l) (dU l):=nP h9 14 0 l
theorem Bq (s:List UInt8) (h:(bA s).2≠0):de (bA s).1.label=true:=by
 unfold bA at h⊢;simp only at h⊢;by_cases h1:Lib.hasPrefix s [123,124]=false
 ·rw [if_pos h1]at h;exact absurd rfl h
 ·rw [if_neg h1]at h⊢;by_cases h2:(aF 58 (Lib.trimPrefix s [123,124])).2.2=false∨de (aF 58 (Lib.trimPrefix s [123,124])).1=false
  ·rw [if_pos h2]at h;exact absurd rfl h
  ·rw [if_neg h2]at h⊢;cases hc:jG 124 125 (aF 58 (Lib.trimPrefix s [123,124])).2.1 with
   |none=>rw [hc]at h;exact absurd rfl h
   |some x=>
    simp only;cases hl:de (aF 58 (Lib.trimPrefix s [123,124])).1 with
    |true=>rfl
    |false=>exact absurd (Or.inr hl) h2
theorem tT {x:List UInt8} (h:de x=true):1 <= x.length∧x.length <= 40:=by
 unfold de at h;simp only [Bool.and_eq_true,decide_eq_true_eq,bne_iff_ne,ne_eq]at h;exact ⟨by cases x with|nil=>exact absurd rfl h.1.2|cons=>simp,h.2⟩
theorem xO (s:List UInt8) (h:(bA s).2≠0):6 <= (bA s).2∧(bA s).2 <= s.length∧(bA s).1.span=true∧(bA s).1.text.length <= s.length:=by
 obtain ⟨_,h2,_,_,l,t,h3,h4⟩:=rL s h;have h5:=(tT (Bq s h)).1;rw [h3]at h5⊢;simp only at h5⊢;exact ⟨by omega,h2,trivial,by omega⟩
def gk (f:UInt8 ->Nat) (k:Nat) (p:aY):Nat:=if p.span then k else ms f p.text
def gw (f:UInt8 ->Nat) (k:Nat) (l:List aY):Nat:=(l.map (gk f k)).sum
theorem iz (f:UInt8 ->Nat) (k:Nat) (p:aY) (l:List aY):gw f k (p::l)=gk f k p+gw f k l:=by simp [gw]
theorem Bt (f:UInt8 ->Nat) (k:Nat) (a b:List aY):gw f k (a++b)=gw f k a+gw f k b:=by simp [gw]
theorem AQ {h:UInt8 ->Nat} {m:Nat} (hm:∀c,m <= h c):∀s:List UInt8,m*s.length <= ms h s
 |[]=>by simp
 |c::s=>by
  have:=AQ hm s;have:=hm c;rw [bM,List.length_cons,Nat.mul_succ];omega
theorem lQ {f h:UInt8 ->Nat} {k m:Nat} (hm:∀c,m <= h c) (hk:k <= 6*m):∀(n:Nat) (s acc:List UInt8),(∀c∈s,f c <= h c) ->gw f k (bB n s acc) <= ms f acc+ms h s
 |0,s,acc,_=>Nat.zero_le _
 |n+1,s,acc,hs=>by
  have hg:gw f k (if acc=[]then []else [(⟨false,[],acc⟩:aY)]) <= ms f acc:=by
   split
   ·exact Nat.zero_le _
   ·simp [gw,gk]
  cases s with
  |nil=>rw [bB];try dsimp only
        rw [fa];omega
  |cons c t=>
   rw [bB];try dsimp only
   split
   ·have:=lQ hm hk n t (acc++[c]) (fun d hd=>hs d (List.mem_cons_of_mem _ hd));rw [iZ,bM,fa]at this;have:=hs c (List.mem_cons_self ..);rw [bM];omega
   ·rename_i h0;obtain ⟨h6,hl,hsp,_⟩:=xO (c::t) h0;have ih:=lQ hm hk n ((c::t).drop (bA (c::t)).2) [] (fun d hd=>hs d (List.mem_of_mem_drop hd));rw [fa]at ih;have h1:ms h (c::t)=ms h ((c::t).take (bA (c::t)).2)+ms h ((c::t).drop (bA (c::t)).2):=(by rw [<- iZ,List.take_append_drop]);have h2:=AQ hm ((c::t).take (bA (c::t)).2);rw [List.length_take,Nat.min_eq_left hl]at h2;have h3:m*6 <= m*(bA (c::t)).2:=Nat.mul_le_mul_left m h6;have h4:gk f k (bA (c::t)).1=k:=(by unfold gk;rw [hsp];rfl);rw [Bt,iz,h4];omega
theorem pV {f h:UInt8 ->Nat} {k m:Nat} (hm:∀c,m <= h c) (hk:k <= 6*m) (s:List UInt8) (hs:∀c∈s,f c <= h c):gw f k (dG s) <= ms h s:=by
 have:=lQ hm hk (s.length+1) s [] hs;rw [fa]at this;unfold dG;omega
theorem j8:∀(n:Nat) (s acc:List UInt8),∀p∈bB n s acc,p.text.length <= acc.length+s.length
 |0,s,acc,p,hp=>by simp [bB]at hp
 |n+1,s,acc,p,hp=>by
  have hg:p∈(if acc=[]then []else [(⟨false,[],acc⟩:aY)]) ->p.text.length <= acc.length:=by
   split
   ·intro h;cases h
   ·intro h;simp at h;rw [h];exact Nat.le_refl _
  cases s with
  |nil=>
   rw [bB]at hp;try dsimp only at hp
   have:=hg hp;simp;omega
  |cons c t=>
   rw [bB]at hp;try dsimp only at hp
   split at hp
   ·have:=j8 n t (acc++[c]) p hp;simp at this⊢;omega
   ·rename_i h0;obtain ⟨h6,hl,hsp,ht⟩:=xO (c::t) h0;rcases List.mem_append.1 hp with hp|hp
    ·have:=hg hp;omega
    ·rcases List.mem_cons.1 hp with rfl|hp
     ·omega
     ·have:=j8 n _ [] p hp;simp at this⊢;omega
theorem nB {s:List UInt8} {p:aY} (hp:p∈dG s):p.text.length <= s.length:=by
 have:=j8 _ _ _ p hp;simpa using this
theorem qL (n:Nat):∀c∈Lib.decDigits n,48 <= c.toNat∧c.toNat <= 57:=by
 induction n using Nat.strongRecOn with
 |_ n ih=>
  intro c hc;rw [Lib.decDigits]at hc;split at hc
  ·rename_i h;have e:c=UInt8.ofNat (48+n):=(by simpa using hc);rw [e,UInt8.toNat_ofNat'];omega
  ·rename_i h;rcases List.mem_append.1 hc with hc|hc
   ·exact ih (n / 10) (by omega) c hc
   ·have e:c=UInt8.ofNat (48+n % 10):=(by simpa using hc);rw [e,UInt8.toNat_ofNat'];omega
theorem lx:∀(k n:Nat),n<10 ^ (k+1) ->(Lib.decDigits n).length <= k+1
 |0,n,h=>by rw [Lib.decDigits,dif_pos (by simpa using h)];simp
 |k+1,n,h=>by
  rw [Lib.decDigits];split
  ·simp
  ·have:=lx k (n / 10) (by rw [Nat.pow_succ]at h;omega);simp only [List.length_append,List.length_cons,List.length_nil];omega
theorem rx {f:UInt8 ->Nat} {b:Nat}:∀(s:List UInt8),(∀c∈s,f c <= b) ->ms f s <= b*s.length
 |[],_=>by simp [fa]
 |c::s,h=>by
  have:=rx s (fun d hd=>h d (List.mem_cons_of_mem _ hd));have:=h c (List.mem_cons_self ..);rw [bM,List.length_cons,Nat.mul_succ];omega
structure vw (f h:UInt8 ->Nat) (b m:Nat):Prop where
 dig:∀c:UInt8,48 <= c.toNat ->c.toNat <= 57 ->f c <= b
 low:∀c,m <= h c
 six:2*f 0+b*10 <= 6*m
 nl:f 10 <= h 10
theorem vw.atom {f h:UInt8 ->Nat} {b m:Nat} (H:vw f h b m) (n:Nat) (hn:n <= 1000000000):ms f (0::(Lib.decDigits n++[0])) <= 6*m:=by
 have h1:=lx 9 n (by omega);have h2:=rx (f:=f) (b:=b) (Lib.decDigits n) (fun c hc=>H.dig c (qL n c hc).1 (qL n c hc).2);have h3:b*(Lib.decDigits n).length <= b*10:=Nat.mul_le_mul_left b h1;have:=H.six;rw [bM,iZ,bM,fa];omega
def dH (_:UInt8):Nat:=1
theorem i6 (s:List UInt8):ms dH s=s.length:=by
 induction s with
 |nil=>rfl
 |cons c s ih=>rw [bM,ih,List.length_cons,dH];omega
theorem fx (z:bT) (b:aq) (x:List UInt8):(b.label z x).atoms=b.atoms∧(b.label z x).blocks=b.blocks∧(b.label z x).defs=b.defs∧(b.label z x).tab=b.tab∧(b.label z x).diags.length <= b.diags.length+1:=by
 unfold aq.label;split
 ·simp [aq.diag]
 ·simp
structure iH (M:Nat) (b b':aq) (n:Nat):Prop where
 bl:b'.blocks=b.blocks
 df:b'.defs=b.defs
 tb:b'.tab=b.tab
 na:b'.atoms.length <= b.atoms.length+n
 ng:b'.diags.length <= b.diags.length+n
 tx:(∀a∈b.atoms,a.text.length <= M) ->∀a∈b'.atoms,a.text.length <= M
theorem iH.refl (M:Nat) (b:aq) (n:Nat):iH M b b n:=⟨rfl,rfl,rfl,by omega,by omega,fun h=>h⟩
theorem iH.trans {M:Nat} {a b c:aq} {n m k:Nat} (h:iH M a b n) (h2:iH M b c m) (hk:n+m <= k):iH M a c k:=
 ⟨h2.bl.trans h.bl,h2.df.trans h.df,h2.tb.trans h.tb,by have:=h.na;have:=h2.na;omega,by have:=h.ng;have:=h2.ng;omega,fun q=>h2.tx (h.tx q)⟩
theorem iH.label (M:Nat) (z:bT) (b:aq) (x:List UInt8):iH M b (b.label z x) 1:=by
 obtain ⟨h1,h2,h3,h4,h5⟩:=fx z b x;exact ⟨h2,h3,h4,by rw [h1];omega,h5,fun h=>by rw [h1];exact h⟩
theorem pI (M:Nat) (z:bT) (under:List (List UInt8)) (q:List UInt8×aq) (p:aY) (hp:p.text.length <= M):iH M q.2 (dz z under q p).2 (if p.span then 1 else 0):=by
 unfold dz;by_cases h:p.span=false
 ·rw [if_pos h];exact iH.refl _ _ _
 ·have h':p.span=true:=(by simpa using h);rw [if_neg h,h'];split
  ·obtain ⟨h1,h2,h3,h4,h5⟩:=fx z q.2 p.label;refine ⟨h2,h3,h4,by simp [h1],by simpa using h5,fun ha a hx=>?_⟩;simp only [h1]at hx;rcases List.mem_append.1 hx with hx|hx
   ·exact ha a hx
   ·rw [List.mem_singleton.1 hx];exact hp
  ·exact iH.refl _ _ _
theorem nv (M:Nat) (z:bT) (under:List (List UInt8)):∀(l:List aY) (q:List UInt8×aq),(∀p∈l,p.text.length <= M) ->iH M q.2 (l.foldl (dz z under) q).2 (gw (fun _=>0) 1 l)
 |[],q,_=>iH.refl _ _ _
 |p::l,q,h=>by
  rw [List.foldl_cons,iz];refine (pI M z under q p (h p (List.mem_cons_self ..))).trans (nv M z under l _ (fun x hx=>h x (List.mem_cons_of_mem _ hx))) ?_;unfold gk;split<;>omega
theorem xD (s:List UInt8):ms (fun _=>0) s=0:=by
 induction s with
 |nil=>rfl
 |cons c s ih=>rw [bM,ih]
theorem fE (s:List UInt8):gw (fun _=>0) 1 (dG s) <= s.length:=by
 have:=pV (f:=fun _=>0) (h:=dH) (k:=1) (m:=1) (fun _=>Nat.le_refl _) (by omega) s (fun _ _=>Nat.zero_le _)
 rwa [i6]at this
theorem lJ {f h:UInt8 ->Nat} {b m:Nat} (H:vw f h b m) (z:bT) (under:List (List UInt8)):∀(l:List aY) (q:List UInt8×aq),q.2.atoms.length+gw (fun _=>0) 1 l <= 1000000000 ->ms f (l.foldl (dz z under) q).1 <= ms f q.1+gw f (6*m) l
 |[],q,_=>by simp [gw]
 |p::l,q,hn=>by
  rw [iz]at hn;have h0:=pI p.text.length z under q p (Nat.le_refl _);have hn2:(if p.span=true then 1 else 0) <= gk (fun _=>0) 1 p:=(by unfold gk;split<;>omega);have ih:=lJ H z under l (dz z under q p) (by have:=h0.na;omega);rw [List.foldl_cons,iz];have h1:ms f (dz z under q p).1 <= ms f q.1+gk f (6*m) p:=by
   unfold dz gk;by_cases hs:p.span=false
   ·rw [if_pos hs,hs];simp only;rw [iZ];simp
   ·have hs':p.span=true:=(by simpa using hs);rw [if_neg hs,hs',if_pos rfl];split
    ·simp only;rw [iZ];have:=H.atom (q.2.label z p.label).atoms.length (by rw [(fx z q.2 p.label).1];omega);omega
    ·omega
  omega
theorem jM (s:List UInt8):(aI s).1.Sublist s:=by
 unfold aI
 dsimp only
 split
 ·exact List.nil_sublist _
 ·split
  ·exact List.nil_sublist _
  ·split
   ·exact List.nil_sublist _
   ·split
    ·exact List.nil_sublist _
    ·exact (List.take_sublist _ _).trans ((List.dropLast_sublist _).trans (fm _ _))
theorem sB (M:Nat) (z:bT) (b:aq) (s:List UInt8) (under:List (List UInt8)) (hs:s.length <= M):iH M b (eT z b s under).2 (s.length+1):=by
 unfold eT;split
 ·split
  ·have hl:(aI s).1.length <= s.length:=(jM s).length_le;have hc:=fE (aI s).1;have h1:=iH.label M z b (aI s).2.1;have h2:=nv M z (under++[(aI s).2.1]) (dG (aI s).1) ([],b.label z (aI s).2.1) (fun p hp=>by
    have:=nB hp;omega)
   exact h1.trans h2 (by omega)
  ·exact iH.refl _ _ _
 ·have:=fE s;exact (nv M z _ _ ([],b) (fun p hp=>Nat.le_trans (nB hp) hs)).trans (iH.refl M _ 1) (by omega)
theorem tY {f h:UInt8 ->Nat} {b m:Nat} (H:vw f h b m) (z:bT) (st:aq) (s:List UInt8) (under:List (List UInt8)) (hs:∀c∈s,f c <= h c) (hn:st.atoms.length+s.length <= 1000000000):ms f (eT z st s under).1 <= ms h s:=by
 unfold eT;split
 ·split
  ·have hl:=jM s;have hll:=hl.length_le;have h1:=lJ H z (under++[(aI s).2.1]) (dG (aI s).1) ([],st.label z (aI s).2.1) (by simp only;rw [(fx z st _).1];have:=fE (aI s).1;omega);have h2:=pV (f:=f) (h:=h) H.low (Nat.le_refl (6*m)) (aI s).1 (fun c hc=>hs c (hl.subset hc));have h3:=gh (f:=h) hl;simp only at h1;rw [fa]at h1;omega
  ·exact Nat.zero_le _
 ·have h1:=lJ H z under (dG s) ([],st) (by simp only;have:=fE s;omega);have h2:=pV (f:=f) (h:=h) H.low (Nat.le_refl (6*m)) s hs;simp only at h1;rw [fa]at h1;omega
theorem pB (M:Nat) (z:bT) (under:List (List UInt8)):∀(l:List (List UInt8)) (b:aq),(∀s∈l,s.length <= M) ->iH M b (dh z under l b).2 (ey dH l)
 |[],b,_=>iH.refl _ _ _
 |s::t,b,h=>by
  rw [dh]
  dsimp only
  rw [aP,i6];exact (sB M z b s under (h s (List.mem_cons_self ..))).trans (pB M z under t _ (fun x hx=>h x (List.mem_cons_of_mem _ hx))) (by simp [dH])
theorem np (z:bT) (under:List (List UInt8)):∀(l:List (List UInt8)) (b:aq),(dh z under l b).1.length=l.length
 |[],b=>rfl
 |s::t,b=>by rw [dh];dsimp only;rw [List.length_cons,List.length_cons,np z under t]
theorem kC {f h:UInt8 ->Nat} {b m:Nat} (H:vw f h b m) (z:bT) (under:List (List UInt8)):∀(l:List (List UInt8)) (st:aq),(∀s∈l,∀c∈s,f c <= h c) ->st.atoms.length+ey dH l <= 1000000000 ->ey f (dh z under l st).1 <= ey h l
 |[],st,_,_=>Nat.le_refl _
 |s::t,st,hs,hn=>by
  rw [aP,i6]at hn;rw [dh]
  dsimp only
  rw [aP,aP];have h1:=tY H z st s under (hs s (List.mem_cons_self ..)) (by omega);have h2:=(sB s.length z st s under (Nat.le_refl _)).na;have h3:dH 10=1:=rfl;have h4:=kC H z under t (eT z st s under).2 (fun x hx=>hs x (List.mem_cons_of_mem _ hx)) (by omega);have:=H.nl;omega
end Go.Proofs.YtcannffahjbjnaaGreatDoor
namespace Go.Proofs.YtcannffahjbjnaaGreatDoor
def fW (c:UInt8):Nat:=if c=9 then 4 else 1
def hW (c:UInt8):Nat:=5*fW c
def fZ (c:UInt8):Nat:=if c=0 then 1 else 0
theorem Ce:4*fW 32 <= fW 9:=by decide
theorem Cf:4*fZ 32 <= fZ 9:=by decide
theorem ly (c:UInt8):1 <= fW c∧fW c <= 4:=by unfold fW;split<;>omega
theorem BI:vw fW hW 1 5:=
 ⟨fun c h1 h2=>by
  unfold fW;split
  ·rename_i h;subst h;exact absurd h1 (by decide)
  ·exact Nat.le_refl _,fun c=>by have:=(ly c).1;unfold hW;omega,by decide,by decide⟩
theorem DQ:vw fZ dH 0 1:=
 ⟨fun c h1 h2=>by
  unfold fZ;split
  ·rename_i h;subst h;exact absurd h1 (by decide)
  ·exact Nat.le_refl _,fun c=>Nat.le_refl _,by decide,by decide⟩
theorem AR {f h:UInt8 ->Nat} {k:Nat} (hf:∀c,f c <= k*h c):∀s:List UInt8,ms f s <= k*ms h s
 |[]=>by simp [fa]
 |c::s=>by
  have:=AR hf s;have:=hf c;rw [bM,bM,Nat.mul_add];omega
theorem wQ {f h:UInt8 ->Nat} {k:Nat} (hf:∀c,f c <= k*h c):∀l:List (List UInt8),ey f l <= k*ey h l
 |[]=>by simp [jf]
 |x::l=>by
  have:=wQ hf l;have:=AR hf x;have:=hf 10;rw [aP,aP,Nat.mul_add,Nat.mul_add];omega
theorem vZ {f:UInt8 ->Nat} (hf:∀c,1 <= f c) (s:List UInt8):s.length <= ms f s:=by
 have:=AQ hf s;omega
theorem Cc (r:Int):(Lib.encodeRune r).length <= 4:=by
 unfold Lib.encodeRune Lib.encodeRuneZ;rw [List.length_map]
 repeat' split
 all_goals simp
theorem mH:∀(f:Nat) (s:List UInt8) (i:Nat),(cU f s i).length <= 4*(s.length - i)
 |0,s,i=>Nat.zero_le _
 |f+1,s,i=>by
  rw [cU];split
  ·exact Nat.zero_le _
  ·rename_i h;have h1:=mH f s (i+(Lib.decodeL (s.drop i)).2);have h2:=Lib.decodeL_width (s.drop i)
   dsimp only
   rw [List.length_append];have h3:(if (Lib.decodeL (s.drop i)).1=0∨(Lib.decodeL (s.drop i)).1=65533 then sc else if (Lib.decodeL (s.drop i)).1=13 then [10]else if (Lib.decodeL (s.drop i)).1=10∧0<i∧s[i - 1]? =some 13 then []else Lib.encodeRune ((Lib.decodeL (s.drop i)).1:Int)).length <= 4:=by
    repeat' split
    ·decide
    ·simp
    ·simp
    ·exact Cc _
   omega
theorem pQ (s:List UInt8):(cK s).length <= 4*s.length:=by
 have:=mH s.length s 0;unfold cK;omega
theorem rq (f:UInt8 ->Nat):∀s:List UInt8,ey f (bW s) <= ms f s+f 10
 |[]=>Nat.zero_le _
 |c::t=>by
  have ih:=rq f t;rw [bW,bM];split
  ·rename_i h;subst h;rw [aP,fa];omega
  ·split
   ·rename_i hl;rw [aP,jf,bM,fa];omega
   ·rename_i x xs hl;rw [hl,aP]at ih;rw [aP,bM];omega
def fF (g:a8 ->Nat) (l:List a8):Nat:=(l.map g).sum
theorem eu (g:a8 ->Nat) (p:a8) (l:List a8):fF g (p::l)=g p+fF g l:=by simp [fF]
theorem uT (g:a8 ->Nat) (a b:List a8):fF g (a++b)=fF g a+fF g b:=by simp [fF]
theorem pY (g:a8 ->Nat) (u:a8 ->a8) (n:Nat) (hu:∀p,g (u p) <= g p+n):∀(l:List a8) (k:Nat),fF g (l.modify k u) <= fF g l+n
 |[],k=>by simp [fF]
 |p::l,0=>by
  rw [List.modify_zero_cons,eu,eu];have:=hu p;omega
 |p::l,k+1=>by
  rw [List.modify_succ_cons,eu,eu];have:=pY g u n hu l k;omega
def wP (f:UInt8 ->Nat) (k:Nat) (p:a8):Nat:=ey f p.lines+k
theorem pj (f:UInt8 ->Nat) (k:Nat) (st:kQ) (s:List UInt8):fF (wP f k) (aE st s).out <= fF (wP f k) st.out+(ms f s+f 10)+k:=by
 unfold aE;split
 ·simp only;rw [uT,eu];simp [fF,wP,jf];try omega
 ·split
  ·simp only;have:=pY (wP f k) (fun p=>{p with opn:=false}) 0 (fun p=>Nat.le_refl _) st.out (st.inn.getLast?.getD 0);omega
  ·split
   ·simp only;have:=pY (wP f k) (fun p=>{p with lines:=p.lines++[s]}) (ms f s+f 10) (fun p=>by unfold wP;simp only;rw [xP,aP,jf];omega) st.out (st.out.length - 1);omega
   ·simp only;rw [uT,eu];simp [fF,wP,aP,jf];try omega
theorem jK (f:UInt8 ->Nat) (k:Nat):∀(l:List (List UInt8)) (st:kQ),fF (wP f k) (l.foldl aE st).out <= fF (wP f k) st.out+ey f l+k*l.length
 |[],st=>by simp
 |s::l,st=>by
  have h1:=jK f k l (aE st s);have h2:=pj f k st s;rw [List.foldl_cons,aP,List.length_cons,Nat.mul_succ];omega
theorem kx (f:UInt8 ->Nat) (k:Nat) (l:List (List UInt8)):fF (wP f k) (fj l) <= ey f l+k*l.length:=by
 have:=jK f k l ⟨[],[],false⟩;simp [fF]at this⊢;exact this
theorem lI {α:Type} {Q:α ->Prop} {u:α ->α} (hu:∀x,Q x ->Q (u x)):∀(l:List α) (k:Nat),(∀x∈l,Q x) ->∀x∈l.modify k u,Q x
 |[],k,h,x,hx=>by simp at hx
 |y::l,0,h,x,hx=>by
  rw [List.modify_zero_cons]at hx;rcases List.mem_cons.1 hx with rfl|hx
  ·exact hu y (h y (List.mem_cons_self ..))
  ·exact h x (List.mem_cons_of_mem _ hx)
 |y::l,k+1,h,x,hx=>by
  rw [List.modify_succ_cons]at hx;rcases List.mem_cons.1 hx with rfl|hx
  ·exact h x (List.mem_cons_self ..)
  ·exact lI hu l k (fun z hz=>h z (List.mem_cons_of_mem _ hz)) x hx
theorem pi {Q:a8 ->Prop} (s:List UInt8) (h1:∀d,(cQ s).2=true ->Q ⟨d,true,(cQ s).1,true,[]⟩) (h2:∀d,Q ⟨d,false,[],false,[s]⟩) (h3:∀p,Q p ->Q {p with opn:=false}) (h4:∀p,Q p ->Q {p with lines:=p.lines++[s]}) (st:kQ) (h:∀p∈st.out,Q p):∀p∈(aE st s).out,Q p:=by
 unfold aE;split
 ·rename_i ho;intro p hp;rcases List.mem_append.1 hp with hp|hp
  ·exact h p hp
  ·rw [List.mem_singleton.1 hp];exact h1 _ ho
 ·split
  ·exact lI h3 _ _ h
  ·split
   ·exact lI h4 _ _ h
   ·intro p hp;rcases List.mem_append.1 hp with hp|hp
    ·exact h p hp
    ·rw [List.mem_singleton.1 hp];exact h2 _
theorem yB {Q:a8 ->Prop} (L:List (List UInt8)) (h1:∀s∈L,∀d,(cQ s).2=true ->Q ⟨d,true,(cQ s).1,true,[]⟩) (h2:∀s∈L,∀d,Q ⟨d,false,[],false,[s]⟩) (h3:∀p,Q p ->Q {p with opn:=false}) (h4:∀s∈L,∀p,Q p ->Q {p with lines:=p.lines++[s]}):∀p∈fj L,Q p:=by
 have go:∀(l:List (List UInt8)) (st:kQ),(∀s∈l,s∈L) ->(∀p∈st.out,Q p) ->∀p∈(l.foldl aE st).out,Q p:=by
  intro l;induction l with
  |nil=>intro st _ h;exact h
  |cons s l ih=>
   intro st hl h;rw [List.foldl_cons];have hs:=hl s (List.mem_cons_self ..);exact ih _ (fun x hx=>hl x (List.mem_cons_of_mem _ hx)) (pi s (h1 s hs) (h2 s hs) h3 (h4 s hs) st h)
 exact go L ⟨[],[],false⟩ (fun s h=>h) (fun p h=>by cases h)
theorem yY {s:List UInt8} (h:(cQ s).2=true):de (cQ s).1=true:=by
 unfold cQ at h⊢
 dsimp only at h⊢
 split at h
 ·cases h
 ·rename_i h1;split at h
  ·rename_i h2;rw [if_neg h1,if_pos h2];exact h
  ·cases h
theorem tF (L:List (List UInt8)):∀p∈fj L,(∀s∈p.lines,s∈L)∧(p.div=true ->de p.label=true)∧(p.div=false ->p.label=[]):=by
 refine yB L (fun s hs d ho=>⟨fun x hx=>(by cases hx),fun _=>yY ho,fun h=>(by cases h)⟩) (fun s hs d=>⟨fun x hx=>(by rw [List.mem_singleton.1 hx];exact hs),fun h=>(by cases h),fun _=>rfl⟩) (fun p h=>h) (fun s hs p h=>⟨fun x hx=>?_,h.2⟩);rcases List.mem_append.1 hx with hx|hx
 ·exact h.1 x hx
 ·rw [List.mem_singleton.1 hx];exact hs
def gy (n:Nat) (bs:List ak):Prop:=∀x∈bs,x.depth <= n
theorem gy.app {n:Nat} {a b:List ak} (h:gy n a) (h2:gy n b):gy n (a++b):=fun x hx=>by
 rcases List.mem_append.1 hx with hx|hx
 ·exact h x hx
 ·exact h2 x hx
theorem gy.cons {n:Nat} {a:ak} {b:List ak} (h:a.depth <= n) (h2:gy n b):gy n (a::b):=fun x hx=>by
 rcases List.mem_cons.1 hx with rfl|hx
 ·exact h
 ·exact h2 x hx
theorem gy.nil (n:Nat):gy n []:=fun x h=>by cases h
theorem rh {W:Nat ->List (List UInt8) ->List ak} {d n:Nat} (hd:d+1 <= n) (hW:∀l,gy n (W (d+2) l)) (sign:UInt8) (l:List (List UInt8)):∀f a e,gy n (aJ W d sign l f a e).1
 |0,a,e=>gy.nil _
 |f+1,a,e=>by
  rw [aJ];split
  ·exact gy.nil _
  ·split
   ·exact gy.nil _
   ·dsimp only
    exact gy.cons hd (gy.app (hW _) (rh hd hW sign l f _ _))
theorem AZ {W:Nat ->List (List UInt8) ->List ak} {d n:Nat} (hd:d+1 <= n) (h1:∀l,gy n (W (d+1) l)) (h2:∀l,gy n (W (d+2) l)) (l:List (List UInt8)):gy n (bC W d l).1:=by
 have hd0:d <= n:=(by omega);unfold bC
 dsimp only
 split
 ·exact gy.nil _
 ·split
  ·exact gy.cons hd0 (gy.nil _)
  ·split
   ·exact gy.cons hd0 (gy.nil _)
   ·split
    ·exact gy.cons hd0 (gy.nil _)
    ·split
     ·exact gy.cons hd0 (gy.nil _)
     ·split
      ·exact gy.cons hd0 (h1 _)
      ·split
       ·exact gy.cons hd0 (rh hd h2 _ l _ _ _)
       ·split
        ·exact gy.cons hd0 (gy.nil _)
        ·split
         ·exact gy.cons hd0 (gy.nil _)
         ·exact gy.cons hd0 (gy.nil _)
theorem xf {W:Nat ->List (List UInt8) ->List ak} {d n:Nat} (hd:d+1 <= n) (h1:∀l,gy n (W (d+1) l)) (h2:∀l,gy n (W (d+2) l)):∀f l,gy n (c7 W f d l)
 |0,l=>gy.nil _
 |f+1,l=>by
  rw [c7];split
  ·exact gy.nil _
  ·exact gy.app (AZ hd h1 h2 l) (xf hd h1 h2 f _)
theorem jB:∀k d l,gy (d+2*k) (ec k d l)
 |0,d,l=>gy.nil _
 |k+1,d,l=>by
  rw [ec];refine xf (by omega) (fun l x hx=>?_) (fun l x hx=>?_) _ l
  ·have:=jB k (d+1) l x hx;omega
  ·have:=jB k (d+2) l x hx;omega
theorem vD (l:List (List UInt8)):∀x∈dU l,x.depth <= 28:=jB 14 0 l
theorem jc (M:Nat) (ts:List eB) (hM:∀a∈ts,a.text.length <= M):∀(f:Nat) (l:List UInt8),(bZ f l ts).length <= l.length+ms fZ l*M
 |0,l=>Nat.zero_le _
 |f+1,[]=>by simp [bZ]
 |f+1,c::l=>by
  have ih:=jc M ts hM f l;rw [bZ];have h0:ms fZ l*M <= ms fZ (c::l)*M:=Nat.mul_le_mul_right _ (by rw [bM];omega);split
  ·rename_i hc;split
   ·rename_i n m hn;have hm:=(kP (l:=l) (by rw [<- hc];exact hn)).1;have h1:=jc M ts hM f ((c::l).drop m);have h2:((c::l).drop m).Sublist l:=by
     obtain ⟨k,rfl⟩:∃k,m=k+1:=⟨m - 1,by omega⟩
     rw [List.drop_succ_cons];exact List.drop_sublist _ _
    have h3:=h2.length_le;have h4:=Nat.mul_le_mul_right M (gh (f:=fZ) h2);have h6:ms fZ (c::l)=1+ms fZ l:=(by rw [bM,hc];rfl);rw [h6,Nat.add_mul,Nat.one_mul,List.length_append,List.length_cons];cases ha:ts[n]? with
    |none=>simp only [List.length_nil];omega
    |some a=>
     have:=hM a (List.mem_of_getElem? ha);simp only;omega
   ·rw [List.length_cons,List.length_cons];omega
  ·rw [List.length_cons,List.length_cons];omega
theorem wH {M:Nat} {ts:List eB} (hM:∀a∈ts,a.text.length <= M) (l:List UInt8):(aA l ts).length <= l.length+ms fZ l*M:=jc M ts hM _ l
theorem xr (c:UInt8) (l:List UInt8):(aF c l).1.Sublist l∧(aF c l).2.1.Sublist l:=by
 unfold aF Lib.cut;split
 ·exact ⟨List.take_sublist _ _,List.drop_sublist _ _⟩
 ·exact ⟨List.Sublist.refl _,List.nil_sublist _⟩
theorem sj {l:List UInt8} (h:l≠[]):(aF 10 l).2.1.length<l.length:=by
 have hl:=List.length_pos_iff.2 h;unfold aF Lib.cut;split
 ·simp only [List.length_drop,List.length_cons,List.length_nil];omega
 ·simp only [List.length_nil];omega
structure mW (b b':aq) (n:Nat):Prop where
 bl:b'.blocks=b.blocks
 at':b'.atoms=b.atoms
 nd:b'.defs.length <= b.defs.length+n
 nt:b'.tab.length <= b.tab.length+n
 ng:b'.diags.length <= b.diags.length+n
theorem mW.refl (b:aq) (n:Nat):mW b b n:=⟨rfl,rfl,by omega,by omega,by omega⟩
theorem mW.trans {a b c:aq} {n m k:Nat} (h:mW a b n) (h2:mW b c m) (hk:n+m <= k):mW a c k:=
 ⟨h2.bl.trans h.bl,h2.at'.trans h.at',by have:=h.nd;have:=h2.nd;omega,by have:=h.nt;have:=h2.nt;omega,by have:=h.ng;have:=h2.ng;omega⟩
theorem oJ:∀(f:Nat) (b:aq) (t:List UInt8),mW b (dD f b t).2 t.length∧(dD f b t).1.Sublist t
 |0,b,t=>⟨mW.refl _ _,List.Sublist.refl _⟩
 |f+1,b,t=>by
  rw [dD];split
  ·exact ⟨mW.refl _ _,List.Sublist.refl _⟩
  ·rename_i ht;have hc:=sj ht;have hs:=(xr 10 t).2
   dsimp only
   split
   ·exact ⟨mW.refl _ _,List.Sublist.refl _⟩
   ·split
    ·have ih:=oJ f (b.diag 4 ((if (cA (aA (aF 10 t).1 b.atoms)).1.note then [94]else [])++(cA (aA (aF 10 t).1 b.atoms)).1.name)) (aF 10 t).2.1;have h1:mW b (b.diag 4 ((if (cA (aA (aF 10 t).1 b.atoms)).1.note then [94]else [])++(cA (aA (aF 10 t).1 b.atoms)).1.name)) 1:=⟨rfl,rfl,by simp [aq.diag],by simp [aq.diag],by simp [aq.diag]⟩
     exact ⟨h1.trans ih.1 (by omega),ih.2.trans hs⟩
    ·have ih:=oJ f {b with tab:=b.tab++[(cA (aA (aF 10 t).1 b.atoms)).1],defs:=b.defs++[(cA (aA (aF 10 t).1 b.atoms)).1]} (aF 10 t).2.1;have h1:mW b {b with tab:=b.tab++[(cA (aA (aF 10 t).1 b.atoms)).1],defs:=b.defs++[(cA (aA (aF 10 t).1 b.atoms)).1]} 1:=⟨rfl,rfl,by simp,by simp,by simp⟩
     exact ⟨h1.trans ih.1 (by omega),ih.2.trans hs⟩
theorem ix:∀(f g:Nat) (b:aq) (t:List UInt8),t.length<f ->t.length<g ->dD f b t=dD g b t
 |0,g,b,t,h,_=>by omega
 |f+1,0,b,t,_,h=>by omega
 |f+1,g+1,b,t,hf,hg=>by
  rw [dD,dD];split
  ·rfl
  ·rename_i ht;have hc:=sj ht
   dsimp only
   split
   ·rfl
   ·split
    ·exact ix f g _ _ (by omega) (by omega)
    ·exact ix f g _ _ (by omega) (by omega)
end Go.Proofs.YtcannffahjbjnaaGreatDoor
namespace Go.Proofs.YtcannffahjbjnaaGreatDoor
open Go.RowKit
def ky (rest:List UInt8):List UInt8×List UInt8×Bool:=
 match fN 123 61 rest with
 |none=>([],[],false)
 |some at'=>
  if de (rest.drop (at'+2))=false then ([],[],false)
  else
   if 3<(rest.take at').length - ((rest.take at').dropWhile (·==32)).length∨((rest.take at').dropWhile (·==32)).length - (((rest.take at').dropWhile (·==32)).dropWhile (·==35)).length<1∨6<((rest.take at').dropWhile (·==32)).length - (((rest.take at').dropWhile (·==32)).dropWhile (·==35)).length∨(((rest.take at').dropWhile (·==32)).dropWhile (·==35)).head? ≠some 32 then ([],[],false)
   else (rest.take at',rest.drop (at'+2),true)
theorem tJ {s:List UInt8} {Y:List UInt8} (h:fe s=Y):aI s=if Y.getLast? ≠some 125 then ([],[],false)else ky Y.dropLast:=by
 subst h;unfold aI ky;rfl
theorem tI (l:List UInt8) (c:UInt8):Lib.hasPrefix l [c]=decide (l.head? =some c):=by
 cases l with
 |nil=>rfl
 |cons x t=>
  unfold Lib.hasPrefix;simp only [List.isPrefixOf,List.head?_cons,Option.some.injEq,Bool.and_true];rw [Bool.eq_iff_iff,beq_iff_eq,decide_eq_true_eq];exact eq_comm
theorem sl (s:ByteArray) (w:World) (hs:s.size <= 1000000000):
  Calls Tryz.prog 76 #[.string s] w fun e w'=>e=.returned (.tuple #[.string ⟨(aI s.data.toList).1.toArray⟩,.string ⟨(aI s.data.toList).2.1.toArray⟩,.bool (aI s.data.toList).2.2])∧Below w.heap.size w w':=by
 have ht:=fun W=>p8 s 32 (by decide) W hs;have hXz:=iy (·==32) s.data.toList;obtain ⟨X,hX⟩:∃X:ByteArray,(⟨(ai (·==32) s.data.toList).toArray⟩:ByteArray)=X:=⟨_,rfl⟩
 have hXl:fe s.data.toList=X.data.toList:=(by rw [<- hX];rfl);rw [hX]at ht;rw [show ai (·==32) s.data.toList=X.data.toList from hXl,<- Lib.size_eq,<- Lib.size_eq]at hXz;have hv:=tJ hXl;have hq:=fun W=>Tryz.strings_CutSuffix X ⟨#[125]⟩ W (by omega);rw [show (ByteArray.mk #[125]).data.toList=[125]from rfl]at hq;have hsf:=pX X.data.toList 125;have HT:=zh ht;clear ht hX hXl;by_cases hl:X.data.toList.getLast? =some 125
 ·rw [if_neg (by simpa using hl)]at hv;have hts:=hsf.2 hl;have hhs:=hsf.1;rw [decide_eq_true hl]at hhs;rw [hhs,hts]at hq;obtain ⟨R,hR⟩:∃R:ByteArray,(⟨X.data.toList.dropLast.toArray⟩:ByteArray)=R:=⟨_,rfl⟩
  have hRl:X.data.toList.dropLast=R.data.toList:=(by rw [<- hR]);have hRz:R.size <= X.size:=(by rw [Lib.size_eq,Lib.size_eq,<- hRl];simp);rw [hR]at hq;rw [hRl]at hv;have hli:=fun W=>Tryz.strings_LastIndex R ⟨#[123,61]⟩ (by omega) W;rw [show (ByteArray.mk #[123,61]).data.toList=[123,61]from rfl,qu]at hli;have HQS:=zh hq;clear hq hhs hts hl hsf hR hRl;cases h2:fN 123 61 R.data.toList with
  |none=>
   rw [h2]at hli;simp only at hli;have HQ:=zh (show aI s.data.toList=([],[],false) by rw [hv];unfold ky;rw [h2]);have HLI:=zh hli;clear hli hv h2;go_enter Tryz.func76,Tryz.ntmps76
   go_wp2_with fail;refine (HT.out _).mono ?_;rintro e w2 ⟨rfl,hw2⟩;obtain rfl:=hw2.symm;go_wp2_with fail;refine (HQS.out _).mono ?_;rintro e w3 ⟨rfl,hw3⟩;obtain rfl:=hw3.symm;go_wp2_with fail;refine (HLI.out _).mono ?_;rintro e w4 ⟨rfl,hw4⟩;obtain rfl:=hw4.symm;go_wp2_with fail;refine bodyPost_ret (v:=.tuple #[.string ⟨#[]⟩,.string ⟨#[]⟩,.bool false]) (by simp [results,Tryz.results76,go_sem]) rfl ⟨(by rw [HQ.out];try rfl),(Below.refl _ _)⟩
  |some k=>
   rw [h2]at hli;simp only at hli;have hk:=sF (iX 123 61 R.data.toList k h2).1;rw [<- Lib.size_eq]at hk;obtain ⟨L,hL⟩:∃L:ByteArray,R.extract (k+2) R.size=L:=⟨_,rfl⟩
   have hLl:R.data.toList.drop (k+2)=L.data.toList:=(by rw [<- hL,Lib.extract_to_end]);have hLz:L.size <= R.size:=(by rw [<- hL];simp);obtain ⟨A,hA⟩:∃A:ByteArray,R.extract 0 k=A:=⟨_,rfl⟩
   have hAl:R.data.toList.take k=A.data.toList:=(by rw [<- hA,Lib.extract_data];simp);have hAz:A.size <= R.size:=(by rw [<- hA];simp;omega);have hx:=fun W=>Tryz.strings_TrimLeft_one A 32 (by decide) W;obtain ⟨X2,hX2⟩:∃X:ByteArray,(⟨(Lib.trimLeftB A.data.toList 32).toArray⟩:ByteArray)=X:=⟨_,rfl⟩
   have hX2l:A.data.toList.dropWhile (·==32)=X2.data.toList:=(by rw [<- hX2];rfl);have hX2z:X2.size <= A.size:=(by rw [Lib.size_eq,Lib.size_eq,<- hX2l];exact (List.dropWhile_sublist _).length_le);rw [hX2]at hx;have hy:=fun W=>Tryz.strings_TrimLeft_one X2 35 (by decide) W;obtain ⟨Y2,hY2⟩:∃X:ByteArray,(⟨(Lib.trimLeftB X2.data.toList 35).toArray⟩:ByteArray)=X:=⟨_,rfl⟩
   have hY2l:X2.data.toList.dropWhile (·==35)=Y2.data.toList:=(by rw [<- hY2];rfl);have hY2z:Y2.size <= X2.size:=(by rw [Lib.size_eq,Lib.size_eq,<- hY2l];exact (List.dropWhile_sublist _).length_le);rw [hY2]at hy;have hpf:=fun W=>Tryz.strings_HasPrefix Y2 ⟨#[32]⟩ W;rw [show (ByteArray.mk #[32]).data.toList=[32]from rfl,tI]at hpf;have hla:=fun W=>nm L W (by omega);have hv2:aI s.data.toList=if de L.data.toList=false then ([],[],false)else if 3<A.size - X2.size∨X2.size - Y2.size<1∨6<X2.size - Y2.size∨Y2.data.toList.head? ≠some 32 then ([],[],false)else (A.data.toList,L.data.toList,true):=by
    rw [hv];unfold ky;rw [h2];simp only;rw [hLl,hAl,hX2l,hY2l];simp only [<- Lib.size_eq]
   obtain ⟨B,hB⟩:∃B,de L.data.toList=B:=⟨_,rfl⟩
   rw [hB]at hla hv2;have HLI:=zh hli;have HLA:=zh hla;have HX:=zh hx;have HY:=zh hy;have HPF:=zh hpf;have HV:=zh hv2;have hk0:¬(k:Int)<0:=(by omega);have hk2:(k:Int)+2 <= (R.size:Int):=(by omega);clear hli hla hx hy hpf hv hv2 h2 hLl hAl hX2 hX2l hY2 hY2l hB;cases B
   ·have HQ:=zh (show aI s.data.toList=([],[],false) by rw [HV.out,if_pos rfl]);go_enter Tryz.func76,Tryz.ntmps76
    go_wp2_with fail;refine (HT.out _).mono ?_;rintro e w2 ⟨rfl,hw2⟩;obtain rfl:=hw2.symm;go_wp2_with fail;refine (HQS.out _).mono ?_;rintro e w3 ⟨rfl,hw3⟩;obtain rfl:=hw3.symm;go_wp2_with fail;refine (HLI.out _).mono ?_;rintro e w4 ⟨rfl,hw4⟩;obtain rfl:=hw4.symm;go_wp2_with fail;refine (HLA.out _).mono ?_;rintro e w5 ⟨rfl,b5⟩;go_wp2_with fail;refine bodyPost_ret (v:=.tuple #[.string ⟨#[]⟩,.string ⟨#[]⟩,.bool false]) (by simp [results,Tryz.results76,go_sem]) rfl ⟨(by rw [HQ.out];try rfl),b5⟩
   ·go_enter Tryz.func76,Tryz.ntmps76
    go_wp2_with fail;refine (HT.out _).mono ?_;rintro e w2 ⟨rfl,hw2⟩;obtain rfl:=hw2.symm;go_wp2_with fail;refine (HQS.out _).mono ?_;rintro e w3 ⟨rfl,hw3⟩;obtain rfl:=hw3.symm;go_wp2_with fail;refine (HLI.out _).mono ?_;rintro e w4 ⟨rfl,hw4⟩;obtain rfl:=hw4.symm;go_wp2_with fail;refine (HLA.out _).mono ?_;rintro e w5 ⟨rfl,b5⟩;have HB5:=zh b5;clear b5;go_wp2_with fail;refine (HX.out _).mono ?_;rintro e w6 ⟨rfl,hw6⟩;obtain rfl:=hw6.symm;go_wp2_with fail;refine (HY.out _).mono ?_;rintro e w7 ⟨rfl,hw7⟩;obtain rfl:=hw7.symm;obtain ⟨n1,hn1⟩:∃n,A.size - X2.size=n:=⟨_,rfl⟩
    obtain ⟨n2,hn2⟩:∃n,X2.size - Y2.size=n:=⟨_,rfl⟩
    have hv3:=HV.out;rw [hn1,hn2]at hv3;have hw1:wrap64 ((A.size:Int) - (X2.size:Int))=(n1:Int):=by
     rw [IntWalk.wrap64_in _ (by omega)];omega
    have hw2:wrap64 ((X2.size:Int) - (Y2.size:Int))=(n2:Int):=by
     rw [IntWalk.wrap64_in _ (by omega)];omega
    have HV3:=zh hv3;clear HV hv3;by_cases c1:3<n1
    ·have q1:(3:Int)<(A.size:Int) - (X2.size:Int):=(by omega);have HQ:=zh (show aI s.data.toList=([],[],false) by rw [HV3.out,if_neg (by simp),if_pos (Or.inl c1)]);go_wp2_with fail;refine bodyPost_ret (v:=.tuple #[.string ⟨#[]⟩,.string ⟨#[]⟩,.bool false]) (by simp [results,Tryz.results76,go_sem]) rfl ⟨(by rw [HQ.out];try rfl),HB5.out⟩
    ·have q1:¬(3:Int)<(A.size:Int) - (X2.size:Int):=(by omega);by_cases c2:n2<1
     ·have q2:(X2.size:Int) - (Y2.size:Int)<1:=(by omega);have HQ:=zh (show aI s.data.toList=([],[],false) by rw [HV3.out,if_neg (by simp),if_pos (Or.inr (Or.inl c2))]);go_wp2_with fail;refine bodyPost_ret (v:=.tuple #[.string ⟨#[]⟩,.string ⟨#[]⟩,.bool false]) (by simp [results,Tryz.results76,go_sem]) rfl ⟨(by rw [HQ.out];try rfl),HB5.out⟩
     ·have q2:¬(X2.size:Int) - (Y2.size:Int)<1:=(by omega);by_cases c3:6<n2
      ·have q3:(6:Int)<(X2.size:Int) - (Y2.size:Int):=(by omega);have HQ:=zh (show aI s.data.toList=([],[],false) by rw [HV3.out,if_neg (by simp),if_pos (Or.inr (Or.inr (Or.inl c3)))]);go_wp2_with fail;refine bodyPost_ret (v:=.tuple #[.string ⟨#[]⟩,.string ⟨#[]⟩,.bool false]) (by simp [results,Tryz.results76,go_sem]) rfl ⟨(by rw [HQ.out];try rfl),HB5.out⟩
      ·have q3:¬(6:Int)<(X2.size:Int) - (Y2.size:Int):=(by omega);go_wp2_with fail;refine (HPF.out _).mono ?_;rintro e w8 ⟨rfl,hw8⟩;obtain rfl:=hw8.symm;by_cases c4:Y2.data.toList.head? =some 32
       ·rw [decide_eq_true c4];have hcc:¬(3<n1∨n2<1∨6<n2∨Y2.data.toList.head? ≠some 32):=by
         rintro (h|h|h|h)
         ·exact c1 h
         ·exact c2 h
         ·exact c3 h
         ·exact h c4
        have HQ:=zh (show aI s.data.toList=(A.data.toList,L.data.toList,true) by rw [HV3.out,if_neg (by simp),if_neg hcc]);clear hcc;clear c1 c2 c3 c4;go_wp2_with fail;go_quiet (fail)
        go_wp2_with fail;refine bodyPost_ret (v:=.tuple #[.string A,.string L,.bool true]) (by simp [results,Tryz.results76,go_sem,hL]) rfl ⟨(by rw [HQ.out]),bD HB5.out _⟩
       ·rw [decide_eq_false c4];have HQ:=zh (show aI s.data.toList=([],[],false) by rw [HV3.out,if_neg (by simp),if_pos (Or.inr (Or.inr (Or.inr c4)))]);clear c1 c2 c3 c4;go_wp2_with fail;refine bodyPost_ret (v:=.tuple #[.string ⟨#[]⟩,.string ⟨#[]⟩,.bool false]) (by simp [results,Tryz.results76,go_sem]) rfl ⟨(by rw [HQ.out];try rfl),HB5.out⟩
 ·rw [if_pos (by simpa using hl)]at hv;have hhs:=hsf.1;rw [decide_eq_false hl]at hhs;have hts:Lib.trimSuffix X.data.toList [125]=X.data.toList:=(by unfold Lib.trimSuffix;rw [hhs];rfl);rw [hhs,hts,Lib.mk_data]at hq;have HQ:=zh hv;have HQS:=zh hq;clear hq hhs hts hl hsf hv;go_enter Tryz.func76,Tryz.ntmps76
  go_wp2_with fail;refine (HT.out _).mono ?_;rintro e w2 ⟨rfl,hw2⟩;obtain rfl:=hw2.symm;go_wp2_with fail;refine (HQS.out _).mono ?_;rintro e w3 ⟨rfl,hw3⟩;obtain rfl:=hw3.symm;go_wp2_with fail;refine bodyPost_ret (v:=.tuple #[.string ⟨#[]⟩,.string ⟨#[]⟩,.bool false]) (by simp [results,Tryz.results76,go_sem]) rfl ⟨(by rw [HQ.out];try rfl),(Below.refl _ _)⟩
theorem tj (w:World) (k:Nat) (os:Array Obj):Below w.heap.size w (Sort.grow (w.drewN k) os):=
 ⟨rfl,rfl,rfl,by show w.heap.size <= (w.heap++os).size;rw [Array.size_append];omega,fun j hj=>by
  show (w.heap++os)[j]? =w.heap[j]?;exact Array.getElem?_append_left hj⟩
theorem AJ (n:Nat) (hn:n <= 1000000000000) {w:World} (hE:qn w):
  Calls Tryz.prog 95 #[.int .i64 (n:Int)] w fun e w'=>e=.returned (.string ⟨(Lib.decDigits n).toArray⟩)∧Below w.heap.size w w':=by
 refine (Tryz.strconv_Itoa (n:Int) (by omega) (by omega) w hE.p10).mono ?_;rintro e w' ⟨rfl,k,os,rfl⟩;refine ⟨?_,tj _ _ _⟩;unfold Lib.itoa;rw [if_neg (by omega)];rfl
theorem kH (w:World) (xs:List Value) (T:TypeId) (size m b:Nat) (hb:b=w.heap.size) (hl:xs.length=m*size) (hm:0<m):bL (w.alloc (.cells xs.toArray T)) size (some ⟨b,0,none⟩) m xs:=
 ⟨hl,fun h=>(by cases h),fun ad had=>by
  obtain rfl:=Option.some.inj had;exact ⟨rfl,ar w xs T b hb⟩⟩
theorem j7:∀(n:Nat) (s acc:List UInt8),(bB n s acc).length <= 2*n
 |0,s,acc=>by simp [bB]
 |n+1,s,acc=>by
  have hg:(if acc=[]then []else [(⟨false,[],acc⟩:aY)]).length <= 1:=(by split<;>simp);cases s with
  |nil=>rw [bB];try dsimp only
        omega
  |cons c t=>
   rw [bB];try dsimp only
   split
   ·have:=j7 n t (acc++[c]);omega
   ·have:=j7 n ((c::t).drop (bA (c::t)).2) [];rw [List.length_append,List.length_cons];omega
theorem zo (s:List UInt8):(dG s).length <= 2*(s.length+1):=j7 _ _ _
theorem pL (z:bT) (under:List (List UInt8)):∀(l:List aY) (q:List UInt8×aq),q.1.length <= (l.foldl (dz z under) q).1.length
 |[],q=>Nat.le_refl _
 |p::l,q=>by
  have h1:=pL z under l (dz z under q p);rw [List.foldl_cons];refine Nat.le_trans ?_ h1;unfold dz;split
  ·simp
  ·split
   ·simp
   ·exact Nat.le_refl _
structure g7 (B b sb:Nat) (w:World) (V:dJ) (bb:Nat) (under:List (List UInt8)) (pv uv:Value) (l:List aY) (wr:World) (V':dJ) (st':aq) (acc:List UInt8):Prop where
 bd:cW B b sb wr V' st'
 bk:BK B b V w wr
 nw:V.newer V' w.heap.size
 lb:w.heap.size <= bb
 bl:Lib.IsBuilderF 112 5 bb bb (Lib.byteCells acc) wr
 pc:kr 0 wr pv l
 un:al 0 wr uv under
theorem g7.below {B b sb:Nat} {w:World} {V:dJ} {bb:Nat} {under:List (List UInt8)} {pv uv:Value} {l:List aY} {wr w2:World} {V':dJ} {st':aq} {acc:List UInt8} (h:g7 B b sb w V bb under pv uv l wr V' st' acc) (hb:Below wr.heap.size wr w2) (hB:B <= w.heap.size):g7 B b sb w V bb under pv uv l w2 V' st' acc:=
 ⟨h.bd.below hb,h.bk.step (hb.mono h.bk.below.size) hB,h.nw,h.lb,aM h.bl hb,ah h.pc hb,ah h.un hb⟩
theorem g7.bbl {B b sb:Nat} {w:World} {V:dJ} {bb:Nat} {under:List (List UInt8)} {pv uv:Value} {l:List aY} {wr:World} {V':dJ} {st':aq} {acc:List UInt8} (h:g7 B b sb w V bb under pv uv l wr V' st' acc):bb <= wr.heap.size:=by
 obtain ⟨cs,hc⟩:=m6 h.bl;exact Nat.le_of_lt (Array.getElem?_eq_some_iff.1 hc).1
theorem g7.wrote {B b sb:Nat} {w:World} {V:dJ} {bb:Nat} {under:List (List UInt8)} {pv uv:Value} {l:List aY} {wr w2:World} {V':dJ} {st':aq} {acc acc2:List UInt8} (h:g7 B b sb w V bb under pv uv l wr V' st' acc) (hB:B <= w.heap.size)
  (hb:Below bb wr w2) (hO:Lib.OthersKept 5 (some bb) wr w2) (hI:Lib.IsBuilderF 112 5 bb bb (Lib.byteCells acc2) w2):g7 B b sb w V bb under pv uv l w2 V' st' acc2:=
 ⟨h.bd.others hO (m6 h.bl),h.bk.step (hb.mono h.lb) hB,h.nw,h.lb,hI,eM h.pc hO (m6 h.bl) (by decide) (by decide),eM h.un hO (m6 h.bl) (by decide) (by decide)⟩
theorem g7.told {B b sb:Nat} {w:World} {V:dJ} {bb:Nat} {under:List (List UInt8)} {pv uv:Value} {l:List aY} {wr w2:World} {V':dJ} {st' st2:aq} {acc:List UInt8} (h:g7 B b sb w V bb under pv uv l wr V' st' acc)
  (hp:dP B b sb wr V' st2 w2):∃V2,g7 B b sb w V bb under pv uv l w2 V2 st2 acc:=by
 obtain ⟨V2,q1,q2,q3⟩:=hp;refine ⟨V2,q1,h.bk.trans h.nw q2,fun k hk=>?_,h.lb,Ad h.bl q2 h.bd,q2.own h.bd h.pc (by decide) (by decide) (by decide) (by decide) (by decide),h.un.bk q2 h.bd⟩;rcases q3 k hk with e|e
 ·exact h.nw k e
 ·exact Or.inr (Nat.le_trans h.bk.below.size e)
structure qp (z:bT) (under:List (List UInt8)) (l:List aY) (R:List UInt8×aq) (i:Nat) (st':aq) (acc:List UInt8):Prop where
 fo:(l.drop i).foldl (dz z under) (acc,st')=R
 na:st'.atoms.length+gw (fun _=>0) 1 (l.drop i) <= 1000000000
 ng:st'.diags.length+gw (fun _=>0) 1 (l.drop i) <= 1000000000
theorem qp.acc {z:bT} {under:List (List UInt8)} {l:List aY} {R:List UInt8×aq} {i:Nat} {st':aq} {acc:List UInt8} (h:qp z under l R i st' acc):acc.length <= R.1.length:=by
 have:=pL z under (l.drop i) (acc,st');rw [h.fo]at this;exact this
theorem ni {α β:Type} (f:β ->α ->β) (l:List α) (i:Nat) (p:α) (q:β) (hp:l[i]? =some p):(l.drop i).foldl f q=(l.drop (i+1)).foldl f (f q p):=by
 obtain ⟨h,rfl⟩:=List.getElem?_eq_some_iff.1 hp;rw [List.drop_eq_getElem_cons h,List.foldl_cons]
theorem qN (l:List aY) (i:Nat) (p:aY) (hp:l[i]? =some p):gw (fun _=>0) 1 (l.drop i)=(if p.span then 1 else 0)+gw (fun _=>0) 1 (l.drop (i+1)):=by
 obtain ⟨h,rfl⟩:=List.getElem?_eq_some_iff.1 hp;rw [List.drop_eq_getElem_cons h,iz];congr 1;unfold gk;split
 ·rfl
 ·exact xD _
theorem qp.next {z:bT} {under:List (List UInt8)} {l:List aY} {R:List UInt8×aq} {i:Nat} {st':aq} {acc:List UInt8} (h:qp z under l R i st' acc) (p:aY) (hp:l[i]? =some p):qp z under l R (i+1) (dz z under (acc,st') p).2 (dz z under (acc,st') p).1:=by
 have h1:=ni (dz z under) l i p (acc,st') hp;have h2:=qN l i p hp;have h3:=pI p.text.length z under (acc,st') p (Nat.le_refl _);have h4:=h3.na;have h5:=h3.ng;have h6:=h.na;have h7:=h.ng;simp only at h4 h5;exact ⟨by rw [<- h.fo,h1],by omega,by omega⟩
theorem bL.pce {w:World} {g o n:Nat} {l:List aY} (h:bL w 3 (some ⟨g,o,none⟩) n (l.flatMap gj)) (k:Nat) (x:aY) (hk:l[k]? =some x):
  w.cell? ⟨g,o+k*3,none⟩=some (.bool x.span)∧w.cell? ⟨g,o+k*3+1,none⟩=some (.string ⟨x.label.toArray⟩)∧w.cell? ⟨g,o+k*3+2,none⟩=some (.string ⟨x.text.toArray⟩):=
 ⟨h.cell sI k 0 x _ hk (by omega) rfl,h.cell sI k 1 x _ hk (by omega) rfl,h.cell sI k 2 x _ hk (by omega) rfl⟩
def CO (V:dJ) (b:Nat) (v:Value):Prop:=∀k,some k=v.ownBlock ->k≠b∧¬V.owns k
theorem A6 {B b:Nat} {w w':World} {V:dJ} {B2:Nat} {e:TypeId} {size n:Nat} {v:Value} {xs:List Value} (hr:w.ownsRow B2 e size v n xs) (ho:CO V b v) (hk:BK B b V w w'):w'.ownsRow B2 e size v n xs:=
 dZ hr fun g hg=>hk.keep g (World.ownsRow.lt hr g hg).2 (ho g hg.symm).1 (ho g hg.symm).2
theorem CO.step {b:Nat} {w:World} {V V':dJ} {B2:Nat} {e:TypeId} {size n:Nat} {v:Value} {xs:List Value} (ho:CO V b v) (hr:w.ownsRow B2 e size v n xs) (hn:V.newer V' w.heap.size):CO V' b v:=fun k hk=>
 ⟨(ho k hk).1,fun h=>by
  rcases hn k h with h1|h1
  ·exact (ho k hk).2 h1
  ·have:=(World.ownsRow.lt hr k hk.symm).2;omega⟩
theorem lk {w:World} {k:Nat} {a b c d e f:Value} {T:TypeId} (h:w.heap[k]? =some (.cells #[a,b,c,d,e,f] T (0,0))):
  w.cell? ⟨k,0,none⟩=some a∧w.cell? ⟨k,1,none⟩=some b∧w.cell? ⟨k,2,none⟩=some c∧w.cell? ⟨k,3,none⟩=some d∧w.cell? ⟨k,4,none⟩=some e∧w.cell? ⟨k,5,none⟩=some f:=by
 refine ⟨?_,?_,?_,?_,?_,?_⟩<;>(rw [cell_of_row w k _ _ _ _ h];rfl)
theorem nc {w:World} {k:Nat} {a b c d e:Value} {T:TypeId} (h:w.heap[k]? =some (.cells #[a,b,c,d,e] T (0,0))):
  w.cell? ⟨k,0,none⟩=some a∧w.cell? ⟨k,1,none⟩=some b∧w.cell? ⟨k,2,none⟩=some c∧w.cell? ⟨k,3,none⟩=some d∧w.cell? ⟨k,4,none⟩=some e:=by
 refine ⟨?_,?_,?_,?_,?_⟩<;>(rw [cell_of_row w k _ _ _ _ h];rfl)
theorem cW.own_lt {B b sb:Nat} {w:World} {V:dJ} {st:aq} (h:cW B b sb w V st) {k:Nat} (hk:V.owns k):k<w.heap.size:=by
 obtain ⟨cs,e,h1,_⟩:=h.kind hk;exact (Array.getElem?_eq_some_iff.1 h1).1
theorem BK.new {B b sb:Nat} {w0 w w':World} {V:dJ} {st:aq} (hk:BK B b V w w') (h:cW B b sb w0 V st) {k:Nat} {o:Obj} (hk0:w0.heap.size <= k) (ho:w.heap[k]? =some o):w'.heap[k]? =some o:=
 (hk.keep k (Array.getElem?_eq_some_iff.1 ho).1 (fun e=>by have:=h.lt;omega) (fun e=>by have:=h.own_lt e;omega)).trans ho
theorem gx.of {v:Value} {o:Option Nat} {n:Nat} (h:v.ownBlock=o∨v.ownBlock=some n) {m:Nat} (hm:m <= n):gx v o m:=by
 rcases h with h|h
 ·exact Or.inl h
 ·exact Or.inr ⟨n,h,hm⟩
theorem yH:(Tryz.prog.info? 40).map (fun i=>(i.zero,i.size,i.bytes))=some (some (.agg #[.string ⟨#[]⟩,.string ⟨#[]⟩]),2,32):=by kernel_rfl
theorem ya {B b sb:Nat} {w:World} {V:dJ} {st:aq} {z:bT} (h:cW B b sb w V st) (hS:l7 B w sb z) (hE:ld B w) (S:ByteArray) {ao:Option Addr} {cap:Nat} {under:List (List UInt8)}
  (hU:al 0 w (.slice ao under.length cap) under) (hs:S.size <= 1000000) (hul:under.length <= 100000) (hna:st.atoms.length+S.size <= 1000000000) (hng:st.diags.length+S.size+1 <= 1000000000):
  Calls Tryz.prog 55 #[.pointer (some ⟨b,0,none⟩),.string S,.slice ao under.length cap] w fun e w'=>e=.returned (.string ⟨(eT z st S.data.toList under).1.toArray⟩)∧dP B b sb w V (eT z st S.data.toList under).2 w':=by
 obtain ⟨ia,hia,ha0,ha1,ha2⟩:=info_parts yH;have hBw:=h.hB;have hfh:=sl S w (by omega)
 have hlv:eT z st S.data.toList under=if (aI S.data.toList).2.2 then
   (if z.sees (under++[(aI S.data.toList).2.1])then (dG (aI S.data.toList).1).foldl (dz z (under++[(aI S.data.toList).2.1])) ([],st.label z (aI S.data.toList).2.1)else ([],st))
   else (dG S.data.toList).foldl (dz z under) ([],st):=rfl
 have hsub:=(jM S.data.toList).length_le;rw [<- Lib.size_eq]at hsub;have hout:=tY BI z st S.data.toList under (fun c _=>by unfold hW;omega) (by rw [<- Lib.size_eq];exact hna);have hRl:(eT z st S.data.toList under).1.length <= 100000000:=by
  have h1:=vZ (f:=fW) (fun c=>(ly c).1) (eT z st S.data.toList under).1;have h2:=AR (f:=hW) (h:=dH) (k:=20) (fun c=>by have:=(ly c).2;unfold hW dH;omega) S.data.toList;rw [i6,<- Lib.size_eq]at h2;omega
 obtain ⟨R,hR⟩:∃R,eT z st S.data.toList under=R:=⟨_,rfl⟩
 rw [hR]at hlv hRl⊢;obtain ⟨A,L,is,hAL⟩:∃(A L:List UInt8) (is:Bool),aI S.data.toList=(A,L,is):=⟨_,_,_,rfl⟩
 rw [hAL]at hfh hlv hsub;simp only at hfh hlv hsub;have HFH:=zh hfh;have HLV:=zh hlv;have HH:=zh h;have HS:=zh hS;have HE:=zh hE;have HU:=zh hU;have HRL:=zh hRl;clear hfh hlv h hS hE hU hout hR hAL hRl;go_enter Tryz.func55,Tryz.ntmps55
 go_wp2_with fail;refine HFH.out.mono ?_;rintro e w2 ⟨rfl,hb2⟩;have HB2:=zh hb2;clear hb2 HFH
 go_upto_if 19 with (fail)
 go_cut [1,2] (fun u1 u2 wc=>∃(S2:ByteArray) (ao2:Option Addr) (cap2:Nat) (under2:List (List UInt8)) (V2:dJ) (st2:aq),u1=.string S2∧u2=.slice ao2 under2.length cap2∧al 0 wc (.slice ao2 under2.length cap2) under2∧cW B b sb wc V2 st2∧BK B b V w wc∧V.newer V2 w.heap.size∧Hid (R=(dG S2.data.toList).foldl (dz z under2) ([],st2))∧S2.size <= 1000000∧under2.length <= 100001∧st2.atoms.length+S2.size <= 1000000000∧st2.diags.length+S2.size <= 1000000000)
 case first=>
  cases is
  ·have HR1:=zh (show R=(dG S.data.toList).foldl (dz z under) ([],st) by rw [HLV.out];rfl);go_wp2_with fail
   go_meet
   case rel=>exact ⟨S,ao,cap,under,V,st,rfl,rfl,ah HU.out HB2.out,HH.out.below HB2.out,BK.of_below HB2.out hBw,V.newer_refl _,HR1,hs,by omega,hna,by omega⟩
  ·obtain ⟨hUr,hUc,_⟩:=al.r HU.out;have HW:=zh (qg (cap:=cap) ⟨L.toArray⟩ (hUr.below HB2.out) hUc (by omega));clear hUr hUc;go_wp2_with fail;refine HW.out.mono ?_;rintro e w3 ⟨v3,rfl,hv3,hb3⟩;replace hv3:al w2.heap.size w3 v3 (under++[L]):=hv3;obtain ⟨ao3,c3,hv3e,hr3,hn3,_⟩:=ac hv3;subst hv3e;have HB3:=zh (aa HB2.out hb3);have HV3:=zh (dL hv3 (Nat.zero_le _));have hls:(under++[L]).length=under.length+1:=(by simp);have HSE:=zh ((HS.out.below (HB3.out.mono hBw)).sees (ao:=ao3) (cap:=c3) (l:=under++[L]) hr3 (by omega));have c4:w3.cell? ⟨b,4,none⟩=some (.pointer (some ⟨sb,0,none⟩)):=(by rw [cell_of_row w3 b _ _ _ _ (HH.out.below HB3.out).heap];rfl);obtain ⟨ln,hln⟩:∃n,(under++[L]).length=n:=⟨_,rfl⟩
   have hv3b:al 0 w3 (.slice ao3 ln c3) (under++[L]):=(by rw [<- hln];exact HV3.out);rw [hln]at HSE⊢;have HV3b:=zh hv3b;have HLN:=zh (And.intro hln hls);clear hv3 hr3 hn3 hb3 hv3b HV3 hln hls;obtain ⟨se,hse⟩:∃x,z.sees (under++[L])=x:=⟨_,rfl⟩
   rw [hse]at HSE;have HSEE:=zh hse;clear hse;go_wp2_with fail;refine HSE.out.mono ?_;rintro e w4 ⟨rfl,hb4⟩;have HB4:=zh (aa HB3.out hb4);have HV4:=zh (ah HV3b.out hb4);clear hb4 c4;cases se
   ·go_wp2_with fail;go_ret;have hl:=HLV.out;rw [if_pos trivial,HSEE.out,if_neg (by simp)]at hl;rw [hl];exact ⟨rfl,V,HH.out.below HB4.out,BK.of_below HB4.out hBw,V.newer_refl _⟩
   ·have HL4:=zh (lh (HH.out.below HB4.out) (HS.out.below (HB4.out.mono hBw)) ⟨L.toArray⟩ (by omega));go_wp2_with fail;refine HL4.out.mono ?_;rintro e w5 ⟨rfl,V5,q1,q2,q3⟩;have HQ:=zh (And.intro q1 (And.intro q2 q3));clear q1 q2 q3;go_wp2_with fail
    go_meet
    case rel=>
     obtain ⟨q1,q2,q3⟩:=HQ.out;have hl:=HLV.out;rw [if_pos trivial,HSEE.out,if_pos rfl]at hl;obtain ⟨z1,z2,z3,z4,z5⟩:=fx z st L;have hsz:({data:=A.toArray}:ByteArray).size=A.length:=(by rw [Lib.size_eq]);refine ⟨⟨A.toArray⟩,ao3,c3,under++[L],V5,st.label z L,rfl,by rw [HLN.out.1],by rw [HLN.out.1];exact al.bk (l:=under++[L]) HV4.out q2 (HH.out.below HB4.out),q1,(BK.of_below HB4.out hBw).trans (V.newer_refl _) q2,fun k hk=>?_,zh hl,by omega,by rw [HLN.out.2];omega,by rw [z1];omega,by omega⟩;rcases q3 k hk with e|e
     ·exact Or.inl e
     ·exact Or.inr (Nat.le_trans HB4.out.size e)
 case rest=>
  clear HLV HU hsub hng hna hul hs HB2;obtain ⟨S2,ao2,cap2,under2,V2,st2,rfl,rfl,hU2,hbd2,hbk2,hnw2,HR2,hs2,hul2,hna2,hng2⟩:=hcut;have HX:=zh (And.intro hU2 (And.intro hbd2 (And.intro hbk2 hnw2)));clear hU2 hbd2 hbk2 hnw2;go_wp2_with fail;have hba:=(Below.refl wc.heap.size wc).alloc (Nat.le_refl _) (.cells #[.pointer none,.slice none 0 0] 112);have hib:=Lib.IsBuilderF.of (Lib.fresh_isBuilder 112 5 wc);have hbw:=HX.out.2.2.1.below.trans (hba.mono (Nat.le_trans hBw HX.out.2.2.1.below.size));have HSP:=zh (zm S2 (wc.alloc (.cells #[.pointer none,.slice none 0 0] 112)) (HE.out.below hbw).env hs2);have HBA:=zh (And.intro hba hib);clear hba hib hbw;refine HSP.out.mono ?_;rintro e w3 ⟨pv,rfl,hpc,hb3⟩;obtain ⟨pao,pcap,hpve,_⟩:=ac hpc;subst hpve;have hcnt:=fE S2.data.toList;have hlen:=zo S2.data.toList;have htx:∀p∈dG S2.data.toList,p.text.length <= 1000000:=fun p hp=>by
   have:=nB hp;rw [<- Lib.size_eq]at this;omega
  rw [<- Lib.size_eq]at hcnt hlen;obtain ⟨l,hl⟩:∃l,dG S2.data.toList=l:=⟨_,rfl⟩
  rw [hl]at hpc HR2 hcnt hlen htx⊢;have HM:=zh (show g7 B b sb w V wc.heap.size under2 (.slice pao l.length pcap) (.slice ao2 under2.length cap2) l w3 V2 st2 []from by
   obtain ⟨hU2,hbd2,hbk2,hnw2⟩:=HX.out;obtain ⟨hba,hib⟩:=HBA.out;have hb03:=hba.trans (hb3.mono hba.size);exact ⟨hbd2.below hb03,hbk2.step (hb03.mono hbk2.below.size) hBw,hnw2,hbk2.below.size,aM hib hb3,dL hpc (Nat.zero_le _),ah hU2 hb03⟩)
  have HF:=zh (show qp z under2 l R 0 st2 []from ⟨by rw [List.drop_zero];exact HR2.out.symm,by rw [List.drop_zero];omega,by rw [List.drop_zero];omega⟩);have HTX:=zh htx;clear hl htx hcnt hpc hb3 HX HBA HSP HR2 hna2 hng2;obtain ⟨bb,hbb⟩:∃n,wc.heap.size=n:=⟨_,rfl⟩
  rw [hbb]at HM;rw [hbb];clear hbb;go_wp2_with fail;go_loopw [37] (fun u37 wr=>∃(i:Nat) (V':dJ) (st':aq) (acc:List UInt8),u37=.int .i64 (i:Int)∧i <= l.length∧g7 B b sb w V bb under2 (.slice pao l.length pcap) (.slice ao2 under2.length cap2) l wr V' st' acc∧qp z under2 l R i st' acc) (fun u37 _=>l.length - (intOf u37).toNat)
  case atStart=>exact ⟨0,V2,st2,[],by go_num,Nat.zero_le _,HM.out,HF.out⟩
  case round=>
   obtain ⟨i,V',st',acc,rfl,hi,hm,hf⟩:=hrel;have hal:=Nat.le_trans hf.acc HRL.out;have HM1:=zh hm;have HF1:=zh hf;clear hm hf HM HF;by_cases hlt:i<l.length
   ·obtain ⟨p,hp⟩:=eR l i hlt;have hpr:=(cF HM1.out.pc).2.1;obtain ⟨g,o,rfl⟩:=hpr.addr (by omega);obtain ⟨c0,c1,c2⟩:=hpr.pce i p hp;have HN1:=zh (HF1.out.next p hp);have htx:=HTX.out p (List.mem_of_getElem? hp);have h61:=HF1.out.na;have h62:=HF1.out.ng;have hds:=qN l i p hp;obtain ⟨sp,lab,txt⟩:=p;simp only at c0 c1 c2 htx hds;have hba2:=(Below.refl wr.heap.size wr).alloc (Nat.le_refl _) (.cells #[.bool sp,.string ⟨lab.toArray⟩,.string ⟨txt.toArray⟩] 138);have HM2:=zh (HM1.out.below hba2 hBw);have htz:({data:=txt.toArray}:ByteArray).size=txt.length:=(by rw [Lib.size_eq]);clear hpr hp hba2;cases sp
    ·have HN2:=zh (show qp z under2 l R (i+1) st' (acc++txt)from HN1.out);clear HN1 hds;go_wp2_with fail;refine (dT bb bb _ ⟨txt.toArray⟩ _ HM2.out.bl (by rw [Lib.byteCells_length];omega) HM2.out.bbl).mono ?_;rintro e w4 ⟨rfl,h4,hb4,k4⟩;have HM3:=zh (HM2.out.wrote hBw hb4 k4 (acc2:=acc++txt) (by rw [Lib.byteCells_append];exact Or.inr h4));clear h4 hb4 k4;go_wp2_with fail;go_roundw;case rel=>exact ⟨i+1,V',st',acc++txt,by go_num,by omega,HM3.out,HN2.out⟩
     case measure=>simp [intOf];omega
    ·have q1:wr.cell? ⟨wr.heap.size,0,none⟩=wr.cell? ⟨wr.heap.size,0,none⟩:=rfl;have hsum:gw (fun _=>0) 1 (l.drop i)=1+gw (fun _=>0) 1 (l.drop (i+1)):=hds;have hpv:dz z under2 (acc,st') ⟨true,lab,txt⟩=if z.sees (under2++[lab])then (acc++0::(Lib.decDigits (st'.label z lab).atoms.length++[0]),{st'.label z lab with atoms:=(st'.label z lab).atoms++[⟨lab,txt⟩]})else (acc,st'):=rfl;obtain ⟨q1,q2,q3⟩:=fx z st' lab;have HN2:=zh (And.intro hpv HN1.out);have HLS:=zh (And.intro q1 q3.2.2);clear HN1 hds hpv q1 q2 q3;go_upto_region 14 with (fail)
     have hpx:=heap_alloc_new wr (.cells #[.bool true,.string ⟨lab.toArray⟩,.string ⟨txt.toArray⟩] 138);generalize wr.alloc (.cells #[.bool true,.string ⟨lab.toArray⟩,.string ⟨txt.toArray⟩] 138)=W2 at HM2 hpx⊢;have hM2:=HM2.out.below (Below.refl W2.heap.size W2).drew hBw;have c4:W2.drew.cell? ⟨b,4,none⟩=some (.pointer (some ⟨sb,0,none⟩)):=(by rw [cell_of_row W2.drew b _ _ _ _ hM2.bd.heap];rfl);have p1:W2.drew.cell? ⟨wr.heap.size,1,none⟩=some (.string ⟨lab.toArray⟩):=(by rw [cell_of_row W2.drew wr.heap.size _ _ _ _ hpx];rfl);obtain ⟨hUr,hUc,_⟩:=al.r hM2.un;have HW:=zh (qg (cap:=cap2) ⟨lab.toArray⟩ hUr hUc (by omega));have HM2d:=zh hM2;have HPX:=zh hpx;clear hUr hUc hM2 hpx c0 c1 c2;obtain ⟨pb,hpb⟩:∃n,wr.heap.size=n:=⟨_,rfl⟩
     rw [hpb]at p1 HPX⊢;clear hpb;refine aH (S:=fun j W'=>([3,6,7].contains j=true) ->(W'.cell? ⟨b,4,none⟩=some (.pointer (some ⟨sb,0,none⟩))∧W'.cell? ⟨pb,1,none⟩=some (.string ⟨lab.toArray⟩))) (by kernel_rfl) ?_;refine aZ 0 49 ?_;simp only [List.set];refine aZ 1 50 ?_;simp only [List.set];refine aZ 2 51 ?_;simp only [List.set];refine aZ 4 53 ?_;simp only [List.set];refine aZ 5 54 ?_;simp only [List.set];refine eO 3 52 ?_ rfl [6,7] (by kernel_rfl) (fun _ _ _ h=>h) (by decide) rfl (Or.inl ⟨by rfl,?_⟩) ⟨c4,p1⟩ ?_;rotate_left
     ·rintro w' ⟨s0,s1⟩;go_simp<;>with_reducible rfl
     simp only [List.set];refine eO 6 55 ?_ rfl [] (by kernel_rfl) (fun _ _ _ h=>h) (by decide) rfl (Or.inl ⟨by rfl,?_⟩) ⟨c4,p1⟩ ?_;rotate_left
     ·rintro w' ⟨s0,s1⟩;go_simp<;>with_reducible rfl
     simp only [List.set];refine ae (i:=7) (by kernel_rfl) rfl (fun K' hK=>?_);have HKK:=zh hK;clear hK;go_simp
     refine HW.out.mono ?_;rintro e w3 ⟨v3,rfl,hv3,hb3⟩;replace hv3:al W2.drew.heap.size w3 v3 (under2++[lab]):=hv3;obtain ⟨ao3,c3,hv3e,hr3,hn3,_⟩:=ac hv3;subst hv3e;have HM3:=zh (HM2d.out.below hb3 hBw);have HPX3:=zh ((hb3.block pb (Array.getElem?_eq_some_iff.1 HPX.out).1).trans HPX.out);have HSE:=zh ((HS.out.below HM3.out.bk.below).sees (ao:=ao3) (cap:=c3) (l:=under2++[lab]) hr3 (by simp;omega));obtain ⟨ln,hln⟩:∃n,(under2++[lab]).length=n:=⟨_,rfl⟩
     obtain ⟨se,hse⟩:∃x,z.sees (under2++[lab])=x:=⟨_,rfl⟩
     rw [hln,hse]at HSE;rw [hln];rw [hse]at HN2;have c43:=(hb3.cell (p:=⟨b,4,none⟩) HM2d.out.bd.lt).trans c4;have p13:=(hb3.cell (p:=⟨pb,1,none⟩) (Array.getElem?_eq_some_iff.1 HPX.out).1).trans p1;clear hv3 hr3 hn3 hln hse hb3 c4 p1 HM2d HPX HW HM2;go_wp2_with fail;refine HKK.out _ _ ⟨fun _=>⟨c43,p13⟩,?_⟩;clear HKK K';try simp only [Act.put,List.setIfInBounds_toArray,List.set_cons_zero,List.set_cons_succ,List.getElem_toArray,List.getElem_cons_zero,List.getElem_cons_succ]
     clear c43 p13;refine ae (i:=8) (by kernel_rfl) rfl (fun K' hK=>?_);have HKK:=zh hK;clear hK;go_simp
     refine HSE.out.mono ?_;rintro e w4 ⟨rfl,hb4⟩;have HM4:=zh (HM3.out.below hb4 hBw);have HPX4:=zh ((hb4.block pb (Array.getElem?_eq_some_iff.1 HPX3.out).1).trans HPX3.out);clear hb4 HM3 HPX3 HSE;go_wp2_with fail;refine HKK.out _ _ ⟨fun h=>absurd h (by decide),?_⟩;clear HKK K';try simp only [Act.put,List.setIfInBounds_toArray,List.set_cons_zero,List.set_cons_succ,List.getElem_toArray,List.getElem_cons_zero,List.getElem_cons_succ]
     refine ae (i:=9) (by kernel_rfl) rfl (fun K' hK=>?_);have HKK:=zh hK;clear hK;go_simp
     refine HKK.out _ _ ⟨fun h=>absurd h (by decide),?_⟩;clear HKK K';try simp only [Act.put,List.setIfInBounds_toArray,List.set_cons_zero,List.set_cons_succ,List.getElem_toArray,List.getElem_cons_zero,List.getElem_cons_succ]
     refine aG (by kernel_rfl) ?_ _;cases se
     ·have HN3:=zh (show qp z under2 l R (i+1) st' acc from by
       have h1:=HN2.out.2;rw [HN2.out.1,if_neg (by simp)]at h1;exact h1)
      go_wp2_with fail;go_roundw;case rel=>exact ⟨i+1,V',st',acc,by go_num,by omega,HM4.out,HN3.out⟩
      case measure=>simp [intOf];omega
     ·obtain ⟨st5,hst5⟩:∃x,st'.label z lab=x:=⟨_,rfl⟩
      rw [hst5]at HN2 HLS;have f1:w4.cell? ⟨pb,1,none⟩=some (.string ⟨lab.toArray⟩):=(by rw [cell_of_row w4 pb _ _ _ _ HPX4.out];rfl);have HLB:=zh (lh HM4.out.bd (HS.out.below HM4.out.bk.below) ⟨lab.toArray⟩ (by omega));rw [show (({data:=lab.toArray}:ByteArray).data.toList)=lab from rfl,hst5]at HLB;clear hst5;go_wp2_with fail;refine HLB.out.mono ?_;rintro e w5 ⟨rfl,hp5⟩;obtain ⟨V5,hm5⟩:=HM4.out.told hp5;have hpx5:w5.heap[pb]? =some (.cells #[.bool true,.string ⟨lab.toArray⟩,.string ⟨txt.toArray⟩] 138 (0,0)):=by
       obtain ⟨Vx,r1,r2,r3⟩:=hp5;refine r2.obj HM4.out.bd HPX4.out (fun cs e fz he=>?_);simp only [Obj.cells.injEq]at he;rw [<- he.2.1];decide
      obtain ⟨aao,acap,hav,_⟩:=ac hm5.bd.at';have c1:w5.cell? ⟨b,1,none⟩=some V5.av:=(by rw [cell_of_row w5 b _ _ _ _ hm5.bd.heap];rfl);rw [hav]at c1;have hn9:st5.atoms.length <= 1000000000:=(by rw [HLS.out.1];omega);have hit:=AJ st5.atoms.length (by omega) (HE.out.below hm5.bk.below _ (Below.refl _ _));have hdl:=lx 9 st5.atoms.length (by omega);obtain ⟨n,hn⟩:∃n,st5.atoms.length=n:=⟨_,rfl⟩
      rw [hn]at c1 hit hdl hav hn9;have HNN:=zh hn;obtain ⟨D,hD⟩:∃X:ByteArray,(⟨(Lib.decDigits n).toArray⟩:ByteArray)=X:=⟨_,rfl⟩
      have hDs:D.size <= 10:=(by rw [Lib.size_eq,<- hD];exact hdl);have hDl:D.data.toList=Lib.decDigits n:=(by rw [<- hD]);rw [hD]at hit;have HIT:=zh hit;have HDL:=zh hDl;have HM5:=zh hm5;have HPX5:=zh hpx5;have HAV:=zh hav;have hz1:¬(9223372036854775807:Int)<((⟨#[0]⟩:ByteArray).size:Int)+(D.size:Int):=(by rw [show (⟨#[0]⟩:ByteArray).size=1 from rfl];omega);have hz2:¬(9223372036854775807:Int)<(((⟨#[0]⟩:ByteArray)++D).size:Int)+((⟨#[0]⟩:ByteArray).size:Int):=(by rw [show (⟨#[0]⟩:ByteArray).size=1 from rfl,ByteArray.size_append,show (⟨#[0]⟩:ByteArray).size=1 from rfl];omega);clear hm5 hpx5 hav hit hdl hD hDl hp5 f1 hn HLB HM4 HPX4;go_wp2_with fail;refine HIT.out.mono ?_;rintro e w6 ⟨rfl,hb6⟩;have HM6:=zh (HM5.out.below hb6 hBw);have HPX6:=zh ((hb6.block pb (Array.getElem?_eq_some_iff.1 HPX5.out).1).trans HPX5.out);clear hb6 c1 HM5 HPX5 HIT;go_wp2_with fail;have hxs:((⟨#[0]⟩:ByteArray)++D++(⟨#[0]⟩:ByteArray)).data.toList=0::(Lib.decDigits n++[0]):=by
       rw [ByteArray.data_append,ByteArray.data_append];simp [HDL.out]
      have hxz:((⟨#[0]⟩:ByteArray)++D++(⟨#[0]⟩:ByteArray)).size <= 12:=(by rw [ByteArray.size_append,ByteArray.size_append,show (⟨#[0]⟩:ByteArray).size=1 from rfl];omega);obtain ⟨X,hX⟩:∃X:ByteArray,(⟨#[0]⟩:ByteArray)++D++(⟨#[0]⟩:ByteArray)=X:=⟨_,rfl⟩
      rw [hX]at hxs hxz⊢;have HXS:=zh hxs;clear hxs hX hz1 hz2;refine (dT bb bb _ X _ HM6.out.bl (by rw [Lib.byteCells_length];omega) HM6.out.bbl).mono ?_;rintro e w7 ⟨rfl,h7,hb7,k7⟩;have HM7:=zh (HM6.out.wrote hBw hb7 k7 (acc2:=acc++0::(Lib.decDigits n++[0])) (by rw [<- HXS.out,Lib.byteCells_append];exact Or.inr h7));have HPX7:=zh (k7 pb _ HPX6.out (fun e=>by
       obtain ⟨cs,hc⟩:=m6 HM6.out.bl;rw [<- Option.some.inj e,HPX6.out]at hc;simp only [Option.some.injEq,Obj.cells.injEq]at hc;exact absurd hc.2.1 (by decide)) (fun c fz e=>by
       simp only [Obj.cells.injEq]at e;exact absurd e.2.1 (by decide)))
      clear h7 hb7 k7 HM6 HPX6 HXS HDL;have hown:=HM7.out.bd.at';unfold lX at hown;rw [HAV.out,HNN.out]at hown;have c1:w7.drew.cell? ⟨b,1,none⟩=some (.slice aao n acap):=(by rw [cell_of_row w7.drew b _ _ _ _ HM7.out.bd.heap,HAV.out];rfl);have p1:w7.drew.cell? ⟨pb,1,none⟩=some (.string ⟨lab.toArray⟩):=(by rw [cell_of_row w7.drew pb _ _ _ _ HPX7.out];rfl);have p2:w7.drew.cell? ⟨pb,2,none⟩=some (.string ⟨txt.toArray⟩):=(by rw [cell_of_row w7.drew pb _ _ _ _ HPX7.out];rfl);have hbn:=(Below.refl w7.drew.heap.size w7.drew).alloc (Nat.le_refl _) (.cells #[.string ⟨lab.toArray⟩,.string ⟨txt.toArray⟩] 40);have hrow:=kH w7.drew [.string ⟨lab.toArray⟩,.string ⟨txt.toArray⟩] 40 2 1 w7.heap.size rfl rfl (by omega);have hownA:(w7.drew.alloc (.cells #[.string ⟨lab.toArray⟩,.string ⟨txt.toArray⟩] 40)).ownsRow B 40 2 (.slice aao n acap) n (st5.atoms.flatMap eP):=ah (World.ownsRow.drew hown) hbn;have hbdA:=HM7.out.bd.below ((Below.refl w7.heap.size w7).drew.trans hbn);have c1A:=(hbn.cell (p:=⟨b,1,none⟩) HM7.out.bd.lt).trans c1;have p1A:=(hbn.cell (p:=⟨pb,1,none⟩) (Array.getElem?_eq_some_iff.1 HPX7.out).1).trans p1;have p2A:=(hbn.cell (p:=⟨pb,2,none⟩) (Array.getElem?_eq_some_iff.1 HPX7.out).1).trans p2;have HA:=zh (And.intro hbn (And.intro hrow (And.intro hownA hbdA)));have HCA:=zh (And.intro c1A (And.intro p1A p2A));clear hbn hrow hownA hbdA c1A p1A p2A hown;go_wp2_with fail;refine aH (S:=fun j W'=>([5,7,9,11].contains j=true) ->(W'.cell? ⟨b,1,none⟩=some (.slice aao n acap)∧W'.cell? ⟨pb,1,none⟩=some (.string ⟨lab.toArray⟩)∧W'.cell? ⟨pb,2,none⟩=some (.string ⟨txt.toArray⟩))) (by kernel_rfl) ?_;refine aZ 0 72 ?_;simp only [List.set];refine aZ 1 73 ?_;simp only [List.set];refine aZ 2 74 ?_;simp only [List.set];refine aZ 3 75 ?_;simp only [List.set];refine aZ 4 76 ?_;simp only [List.set];refine aZ 6 78 ?_;simp only [List.set];refine aZ 8 80 ?_;simp only [List.set];refine eO 7 79 ?_ rfl [5,9] (by kernel_rfl) (fun _ _ _ h=>h) (by decide) rfl (Or.inl ⟨by rfl,?_⟩) ⟨c1,p1,p2⟩ ?_;rotate_left
      ·rintro w' ⟨s0,s1,s2⟩;go_simp<;>with_reducible rfl
      simp only [List.set];refine eO 9 81 ?_ rfl [5] (by kernel_rfl) (fun _ _ _ h=>h) (by decide) rfl (Or.inl ⟨by rfl,?_⟩) ⟨c1,p1,p2⟩ ?_;rotate_left
      ·rintro w' ⟨s0,s1,s2⟩;go_simp<;>with_reducible rfl
      simp only [List.set];refine aZ 10 82 ?_;simp only [List.set];refine eO 5 77 ?_ rfl [11] (by kernel_rfl) (fun _ _ _ h=>h) (by decide) rfl (Or.inl ⟨by rfl,?_⟩) ⟨c1,p1,p2⟩ ?_;rotate_left
      ·rintro w' ⟨s0,s1,s2⟩;go_simp<;>with_reducible rfl
      simp only [List.set];refine ae (i:=11) (by kernel_rfl) rfl (fun K' hK=>?_);have HKK:=zh hK;clear hK;go_simp
      refine HKK.out _ _ ⟨fun _=>HCA.out,?_⟩;clear HKK K';try simp only [Act.put,List.setIfInBounds_toArray,List.set_cons_zero,List.set_cons_succ,List.getElem_toArray,List.getElem_cons_zero,List.getElem_cons_succ]
      clear c1 p1 p2;refine ae (i:=12) (by kernel_rfl) rfl (fun K' hK=>?_);have HKK:=zh hK;clear hK;refine cf _ rfl (.tmp 77) (.tmp 83) 29 rfl B 40 ia (.agg #[.string ⟨#[]⟩,.string ⟨#[]⟩]) 2 32 Tryz.underlying29 hia ha0 ha1 ha2 rfl (by decide) (.slice aao n acap) n (st5.atoms.flatMap eP) rfl HA.out.2.2.1 (some ⟨w7.heap.size,0,none⟩) 1 1 [.string ⟨lab.toArray⟩,.string ⟨txt.toArray⟩] rfl HA.out.2.1 (fun h=>by cases h) (by intro u hu;simp at hu;rcases hu with rfl|rfl<;>rfl) (by unfold maxLen;omega) (by omega) ?c9 ?_;case c9=>exact Nat.le_trans HM7.out.bd.hB (by simp)
      intro v8 w8 hown8 hgrow8 hat8;obtain ⟨ao8,c8,hv8,_⟩:=ac hown8;subst hv8;rw [<- HAV.out]at hgrow8 hat8;have hh8:=(HA.out.2.2.2.kept (by have:=HA.out.2.2.2.at';exact this) hgrow8 (by decide)).trans HA.out.2.2.2.heap;have f8:=frozen_of_row w8 b 1 _ _ hh8;have e8:w8.cell? ⟨b,1,none⟩=some V5.av:=(by rw [cell_of_row w8 b _ _ _ _ hh8];rfl);have hp8:=HA.out.2.2.2.pushA ⟨lab,txt⟩ (v:=.slice ao8 (n+1) c8) (by
       unfold lX;rw [List.length_append,List.flatMap_append,HNN.out];exact hown8) hgrow8 (gx.of hat8 (Nat.le_refl _))
      have hp9:=dP.trans (BK.of_below (((Below.refl w7.heap.size w7).drew).trans HA.out.1) HM7.out.bd.hB) (V5.newer_refl _) hp8;obtain ⟨V9,hm9⟩:=HM7.out.told hp9;have HM9:=zh hm9;have HN3:=zh (show qp z under2 l R (i+1) {st5 with atoms:=st5.atoms++[⟨lab,txt⟩]} (acc++0::(Lib.decDigits n++[0]))from by
       have h1:=HN2.out.2;rw [HN2.out.1,if_pos trivial,HNN.out]at h1;exact h1)
      clear hown8 hgrow8 hat8 hh8 hp8 hp9 hm9 HA HCA HM7 HPX7 HNN HLS HN2;refine HKK.out _ _ ⟨fun h=>absurd h (by decide),?_⟩;clear HKK K';try simp only [Act.put,List.setIfInBounds_toArray,List.set_cons_zero,List.set_cons_succ,List.getElem_toArray,List.getElem_cons_zero,List.getElem_cons_succ]
      refine aZ 13 85 ?_;simp only [List.set];refine aZ 14 86 ?_;simp only [List.set];refine aZ 15 87 ?_;simp only [List.set];refine ae (i:=16) (by kernel_rfl) rfl (fun K' hK=>?_);have HKK:=zh hK;clear hK;go_simp
      refine HKK.out _ _ ⟨fun h=>absurd h (by decide),?_⟩;clear HKK K';try simp only [Act.put,List.setIfInBounds_toArray,List.set_cons_zero,List.set_cons_succ,List.getElem_toArray,List.getElem_cons_zero,List.getElem_cons_succ]
      refine aG (by kernel_rfl) ?_ _;go_wp2_with fail;go_roundw;case rel=>exact ⟨i+1,V9,{st5 with atoms:=st5.atoms++[⟨lab,txt⟩]},acc++0::(Lib.decDigits n++[0]),by go_num,by omega,HM9.out,HN3.out⟩
      case measure=>simp [intOf];omega
   ·obtain rfl:i=l.length:=(by omega);have hfo:=HF1.out.fo;rw [List.drop_length]at hfo;simp only [List.foldl_nil]at hfo;have HR:=zh hfo;have hbb:=HM1.out.bbl;clear hfo;go_wp2_with fail;refine (Tryz.Builder_String_any_k bb bb _ wr HM1.out.bl HM1.out.bbl).mono ?_;rintro e w4 ⟨rfl,h4,hb4,k4⟩;have hbd4:=HM1.out.bd.others k4 (m6 HM1.out.bl);have hbk4:=HM1.out.bk.step (hb4.mono HM1.out.lb) hBw;have HQ:=zh (And.intro hbd4 hbk4);clear h4 hb4 k4 hbd4 hbk4;go_wp2_with fail;go_ret;rw [<- HR.out];exact ⟨rfl,V',HQ.out.1,HQ.out.2,HM1.out.nw⟩
end Go.Proofs.YtcannffahjbjnaaGreatDoor
