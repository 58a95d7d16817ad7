import Derived.Test.YtcannffahjbjnaaGreatDoorVwBQ
import Derived.Test.YtcannffahjbjnaaGreatDoorVwBS
import Derived.Test.YtcannffahjbjnaaGreatDoorVwBT
set_option linter.unusedVariables false
set_option linter.unusedSimpArgs false
set_option maxRecDepth 100000
set_option maxHeartbeats 64000000
namespace Go.Proofs.YtcannffahjbjnaaGreatDoor
open Go.RowKit
theorem BA:(Tryz.prog.info? 92).map (fun i=>(i.zero,i.size,i.bytes))=some (some (.agg #[.int .i64 0,.string ⟨#[]⟩]),2,24):=by kernel_rfl
def fH (x:pG):List Value:=[.int .i64 (x.kind:Int),.string ⟨x.text.toArray⟩]
def pH (B:Nat) (w:World) (v:Value) (l:List pG):Prop:=w.ownsRow B 92 2 v l.length (l.flatMap fH)
def mw (B:Nat) (w:World) (v:Value) (l:List fd):Prop:=w.ownsRow B 40 2 v l.length (l.flatMap fe)
def my (B:Nat) (w:World) (v:Value) (l:List cR):Prop:=w.ownsRow B 47 5 v l.length (ce l)
structure dY where
 bv:Value
 av:Value
 dv:Value
 gv:Value
 tv:Value
def dY.owns (V:dY) (k:Nat):Prop:=some k=V.bv.ownBlock∨some k=V.av.ownBlock∨some k=V.dv.ownBlock∨some k=V.gv.ownBlock∨some k=V.tv.ownBlock
structure de (B b sb:Nat) (w:World) (V:dY) (st:am):Prop where
 heap:w.heap[b]? =some (.cells #[V.bv,V.av,V.dv,V.gv,.pointer (some ⟨sb,0,none⟩),V.tv] 60 (0,0))
 bl:cP B w V.bv st.blocks
 at':mw B w V.av st.atoms
 df:my B w V.dv st.defs
 dg:pH B w V.gv st.diags
 tb:my B w V.tv st.tab
 ap:V.dv.ownBlock=none∨V.dv.ownBlock≠V.tv.ownBlock
 base:B <= b
theorem de.lt {B b sb:Nat} {w:World} {V:dY} {st:am} (h:de B b sb w V st):b<w.heap.size:=(Array.getElem?_eq_some_iff.1 h.heap).1
theorem de.below {B b sb:Nat} {w w':World} {V:dY} {st:am} (h:de B b sb w V st) (hb:Below w.heap.size w w'):de B b sb w' V st:=
 ⟨(hb.block b h.lt).trans h.heap,ae h.bl hb,ae h.at' hb,ae h.df hb,ae h.dg hb,ae h.tb hb,h.ap,h.base⟩
structure BK (B b:Nat) (V:dY) (w w':World):Prop where
 below:Below B w w'
 keep:∀k,k<w.heap.size ->k≠b ->¬V.owns k ->w'.heap[k]? =w.heap[k]?
def dY.newer (V V':dY) (n:Nat):Prop:=∀k,V'.owns k ->V.owns k∨n <= k
def d7 (B b sb:Nat) (w:World) (V:dY) (st':am) (w':World):Prop:=∃V',de B b sb w' V' st'∧BK B b V w w'∧V.newer V' w.heap.size
theorem BK.refl (B b:Nat) (V:dY) (w:World):BK B b V w w:=⟨Below.refl _ _,fun _ _ _ _=>rfl⟩
theorem BK.of_below {B b:Nat} {V:dY} {w w':World} (h:Below w.heap.size w w') (hB:B <= w.heap.size):BK B b V w w':=⟨h.mono hB,fun k hk _ _=>h.block k hk⟩
theorem BK.trans {B b:Nat} {V V1:dY} {w w1 w2:World} (h:BK B b V w w1) (hn:V.newer V1 w.heap.size) (h2:BK B b V1 w1 w2):BK B b V w w2:=
 ⟨h.below.trans h2.below,fun k hk hb hne=>(h2.keep k (Nat.lt_of_lt_of_le hk h.below.size) hb (fun ho=>by
  rcases hn k ho with h0|h0
  ·exact hne h0
  ·omega)).trans (h.keep k hk hb hne)⟩
theorem d7.trans {B b sb:Nat} {w w1 w2:World} {V V1:dY} {st:am} (hk:BK B b V w w1) (hn:V.newer V1 w.heap.size) (h2:d7 B b sb w1 V1 st w2):d7 B b sb w V st w2:=by
 obtain ⟨V2,g1,g2,g3⟩:=h2;refine ⟨V2,g1,hk.trans hn g2,fun k hk2=>?_⟩;rcases g3 k hk2 with h|h
 ·exact hn k h
 ·exact Or.inr (Nat.le_trans hk.below.size h)
theorem dY.newer_refl (V:dY) (n:Nat):V.newer V n:=fun _ h=>Or.inl h
theorem BK.own {B b sb B2:Nat} {w w':World} {V:dY} {st:am} {e:TypeId} {size:Nat} {v:Value} {n:Nat} {xs:List Value} (hk:BK B b V w w') (h:de B b sb w V st) (hr:w.ownsRow B2 e size v n xs) (h0:e≠60) (h1:e≠45) (h2:e≠40) (h3:e≠47) (h4:e≠92):w'.ownsRow B2 e size v n xs:=by
 have one:∀{e2 z2 n2:Nat} {v2:Value} {x2:List Value} {B3:Nat} (_:w.ownsRow B3 e2 z2 v2 n2 x2) (_:e≠e2) (g:Nat),v.ownBlock=some g ->some g≠v2.ownBlock:=fun hr2 he g hg=>by
  rcases aZ hr hr2 he with h|h
  ·rw [hg]at h;cases h
  ·rw [hg]at h;exact h
 refine eh hr fun g hg=>hk.keep g (World.ownsRow.lt hr g hg).2 (fun e0=>?_) (fun ho=>?_)
 ·have:=cV hr h.heap h0;rw [hg,e0]at this;exact this rfl
 ·rcases ho with ho|ho|ho|ho|ho
  ·exact one h.bl h1 g hg ho
  ·exact one h.at' h2 g hg ho
  ·exact one h.df h3 g hg ho
  ·exact one h.dg h4 g hg ho
  ·exact one h.tb h3 g hg ho
theorem mH {B b sb:Nat} {w:World} {V:dY} {st:am} (h:de B b sb w V st) (kind:Nat) (T:ByteArray) (hl:st.diags.length <= 1000000000000) (hk:kind <= 1000):
  Calls Tryz.prog 23 #[.pointer (some ⟨b,0,none⟩),.int .i64 (kind:Int),.string T] w fun e w'=>e=.returned (.tuple #[])∧d7 B b sb w V (st.diag kind T.data.toList) w':=by
 obtain ⟨is,hsi,hs0,hs1,hs2⟩:=info_parts BA;obtain ⟨gao,gc,hgv,_⟩:=ab h.dg;have c3:w.cell? ⟨b,3,none⟩=some V.gv:=(by rw [cell_of_row w b _ _ _ _ h.heap];rfl);rw [hgv]at c3;have hBw:B <= w.heap.size:=(by have:=h.base;have:=h.lt;omega);have HH:=zh h;have hdg:=h.dg;unfold pH at hdg;rw [hgv]at hdg;have HDG:=zh hdg;have HGV:=zh hgv;obtain ⟨n,hn⟩:∃n,st.diags.length=n:=⟨_,rfl⟩
 rw [hn]at c3 HDG hl HGV;have HN:=zh hn;clear h hdg hgv hn;go_enter Tryz.func23,Tryz.ntmps23
 go_wp2_with (first
  |(at_builtin;refine dL _ rfl _ _ 31 rfl B 92 is (.agg #[.int .i64 0,.string ⟨#[]⟩]) 2 24 Tryz.underlying31 hsi hs0 hs1 hs2 rfl (by decide) _ n _ rfl (World.ownsRow.alloc HDG.out _) ⟨w.heap.size,0,none⟩ 1 1 [.int .i64 (kind:Int),.string T] rfl rfl ?c1 ?c2 ?c3 ?c4 ?c5 ?_))
 case c1=>exact aL _ _ _ _ rfl
 case c2=>intro u hu;simp at hu;rcases hu with rfl|rfl<;>rfl
 case c3=>unfold maxLen;omega
 case c4=>omega
 case c5=>simp;omega
 intro v4 w4 hown4 honto hat;have hg1:=(World.grownBy_alloc w (.cells #[.int .i64 (kind:Int),.string T] 92) (Value.slice gao n gc).ownBlock).trans honto.grown;rw [<- HGV.out]at hg1 hat;obtain ⟨vao,vc,hvv,_⟩:=ab hown4;subst hvv;have hob:=cV HH.out.dg HH.out.heap (by decide);have hh4:=(hg1.block b HH.out.lt hob).trans HH.out.heap;have c3':w4.cell? ⟨b,3,none⟩=some V.gv:=(by rw [cell_of_row w4 b _ _ _ _ hh4];rfl);have f3:w4.frozen? ⟨b,3,none⟩=false:=frozen_of_row w4 b 3 _ _ hh4;have HO4:=zh hown4;have HG1:=zh hg1;have HAT:=zh hat;have HH4:=zh hh4;clear hown4 honto hat hg1 hob hh4;go_wp2_with fail
 go_end0
 refine ⟨rfl,⟨V.bv,V.av,V.dv,.slice vao (n+1) vc,V.tv⟩,?_,⟨?_,fun k hk hkb hko=>?_⟩,fun k hk=>?_⟩
 ·have kp:∀{e2 z2 n2:Nat} {v2:Value} {x2:List Value} (_:w.ownsRow B e2 z2 v2 n2 x2) (_:e2≠92) (_:e2≠60),(w4.setCell ⟨b,3,none⟩ (.slice vao (n+1) vc)).ownsRow B e2 z2 v2 n2 x2:=fun hr h1 h2=>
   aF (a:=⟨b,3,none⟩) (World.ownsRow.kept hr HG1.out (aZ hr HH.out.dg h1)) HH4.out h2 _
  refine ⟨heap_setCell_same w4 b 3 _ _ _ HH4.out,kp HH.out.bl (by decide) (by decide),kp HH.out.at' (by decide) (by decide),kp HH.out.df (by decide) (by decide),?_,kp HH.out.tb (by decide) (by decide),HH.out.ap,HH.out.base⟩;have h1:=aF (a:=⟨b,3,none⟩) HO4.out HH4.out (by decide) (.slice vao (n+1) vc);unfold pH am.diag;simp only [List.length_append,List.flatMap_append,List.length_cons,List.length_nil,HN.out];have h2:[(⟨kind,T.data.toList⟩:pG)].flatMap fH=[.int .i64 (kind:Int),.string T]:=(by simp [fH,Lib.mk_data]);rw [h2];exact h1
 ·exact ((Below.refl B w).grown HG1.out hBw (fun j hj=>(World.ownsRow.lt HH.out.dg j hj).1)).setCell (p:=⟨b,3,none⟩) HH.out.base _
 ·rw [Below.heap_setCell _ _ _ _ hkb];exact HG1.out.block k hk (fun e=>hko (Or.inr (Or.inr (Or.inr (Or.inl e)))))
 ·rcases hk with e|e|e|e|e
  ·exact Or.inl (Or.inl e)
  ·exact Or.inl (Or.inr (Or.inl e))
  ·exact Or.inl (Or.inr (Or.inr (Or.inl e)))
  ·rcases HAT.out with h|h
   ·exact Or.inl (Or.inr (Or.inr (Or.inr (Or.inl (e.trans h)))))
   ·refine Or.inr ?_;have:=Option.some.inj (e.trans h);rw [this];simp
  ·exact Or.inl (Or.inr (Or.inr (Or.inr (Or.inr e))))
def gO (v:Value) (o:Option Nat) (n:Nat):Prop:=v.ownBlock=o∨∃k,v.ownBlock=some k∧n <= k
theorem de.kept {B b sb:Nat} {w w4:World} {V:dY} {st:am} (h:de B b sb w V st) {e:TypeId} {z n:Nat} {v:Value} {xs:List Value} (hr:w.ownsRow B e z v n xs) (hg:w.grownBy w4 v.ownBlock) (he:e≠60):w4.heap[b]? =w.heap[b]? :=
 hg.block b h.lt (cV hr h.heap he)
theorem ex {B:Nat} {w w4:World} {b:Nat} {j:Nat} {cs:Array Value} {u:Value} (hh:w4.heap[b]? =some (.cells cs 60 (0,0))) {e e2:TypeId} {z n z2 n2:Nat} {v v2:Value} {xs x2:List Value} (hr:w.ownsRow B e z v n xs) (hg:w.grownBy w4 v.ownBlock) (hr2:w.ownsRow B e2 z2 v2 n2 x2) (h1:e2≠e) (h2:e2≠60):(w4.setCell ⟨b,j,none⟩ u).ownsRow B e2 z2 v2 n2 x2:=
 aF (a:=⟨b,j,none⟩) (World.ownsRow.kept hr2 hg (aZ hr2 hr h1)) hh h2 _
theorem n9 {B b sb:Nat} {w w4:World} {V:dY} {st:am} (h:de B b sb w V st) {e:TypeId} {z n:Nat} {v:Value} {xs:List Value} (hr:w.ownsRow B e z v n xs) (hg:w.grownBy w4 v.ownBlock) (hv:∀k,some k=v.ownBlock ->V.owns k) (j:Nat) (u:Value):BK B b V w (w4.setCell ⟨b,j,none⟩ u):=
 ⟨((Below.refl B w).grown hg (by have:=h.base;have:=h.lt;omega) (fun j hj=>(World.ownsRow.lt hr j hj).1)).setCell (p:=⟨b,j,none⟩) h.base _,fun k hk hkb hko=>by
  rw [Below.heap_setCell _ _ _ _ hkb];exact hg.block k hk (fun e=>hko (hv k e))⟩
theorem de.pushB {B b sb:Nat} {w w4:World} {V:dY} {st:am} (h:de B b sb w V st) (x:aI) {v:Value} (hown:cP B w4 v (st.blocks++[x])) (hg:w.grownBy w4 V.bv.ownBlock) (hat:gO v V.bv.ownBlock w.heap.size):
  d7 B b sb w V {st with blocks:=st.blocks++[x]} (w4.setCell ⟨b,0,none⟩ v):=by
 have hh4:=(h.kept h.bl hg (by decide)).trans h.heap;refine ⟨{V with bv:=v},⟨heap_setCell_same w4 b 0 _ _ _ hh4,aF (a:=⟨b,0,none⟩) hown hh4 (by decide) _,ex hh4 h.bl hg h.at' (by decide) (by decide),ex hh4 h.bl hg h.df (by decide) (by decide),ex hh4 h.bl hg h.dg (by decide) (by decide),ex hh4 h.bl hg h.tb (by decide) (by decide),h.ap,h.base⟩,n9 h h.bl hg (fun k e=>Or.inl e) 0 v,fun k hk=>?_⟩;rcases hk with e|e|e|e|e
 ·rcases hat with e2|⟨k2,e2,h2⟩
  ·exact Or.inl (Or.inl (e.trans e2))
  ·exact Or.inr (by rw [Option.some.inj (e.trans e2)];exact h2)
 ·exact Or.inl (Or.inr (Or.inl e))
 ·exact Or.inl (Or.inr (Or.inr (Or.inl e)))
 ·exact Or.inl (Or.inr (Or.inr (Or.inr (Or.inl e))))
 ·exact Or.inl (Or.inr (Or.inr (Or.inr (Or.inr e))))
theorem de.pushA {B b sb:Nat} {w w4:World} {V:dY} {st:am} (h:de B b sb w V st) (x:fd) {v:Value} (hown:mw B w4 v (st.atoms++[x])) (hg:w.grownBy w4 V.av.ownBlock) (hat:gO v V.av.ownBlock w.heap.size):
  d7 B b sb w V {st with atoms:=st.atoms++[x]} (w4.setCell ⟨b,1,none⟩ v):=by
 have hh4:=(h.kept h.at' hg (by decide)).trans h.heap;refine ⟨{V with av:=v},⟨heap_setCell_same w4 b 1 _ _ _ hh4,ex hh4 h.at' hg h.bl (by decide) (by decide),aF (a:=⟨b,1,none⟩) hown hh4 (by decide) _,ex hh4 h.at' hg h.df (by decide) (by decide),ex hh4 h.at' hg h.dg (by decide) (by decide),ex hh4 h.at' hg h.tb (by decide) (by decide),h.ap,h.base⟩,n9 h h.at' hg (fun k e=>Or.inr (Or.inl e)) 1 v,fun k hk=>?_⟩;rcases hk with e|e|e|e|e
 ·exact Or.inl (Or.inl e)
 ·rcases hat with e2|⟨k2,e2,h2⟩
  ·exact Or.inl (Or.inr (Or.inl (e.trans e2)))
  ·exact Or.inr (by rw [Option.some.inj (e.trans e2)];exact h2)
 ·exact Or.inl (Or.inr (Or.inr (Or.inl e)))
 ·exact Or.inl (Or.inr (Or.inr (Or.inr (Or.inl e))))
 ·exact Or.inl (Or.inr (Or.inr (Or.inr (Or.inr e))))
theorem de.pushD {B b sb:Nat} {w w4:World} {V:dY} {st:am} (h:de B b sb w V st) (x:cR) {v:Value} (hown:my B w4 v (st.defs++[x])) (hg:w.grownBy w4 V.dv.ownBlock) (hat:gO v V.dv.ownBlock w.heap.size):
  d7 B b sb w V {st with defs:=st.defs++[x]} (w4.setCell ⟨b,2,none⟩ v):=by
 have hh4:=(h.kept h.df hg (by decide)).trans h.heap;have htv:V.tv.ownBlock=none∨V.tv.ownBlock≠V.dv.ownBlock:=by
  rcases h.ap with e|e
  ·rw [e];exact Classical.em _
  ·exact Or.inr (Ne.symm e)
 have htb:(w4.setCell ⟨b,2,none⟩ v).ownsRow B 47 5 V.tv st.tab.length (ce st.tab):=aF (a:=⟨b,2,none⟩) (World.ownsRow.kept h.tb hg htv) hh4 (by decide) _;refine ⟨{V with dv:=v},⟨heap_setCell_same w4 b 2 _ _ _ hh4,ex hh4 h.df hg h.bl (by decide) (by decide),ex hh4 h.df hg h.at' (by decide) (by decide),aF (a:=⟨b,2,none⟩) hown hh4 (by decide) _,ex hh4 h.df hg h.dg (by decide) (by decide),htb,?_,h.base⟩,n9 h h.df hg (fun k e=>Or.inr (Or.inr (Or.inl e))) 2 v,fun k hk=>?_⟩
 ·rcases hat with e2|⟨k2,e2,h2⟩
  ·show v.ownBlock=none∨v.ownBlock≠V.tv.ownBlock;rw [e2];exact h.ap
  ·refine Or.inr (fun e=>?_);have e3:v.ownBlock=V.tv.ownBlock:=e;rw [e2]at e3;have:=(World.ownsRow.lt h.tb k2 e3.symm).2;omega
 rcases hk with e|e|e|e|e
 ·exact Or.inl (Or.inl e)
 ·exact Or.inl (Or.inr (Or.inl e))
 ·rcases hat with e2|⟨k2,e2,h2⟩
  ·exact Or.inl (Or.inr (Or.inr (Or.inl (e.trans e2))))
  ·exact Or.inr (by rw [Option.some.inj (e.trans e2)];exact h2)
 ·exact Or.inl (Or.inr (Or.inr (Or.inr (Or.inl e))))
 ·exact Or.inl (Or.inr (Or.inr (Or.inr (Or.inr e))))
theorem jx (s:ByteArray) (ao:Option Addr) (cap:Nat) (ts:List fd) (w:World) (hE:lx w) (hR:0<ts.length ->aY w 2 ao ts.length (ts.flatMap fe)) (hs:s.size <= 1000000) (hT:∀a∈ts,a.text.length <= 1000000):
  Calls Tryz.prog 63 #[.string s,.slice ao ts.length cap] w fun e w'=>e=.returned (.string ⟨(aG s.data.toList ts).toArray⟩)∧Below w.heap.size w w':=by
 have HC:=zh (uY s ao cap ts w hE hR hs hT);obtain ⟨n,hn⟩:∃n,ts.length=n:=⟨_,rfl⟩
 rw [hn]at HC⊢;clear hR hE hs hT hn;go_enter Tryz.func63,Tryz.ntmps63
 go_wp2_with fail;refine HC.out.mono ?_;rintro e w2 ⟨rfl,hb⟩;have HB:=zh hb;clear hb;go_wp2_with fail;go_ret;exact ⟨rfl,HB.out⟩
theorem AR (B b:Nat) (sv:Value) (ds:List cR) (d:cR) (w:World) (hBb:B <= b) (hb:w.heap[b]? =some (.cells #[sv] 58 (0,0))) (ho:w.ownsRow B 47 5 sv ds.length (ce ds)) (hl:ds.length <= 1000000000):
  Calls Tryz.prog 102 #[.pointer (some ⟨b,0,none⟩),d.val] w fun e w'=>e=.returned (.bool (iU ds d).2)∧∃sv',w'.heap[b]? =some (.cells #[sv'] 58 (0,0))∧w'.ownsRow B 47 5 sv' (iU ds d).1.length (ce (iU ds d).1)∧Below B w w'∧(∀k,k<w.heap.size ->k≠b ->some k≠sv.ownBlock ->w'.heap[k]? =w.heap[k]?)∧(sv'.ownBlock=sv.ownBlock∨∃g,sv'.ownBlock=some g∧w.heap.size <= g):=by
 obtain ⟨i0,hi,hz0,hz1,hz2⟩:=info_parts td;have hbl:b<w.heap.size:=(Array.getElem?_eq_some_iff.1 hb).1;have hb1:Below w.heap.size w (w.alloc (.cells #[.string ⟨d.name.toArray⟩,.string ⟨d.url.toArray⟩,.string ⟨d.title.toArray⟩,.string ⟨d.text.toArray⟩,.bool d.note] 47)):=(Below.refl _ w).alloc (Nat.le_refl _) _;have hh1:=(hb1.block b hbl).trans hb;have ho1:=ae ho hb1;have hf:=yc b sv ds d.name d.note _ hh1 (dQ ho1 (Nat.zero_le _)) hl;have hk0:(w.alloc (.cells #[.string ⟨d.name.toArray⟩,.string ⟨d.url.toArray⟩,.string ⟨d.title.toArray⟩,.string ⟨d.text.toArray⟩,.bool d.note] 47)).heap[w.heap.size]? =some (.cells #[.string ⟨d.name.toArray⟩,.string ⟨d.url.toArray⟩,.string ⟨d.title.toArray⟩,.string ⟨d.text.toArray⟩,.bool d.note] 47 (0,0)):=heap_alloc_new w _;have HF:=zh hf;have HX:=zh (And.intro hb1 (And.intro hh1 (And.intro ho1 hk0)));have hnr:(some w.heap.size:Option Nat)≠sv.ownBlock:=fun h=>by have:=(World.ownsRow.lt ho w.heap.size h.symm).2;omega
 clear hf hb1 hh1 ho1 hk0 ho hb;show Calls Tryz.prog _ #[_,.agg #[.string ⟨d.name.toArray⟩,.string ⟨d.url.toArray⟩,.string ⟨d.title.toArray⟩,.string ⟨d.text.toArray⟩,.bool d.note]] w _;go_enter Tryz.func102,Tryz.ntmps102
 go_wp2_with fail;refine HF.out.mono ?_;rintro e w2 ⟨n,rfl,hpost,b2⟩;obtain ⟨hb1,hh1,ho1,hk0⟩:=HX.out;have hB2:=aa hb1 b2;have hh2:=(b2.block b (by have:=hb1.size;omega)).trans hh1;have ho2:=ae ho1 b2;have hk2:=(b2.block _ (Array.getElem?_eq_some_iff.1 hk0).1).trans hk0;clear HF HX hb1 hh1 ho1 hk0 b2;rcases hpost with ⟨rfl,hlk⟩|⟨k,d2,rfl,hk,hd,hlk⟩
 ·have HA:=zh (show iU ds d=(ds++[d],true) by unfold iU;rw [hlk];rfl);obtain ⟨sao,scap,hsv,_⟩:=ab ho2;subst hsv;have p0:=ou.cell hh2;have hbl2:b<w2.heap.size:=(Array.getElem?_eq_some_iff.1 hh2).1;have hdl2:w.heap.size<w2.heap.size:=(Array.getElem?_eq_some_iff.1 hk2).1;obtain ⟨c0,c1,c2,c3,c4⟩:w2.cell? ⟨w.heap.size,0,none⟩=some (.string ⟨d.name.toArray⟩)∧w2.cell? ⟨w.heap.size,1,none⟩=some (.string ⟨d.url.toArray⟩)∧w2.cell? ⟨w.heap.size,2,none⟩=some (.string ⟨d.title.toArray⟩)∧w2.cell? ⟨w.heap.size,3,none⟩=some (.string ⟨d.text.toArray⟩)∧w2.cell? ⟨w.heap.size,4,none⟩=some (.bool d.note):=by
   refine ⟨?_,?_,?_,?_,?_⟩<;>(rw [cell_of_row w2 w.heap.size _ _ _ _ hk2];rfl)
  have b2a:=(Below.refl w2.heap.size w2).alloc (Nat.le_refl _) (.cells #[.string ⟨d.name.toArray⟩,.string ⟨d.url.toArray⟩,.string ⟨d.title.toArray⟩,.string ⟨d.text.toArray⟩,.bool d.note] 47);have p0a:=(b2a.cell (p:=⟨b,0,none⟩) hbl2).trans p0;have a0:=(b2a.cell (p:=⟨w.heap.size,0,none⟩) hdl2).trans c0;have a1:=(b2a.cell (p:=⟨w.heap.size,1,none⟩) hdl2).trans c1;have a2:=(b2a.cell (p:=⟨w.heap.size,2,none⟩) hdl2).trans c2;have a3:=(b2a.cell (p:=⟨w.heap.size,3,none⟩) hdl2).trans c3;have a4:=(b2a.cell (p:=⟨w.heap.size,4,none⟩) hdl2).trans c4;have hoA:=ae ho2 b2a;have hhA:=(b2a.block b hbl2).trans hh2;have hkA:=(b2a.block w.heap.size hdl2).trans hk2;have hBA:=(hB2.mono (show B <= w.heap.size by omega)).trans (b2a.mono (show B <= w2.heap.size by omega));have hlA:w2.heap.size<(w2.alloc (.cells #[.string ⟨d.name.toArray⟩,.string ⟨d.url.toArray⟩,.string ⟨d.title.toArray⟩,.string ⟨d.text.toArray⟩,.bool d.note] 47)).heap.size:=(by simp);have hnews:=aL w2 [.string ⟨d.name.toArray⟩,.string ⟨d.url.toArray⟩,.string ⟨d.title.toArray⟩,.string ⟨d.text.toArray⟩,.bool d.note] 47 w2.heap.size rfl;have hob:(some b:Option Nat)≠(Value.slice sao ds.length scap).ownBlock:=cV hoA hhA (by decide);have hbne:¬w.heap.size=b:=(by omega);have hbA:∀k,k<w2.heap.size ->(w2.alloc (.cells #[.string ⟨d.name.toArray⟩,.string ⟨d.url.toArray⟩,.string ⟨d.title.toArray⟩,.string ⟨d.text.toArray⟩,.bool d.note] 47)).heap[k]? =w2.heap[k]? :=fun k hk=>b2a.block k hk;obtain ⟨WA,hWA⟩:∃W,w2.alloc (.cells #[.string ⟨d.name.toArray⟩,.string ⟨d.url.toArray⟩,.string ⟨d.title.toArray⟩,.string ⟨d.text.toArray⟩,.bool d.note] 47)=W:=⟨_,rfl⟩
  have HA2:=zh (And.intro hoA (And.intro hhA (And.intro hkA (And.intro hBA (And.intro hnews (And.intro hob hbA))))));clear hlk hoA hhA hkA hBA hnews hob hbA hWA WA b2a;go_wp2_with fail
  go_region_law
   ((
    refine step_append_lies _ rfl (.tmp 20) (.tmp 22) 30 rfl B 47 i0 (.agg #[.string ⟨#[]⟩,.string ⟨#[]⟩,.string ⟨#[]⟩,.string ⟨#[]⟩,.bool false]) 5 72 Tryz.underlying30 hi hz0 hz1 hz2 rfl (by decide) (.slice sao ds.length scap) ds.length (ce ds) rfl HA2.out.1 ⟨w2.heap.size,0,none⟩ 1 1 [.string ⟨d.name.toArray⟩,.string ⟨d.url.toArray⟩,.string ⟨d.title.toArray⟩,.string ⟨d.text.toArray⟩,.bool d.note] rfl rfl HA2.out.2.2.2.2.1 (oC d) (by decide) (by unfold maxLen;omega) (by omega) ?_ _ rfl ?_
    ·exact Nat.le_of_lt (Nat.lt_of_le_of_lt (show B <= w2.heap.size by omega) hlA)
    intro g cap w5 hown5 hgrow5 hat5 hlt5;have hk5:=(hgrow5.block w.heap.size (Nat.lt_trans hdl2 hlA) hnr).trans HA2.out.2.2.1;have hh5:=(hgrow5.block b (Nat.lt_trans hbl2 hlA) HA2.out.2.2.2.2.2.1).trans HA2.out.2.1;have g0:=aX a0 (hk5.trans HA2.out.2.2.1.symm);have g1:=aX a1 (hk5.trans HA2.out.2.2.1.symm);have g2:=aX a2 (hk5.trans HA2.out.2.2.1.symm);have g3:=aX a3 (hk5.trans HA2.out.2.2.1.symm);have g4:=aX a4 (hk5.trans HA2.out.2.2.1.symm);have p5:=ou.cell hh5;have f5:=frozen_of_row w5 b 0 _ _ hh5;have kk:=Below.heap_setCell w5 ⟨b,0,none⟩ (.slice (some ⟨g,0,none⟩) (ds.length+1) cap) w.heap.size hbne;have k0:=aX g0 kk;have k1:=aX g1 kk;have k2:=aX g2 kk;have k3:=aX g3 kk;have k4:=aX g4 kk))
  all_goals
   go_wp2_with fail;go_ret;refine ⟨by rw [HA.out];rfl,.slice (some ⟨g,0,none⟩) (ds.length+1) cap,heap_setCell_same w5 b 0 _ _ _ hh5,?_,(HA2.out.2.2.2.1.drew.grown hgrow5 (Nat.le_of_lt (Nat.lt_of_le_of_lt (show B <= w2.heap.size by omega) hlA)) (fun j hj=>(HA2.out.1.lt j hj).1)).setCell (p:=⟨b,0,none⟩) hBb _,fun k hk hkb hks=>?_,?_⟩
   ·rw [HA.out];rw [show (ds++[d]).length=ds.length+1 by simp,ik];exact aF (a:=⟨b,0,none⟩) hown5 hh5 (by decide) _
   ·have hk2:k<w2.heap.size:=Nat.lt_of_lt_of_le hk hB2.size;rw [Below.heap_setCell _ _ _ _ hkb,hgrow5.block k (Nat.lt_trans hk2 hlA) hks];exact (HA2.out.2.2.2.2.2.2 k hk2).trans (hB2.block k hk)
   ·rcases hat5 with h|h
    ·exact Or.inl (by rw [h];rfl)
    ·refine Or.inr ⟨g,rfl,?_⟩;have:=hB2.size;have h3:(w2.alloc (.cells #[.string ⟨d.name.toArray⟩,.string ⟨d.url.toArray⟩,.string ⟨d.title.toArray⟩,.string ⟨d.text.toArray⟩,.bool d.note] 47)).drew.heap.size=g:=h.symm;have h4:(w2.alloc (.cells #[.string ⟨d.name.toArray⟩,.string ⟨d.url.toArray⟩,.string ⟨d.title.toArray⟩,.string ⟨d.text.toArray⟩,.bool d.note] 47)).drew.heap.size=w2.heap.size+1:=(by simp);omega
 ·have HA:=zh (show iU ds d=(ds,false) by unfold iU;rw [hlk];rfl);have hk0:(0:Int) <= (k:Int):=(by omega);clear hlk hd;go_wp2_with fail;go_ret;exact ⟨by rw [HA.out];rfl,sv,hh2,by rw [HA.out];exact ho2,hB2.mono (by omega),fun k hk _ _=>hB2.block k hk,Or.inl rfl⟩
theorem TabAt5.cell {w:World} {b:Nat} {x0 x1 x2 x3 x4 sv:Value} {T:TypeId} (h:w.heap[b]? =some (.cells #[x0,x1,x2,x3,x4,sv] T (0,0))):w.cell? ⟨b,5,none⟩=some sv:=by
 rw [cell_of_row w b 5 _ _ _ h];rfl
theorem Bp (x0 x1 x2 x3 x4:Value) (b:Nat) (sv:Value) (ds:List cR) (x:List UInt8) (note:Bool) (w:World) (hb:w.heap[b]? =some (.cells #[x0,x1,x2,x3,x4,sv] 60 (0,0))) (ho:w.ownsRow 0 47 5 sv ds.length (ce ds)) (hl:ds.length <= 1000000000000):
  Calls Tryz.prog 131 #[.pointer (some ⟨b,5,none⟩),.string ⟨x.toArray⟩,.bool note] w fun e w'=>∃n,e=.returned (.int .i64 n)∧tJ ds x note n∧Below w.heap.size w w':=by
 have hc:=TabAt5.cell hb;obtain ⟨ao,c,hsv,hR,_⟩:=ab ho;subst hsv;have HR:=zh hR;clear hR ho hb;go_enter Tryz.func131,Tryz.ntmps131
 go_wp2_with fail;go_loopw [14] (fun u14 wr=>∃k:Nat,k <= ds.length∧u14=.int .i64 k∧Below w.heap.size w wr∧eg (ds.drop k) x note=eg ds x note) (fun u14 _=>ds.length - (intOf u14).toNat)
 case atStart=>exact ⟨0,Nat.zero_le _,rfl,Below.refl _ _,rfl⟩
 case round=>
  obtain ⟨k,hk,rfl,hB,hlk⟩:=hrel;by_cases hlt:k<ds.length
  ·obtain ⟨d,hd⟩:∃d,ds[k]? =some d:=⟨ds[k],by simp [hlt]⟩
   obtain ⟨g,o,rfl⟩:∃g o,ao=some ⟨g,o,none⟩:=by
    cases hao:ao with
    |none=>have:=HR.out.non hao;omega
    |some ad=>
     obtain ⟨g,o,sp⟩:=ad;obtain rfl:sp=none:=(HR.out.at' _ hao).1;exact ⟨g,o,rfl⟩
   obtain ⟨c0,c1,c2,c3,c4⟩:=(HR.out.below hB).dfn k d hd;have hdr:ds.drop k=d::ds.drop (k+1):=by
    obtain ⟨h1,h2⟩:=List.getElem?_eq_some_iff.1 hd;rw [<- h2,List.getElem_cons_drop]
   rw [hdr,rY]at hlk;have HLK:=zh hlk;have HD:=zh hd;clear hlk hd hdr;have hB2:=hB.alloc hB.size (.cells #[.string ⟨d.name.toArray⟩,.string ⟨d.url.toArray⟩,.string ⟨d.title.toArray⟩,.string ⟨d.text.toArray⟩,.bool d.note] 47);by_cases hq:d.name=x
   ·subst hq;cases hnn:(d.note==note)
    ·have HN:=zh (show eg (ds.drop (k+1)) d.name note=eg ds d.name note by have:=HLK.out;rwa [hnn,Bool.and_false,if_neg (by simp)]at this);go_wp2_with fail;go_roundw;case rel=>exact ⟨k+1,by omega,by go_num,hB2,HN.out⟩
     case measure=>simp [intOf];omega
    ·have HN:=zh (show eg ds d.name note=some d by have:=HLK.out;rw [hnn,Bool.and_true,if_pos (by simp)]at this;exact this.symm);go_wp2_with fail;go_ret;exact ⟨k,rfl,Or.inr ⟨k,d,rfl,hlt,HD.out,HN.out⟩,hB2⟩
   ·have HN:=zh (show eg (ds.drop (k+1)) x note=eg ds x note by have:=HLK.out;rwa [show (d.name==x)=false by simpa using hq,Bool.false_and,if_neg (by simp)]at this);go_wp2_with fail;go_roundw;case rel=>exact ⟨k+1,by omega,by go_num,hB2,HN.out⟩
    case measure=>simp [intOf];omega
  ·obtain rfl:k=ds.length:=(by omega);have HN:=zh (show eg ds x note=none by rw [<- hlk,List.drop_length];rfl);clear hlk;go_wp2_with fail;go_ret;exact ⟨-1,rfl,Or.inl ⟨rfl,HN.out⟩,hB⟩
theorem yM (x0 x1 x2 x3 x4:Value) (B b:Nat) (sv:Value) (ds:List cR) (d:cR) (w:World) (hBb:B <= b) (hb:w.heap[b]? =some (.cells #[x0,x1,x2,x3,x4,sv] 60 (0,0))) (ho:w.ownsRow B 47 5 sv ds.length (ce ds)) (hl:ds.length <= 1000000000000):
  Calls Tryz.prog 102 #[.pointer (some ⟨b,5,none⟩),d.val] w fun e w'=>e=.returned (.bool (iU ds d).2)∧∃sv',w'.heap[b]? =some (.cells #[x0,x1,x2,x3,x4,sv'] 60 (0,0))∧w'.ownsRow B 47 5 sv' (iU ds d).1.length (ce (iU ds d).1)∧Below B w w'∧(∀k,k<w.heap.size ->k≠b ->some k≠sv.ownBlock ->w'.heap[k]? =w.heap[k]?)∧(sv'.ownBlock=sv.ownBlock∨∃g,sv'.ownBlock=some g∧w.heap.size <= g):=by
 obtain ⟨i0,hi,hz0,hz1,hz2⟩:=info_parts td;have hbl:b<w.heap.size:=(Array.getElem?_eq_some_iff.1 hb).1;have hb1:Below w.heap.size w (w.alloc (.cells #[.string ⟨d.name.toArray⟩,.string ⟨d.url.toArray⟩,.string ⟨d.title.toArray⟩,.string ⟨d.text.toArray⟩,.bool d.note] 47)):=(Below.refl _ w).alloc (Nat.le_refl _) _;have hh1:=(hb1.block b hbl).trans hb;have ho1:=ae ho hb1;have hf:=Bp x0 x1 x2 x3 x4 b sv ds d.name d.note _ hh1 (dQ ho1 (Nat.zero_le _)) hl;have hk0:(w.alloc (.cells #[.string ⟨d.name.toArray⟩,.string ⟨d.url.toArray⟩,.string ⟨d.title.toArray⟩,.string ⟨d.text.toArray⟩,.bool d.note] 47)).heap[w.heap.size]? =some (.cells #[.string ⟨d.name.toArray⟩,.string ⟨d.url.toArray⟩,.string ⟨d.title.toArray⟩,.string ⟨d.text.toArray⟩,.bool d.note] 47 (0,0)):=heap_alloc_new w _;have HF:=zh hf;have HX:=zh (And.intro hb1 (And.intro hh1 (And.intro ho1 hk0)));have hnr:(some w.heap.size:Option Nat)≠sv.ownBlock:=fun h=>by have:=(World.ownsRow.lt ho w.heap.size h.symm).2;omega
 clear hf hb1 hh1 ho1 hk0 ho hb;show Calls Tryz.prog _ #[_,.agg #[.string ⟨d.name.toArray⟩,.string ⟨d.url.toArray⟩,.string ⟨d.title.toArray⟩,.string ⟨d.text.toArray⟩,.bool d.note]] w _;go_enter Tryz.func102,Tryz.ntmps102
 go_wp2_with fail;refine HF.out.mono ?_;rintro e w2 ⟨n,rfl,hpost,b2⟩;obtain ⟨hb1,hh1,ho1,hk0⟩:=HX.out;have hB2:=aa hb1 b2;have hh2:=(b2.block b (by have:=hb1.size;omega)).trans hh1;have ho2:=ae ho1 b2;have hk2:=(b2.block _ (Array.getElem?_eq_some_iff.1 hk0).1).trans hk0;clear HF HX hb1 hh1 ho1 hk0 b2;rcases hpost with ⟨rfl,hlk⟩|⟨k,d2,rfl,hk,hd,hlk⟩
 ·have HA:=zh (show iU ds d=(ds++[d],true) by unfold iU;rw [hlk];rfl);obtain ⟨sao,scap,hsv,_⟩:=ab ho2;subst hsv;have p0:=TabAt5.cell hh2;have hbl2:b<w2.heap.size:=(Array.getElem?_eq_some_iff.1 hh2).1;have hdl2:w.heap.size<w2.heap.size:=(Array.getElem?_eq_some_iff.1 hk2).1;obtain ⟨c0,c1,c2,c3,c4⟩:w2.cell? ⟨w.heap.size,0,none⟩=some (.string ⟨d.name.toArray⟩)∧w2.cell? ⟨w.heap.size,1,none⟩=some (.string ⟨d.url.toArray⟩)∧w2.cell? ⟨w.heap.size,2,none⟩=some (.string ⟨d.title.toArray⟩)∧w2.cell? ⟨w.heap.size,3,none⟩=some (.string ⟨d.text.toArray⟩)∧w2.cell? ⟨w.heap.size,4,none⟩=some (.bool d.note):=by
   refine ⟨?_,?_,?_,?_,?_⟩<;>(rw [cell_of_row w2 w.heap.size _ _ _ _ hk2];rfl)
  have b2a:=(Below.refl w2.heap.size w2).alloc (Nat.le_refl _) (.cells #[.string ⟨d.name.toArray⟩,.string ⟨d.url.toArray⟩,.string ⟨d.title.toArray⟩,.string ⟨d.text.toArray⟩,.bool d.note] 47);have p0a:=(b2a.cell (p:=⟨b,5,none⟩) hbl2).trans p0;have a0:=(b2a.cell (p:=⟨w.heap.size,0,none⟩) hdl2).trans c0;have a1:=(b2a.cell (p:=⟨w.heap.size,1,none⟩) hdl2).trans c1;have a2:=(b2a.cell (p:=⟨w.heap.size,2,none⟩) hdl2).trans c2;have a3:=(b2a.cell (p:=⟨w.heap.size,3,none⟩) hdl2).trans c3;have a4:=(b2a.cell (p:=⟨w.heap.size,4,none⟩) hdl2).trans c4;have hoA:=ae ho2 b2a;have hhA:=(b2a.block b hbl2).trans hh2;have hkA:=(b2a.block w.heap.size hdl2).trans hk2;have hBA:=(hB2.mono (show B <= w.heap.size by omega)).trans (b2a.mono (show B <= w2.heap.size by omega));have hlA:w2.heap.size<(w2.alloc (.cells #[.string ⟨d.name.toArray⟩,.string ⟨d.url.toArray⟩,.string ⟨d.title.toArray⟩,.string ⟨d.text.toArray⟩,.bool d.note] 47)).heap.size:=(by simp);have hnews:=aL w2 [.string ⟨d.name.toArray⟩,.string ⟨d.url.toArray⟩,.string ⟨d.title.toArray⟩,.string ⟨d.text.toArray⟩,.bool d.note] 47 w2.heap.size rfl;have hob:(some b:Option Nat)≠(Value.slice sao ds.length scap).ownBlock:=cV hoA hhA (by decide);have hbne:¬w.heap.size=b:=(by omega);have hbA:∀k,k<w2.heap.size ->(w2.alloc (.cells #[.string ⟨d.name.toArray⟩,.string ⟨d.url.toArray⟩,.string ⟨d.title.toArray⟩,.string ⟨d.text.toArray⟩,.bool d.note] 47)).heap[k]? =w2.heap[k]? :=fun k hk=>b2a.block k hk;obtain ⟨WA,hWA⟩:∃W,w2.alloc (.cells #[.string ⟨d.name.toArray⟩,.string ⟨d.url.toArray⟩,.string ⟨d.title.toArray⟩,.string ⟨d.text.toArray⟩,.bool d.note] 47)=W:=⟨_,rfl⟩
  have HA2:=zh (And.intro hoA (And.intro hhA (And.intro hkA (And.intro hBA (And.intro hnews (And.intro hob hbA))))));clear hlk hoA hhA hkA hBA hnews hob hbA hWA WA b2a;go_wp2_with fail
  go_region_law
   ((
    refine step_append_lies _ rfl (.tmp 20) (.tmp 22) 30 rfl B 47 i0 (.agg #[.string ⟨#[]⟩,.string ⟨#[]⟩,.string ⟨#[]⟩,.string ⟨#[]⟩,.bool false]) 5 72 Tryz.underlying30 hi hz0 hz1 hz2 rfl (by decide) (.slice sao ds.length scap) ds.length (ce ds) rfl HA2.out.1 ⟨w2.heap.size,0,none⟩ 1 1 [.string ⟨d.name.toArray⟩,.string ⟨d.url.toArray⟩,.string ⟨d.title.toArray⟩,.string ⟨d.text.toArray⟩,.bool d.note] rfl rfl HA2.out.2.2.2.2.1 (oC d) (by decide) (by unfold maxLen;omega) (by omega) ?_ _ rfl ?_
    ·exact Nat.le_of_lt (Nat.lt_of_le_of_lt (show B <= w2.heap.size by omega) hlA)
    intro g cap w5 hown5 hgrow5 hat5 hlt5;have hk5:=(hgrow5.block w.heap.size (Nat.lt_trans hdl2 hlA) hnr).trans HA2.out.2.2.1;have hh5:=(hgrow5.block b (Nat.lt_trans hbl2 hlA) HA2.out.2.2.2.2.2.1).trans HA2.out.2.1;have g0:=aX a0 (hk5.trans HA2.out.2.2.1.symm);have g1:=aX a1 (hk5.trans HA2.out.2.2.1.symm);have g2:=aX a2 (hk5.trans HA2.out.2.2.1.symm);have g3:=aX a3 (hk5.trans HA2.out.2.2.1.symm);have g4:=aX a4 (hk5.trans HA2.out.2.2.1.symm);have p5:=TabAt5.cell hh5;have f5:=frozen_of_row w5 b 5 _ _ hh5;have kk:=Below.heap_setCell w5 ⟨b,5,none⟩ (.slice (some ⟨g,0,none⟩) (ds.length+1) cap) w.heap.size hbne;have k0:=aX g0 kk;have k1:=aX g1 kk;have k2:=aX g2 kk;have k3:=aX g3 kk;have k4:=aX g4 kk))
  all_goals
   go_wp2_with fail;go_ret;refine ⟨by rw [HA.out];rfl,.slice (some ⟨g,0,none⟩) (ds.length+1) cap,heap_setCell_same w5 b 5 _ _ _ hh5,?_,(HA2.out.2.2.2.1.drew.grown hgrow5 (Nat.le_of_lt (Nat.lt_of_le_of_lt (show B <= w2.heap.size by omega) hlA)) (fun j hj=>(HA2.out.1.lt j hj).1)).setCell (p:=⟨b,5,none⟩) hBb _,fun k hk hkb hks=>?_,?_⟩
   ·rw [HA.out];rw [show (ds++[d]).length=ds.length+1 by simp,ik];exact aF (a:=⟨b,5,none⟩) hown5 hh5 (by decide) _
   ·have hk2:k<w2.heap.size:=Nat.lt_of_lt_of_le hk hB2.size;rw [Below.heap_setCell _ _ _ _ hkb,hgrow5.block k (Nat.lt_trans hk2 hlA) hks];exact (HA2.out.2.2.2.2.2.2 k hk2).trans (hB2.block k hk)
   ·rcases hat5 with h|h
    ·exact Or.inl (by rw [h];rfl)
    ·refine Or.inr ⟨g,rfl,?_⟩;have:=hB2.size;have h3:(w2.alloc (.cells #[.string ⟨d.name.toArray⟩,.string ⟨d.url.toArray⟩,.string ⟨d.title.toArray⟩,.string ⟨d.text.toArray⟩,.bool d.note] 47)).drew.heap.size=g:=h.symm;have h4:(w2.alloc (.cells #[.string ⟨d.name.toArray⟩,.string ⟨d.url.toArray⟩,.string ⟨d.title.toArray⟩,.string ⟨d.text.toArray⟩,.bool d.note] 47)).drew.heap.size=w2.heap.size+1:=(by simp);omega
 ·have HA:=zh (show iU ds d=(ds,false) by unfold iU;rw [hlk];rfl);have hk0:(0:Int) <= (k:Int):=(by omega);clear hlk hd;go_wp2_with fail;go_ret;exact ⟨by rw [HA.out];rfl,sv,hh2,by rw [HA.out];exact ho2,hB2.mono (by omega),fun k hk _ _=>hB2.block k hk,Or.inl rfl⟩
theorem de.added {B b sb:Nat} {w w':World} {V:dY} {st:am} (h:de B b sb w V st) {sv':Value} {ds:List cR}
  (hh:w'.heap[b]? =some (.cells #[V.bv,V.av,V.dv,V.gv,.pointer (some ⟨sb,0,none⟩),sv'] 60 (0,0))) (ho:w'.ownsRow B 47 5 sv' ds.length (ce ds)) (hB:Below B w w')
  (hk:∀k,k<w.heap.size ->k≠b ->some k≠V.tv.ownBlock ->w'.heap[k]? =w.heap[k]?) (hat:gO sv' V.tv.ownBlock w.heap.size):d7 B b sb w V {st with tab:=ds} w':=by
 have kp:∀{e z n:Nat} {v:Value} {xs:List Value} (_:w.ownsRow B e z v n xs) (_:e≠60) (_:v.ownBlock=none∨v.ownBlock≠V.tv.ownBlock),w'.ownsRow B e z v n xs:=fun {e z n v xs} hr h1 h2=>
  eh hr fun g hg=>hk g (World.ownsRow.lt hr g hg).2 (fun e0=>by
   have:=cV hr h.heap h1;rw [hg,e0]at this;exact this rfl) (fun e0=>by
   rcases h2 with h2|h2
   ·rw [hg]at h2;cases h2
   ·exact h2 (by rw [hg];exact e0))
 refine ⟨{V with tv:=sv'},⟨hh,kp h.bl (by decide) (aZ h.bl h.tb (by decide)),kp h.at' (by decide) (aZ h.at' h.tb (by decide)),kp h.df (by decide) h.ap,kp h.dg (by decide) (aZ h.dg h.tb (by decide)),ho,?_,h.base⟩,⟨hB,fun k hk2 hkb hko=>hk k hk2 hkb (fun e=>hko (Or.inr (Or.inr (Or.inr (Or.inr e)))))⟩,fun k hk2=>?_⟩
 ·show V.dv.ownBlock=none∨V.dv.ownBlock≠sv'.ownBlock;rcases hat with e|⟨k,e,hk2⟩
  ·rw [e];exact h.ap
  ·refine Or.inr (fun e2=>?_);rw [e]at e2;have:=(World.ownsRow.lt h.df k e2).2;omega
 ·rcases hk2 with e|e|e|e|e
  ·exact Or.inl (Or.inl e)
  ·exact Or.inl (Or.inr (Or.inl e))
  ·exact Or.inl (Or.inr (Or.inr (Or.inl e)))
  ·exact Or.inl (Or.inr (Or.inr (Or.inr (Or.inl e))))
  ·rcases hat with e2|⟨k2,e2,h2⟩
   ·exact Or.inl (Or.inr (Or.inr (Or.inr (Or.inr (e.trans e2)))))
   ·exact Or.inr (by rw [Option.some.inj (e.trans e2)];exact h2)
structure qY (w:World):Prop where
 env:lx w
 p10:Lib.TabIs Tryz.prog w "internal/strconv.uint64pow10" .u64 Lib.pow10Tab
theorem qY.below {w w':World} (h:qY w) (hb:Below w.heap.size w w'):qY w':=
 ⟨h.env.below hb,sC (g:=3) (by kernel_rfl) h.p10 hb⟩
def jI (B:Nat) (w:World):Prop:=∀w',Below B w w' ->qY w'
theorem jI.below {B:Nat} {w w':World} (h:jI B w) (hb:Below B w w'):jI B w':=fun w2 h2=>h w2 (hb.trans h2)
theorem jI.env {B:Nat} {w:World} (h:jI B w):lx w:=(h w (Below.refl _ _)).env
theorem jI.p10 {B:Nat} {w:World} (h:jI B w):Lib.TabIs Tryz.prog w "internal/strconv.uint64pow10" .u64 Lib.pow10Tab:=(h w (Below.refl _ _)).p10
theorem jI.of {w:World} (h:qY w):jI w.heap.size w:=fun w' hb=>h.below hb
def jL (B:Nat) (w:World) (sb:Nat) (z:aS):Prop:=
 ∀w',Below B w w' ->
  (∀x:ByteArray,Calls Tryz.prog 61 #[.pointer (some ⟨sb,0,none⟩),.string x] w' fun e w2=>e=.returned (.bool (z.unk x.data.toList))∧Below w'.heap.size w' w2)∧
  (∀(ao:Option Addr) (cap:Nat) (l:List (List UInt8)),bO w' ao l ->l.length <= 1000000 ->
   Calls Tryz.prog 21 #[.pointer (some ⟨sb,0,none⟩),.slice ao l.length cap] w' fun e w2=>e=.returned (.bool (z.sees l))∧Below w'.heap.size w' w2)
theorem jL.below {B:Nat} {w w':World} {sb:Nat} {z:aS} (h:jL B w sb z) (hb:Below B w w'):jL B w' sb z:=fun w2 h2=>h w2 (hb.trans h2)
theorem jL.of {w:World} {sb k:Nat} (h:ig w sb k):jL w.heap.size w sb (dA k):=fun w' hb=>
 ⟨fun x=>vA (h.below hb) x,fun ao cap l hR hl=>Cy (h.below hb) hR hl⟩
theorem jL.unknown {B:Nat} {w:World} {sb:Nat} {z:aS} (h:jL B w sb z) (x:ByteArray):
  Calls Tryz.prog 61 #[.pointer (some ⟨sb,0,none⟩),.string x] w fun e w2=>e=.returned (.bool (z.unk x.data.toList))∧Below w.heap.size w w2:=(h w (Below.refl _ _)).1 x
theorem jL.sees {B:Nat} {w:World} {sb:Nat} {z:aS} (h:jL B w sb z) {ao:Option Addr} {cap:Nat} {l:List (List UInt8)} (hR:bO w ao l) (hl:l.length <= 1000000):
  Calls Tryz.prog 21 #[.pointer (some ⟨sb,0,none⟩),.slice ao l.length cap] w fun e w2=>e=.returned (.bool (z.sees l))∧Below w.heap.size w w2:=(h w (Below.refl _ _)).2 ao cap l hR hl
theorem gE {w:World} {B:Nat} {e:TypeId} {z n:Nat} {v:Value} {xs:List Value} (h:w.ownsRow B e z v n xs) {g:Nat} (hg:some g=v.ownBlock):∃cs,w.heap[g]? =some (.cells cs e (0,0)):=by
 rcases h.2 with ⟨h0,_⟩|⟨g',c',cur,h0,_,hh,_⟩
 ·rw [h0]at hg;cases hg
 ·rw [h0]at hg;obtain rfl:=Option.some.inj hg;exact ⟨cur,hh⟩
theorem de.kind {B b sb:Nat} {w:World} {V:dY} {st:am} (h:de B b sb w V st) {k:Nat} (hk:V.owns k):
  ∃cs e,w.heap[k]? =some (.cells cs e (0,0))∧(e=45∨e=40∨e=47∨e=92):=by
 rcases hk with e|e|e|e|e
 ·obtain ⟨cs,hc⟩:=gE h.bl e;exact ⟨cs,_,hc,Or.inl rfl⟩
 ·obtain ⟨cs,hc⟩:=gE h.at' e;exact ⟨cs,_,hc,Or.inr (Or.inl rfl)⟩
 ·obtain ⟨cs,hc⟩:=gE h.df e;exact ⟨cs,_,hc,Or.inr (Or.inr (Or.inl rfl))⟩
 ·obtain ⟨cs,hc⟩:=gE h.dg e;exact ⟨cs,_,hc,Or.inr (Or.inr (Or.inr rfl))⟩
 ·obtain ⟨cs,hc⟩:=gE h.tb e;exact ⟨cs,_,hc,Or.inr (Or.inr (Or.inl rfl))⟩
theorem BK.obj {B b sb:Nat} {w w':World} {V:dY} {st:am} (hk:BK B b V w w') (h:de B b sb w V st) {k:Nat} {o:Obj} (ho:w.heap[k]? =some o)
  (hne:∀cs e fz,o=.cells cs e fz ->e≠60∧e≠45∧e≠40∧e≠47∧e≠92):w'.heap[k]? =some o:=by
 refine (hk.keep k (Array.getElem?_eq_some_iff.1 ho).1 (fun e=>?_) (fun e=>?_)).trans ho
 ·subst e;exact (hne _ _ _ (Option.some.inj (ho.symm.trans h.heap))).1 rfl
 ·obtain ⟨cs,e2,h1,h2⟩:=h.kind e;obtain ⟨_,q1,q2,q3,q4⟩:=hne _ _ _ (Option.some.inj (ho.symm.trans h1));rcases h2 with e|e|e|e
  ·exact q1 e
  ·exact q2 e
  ·exact q3 e
  ·exact q4 e
theorem A3 {B b sb:Nat} {w w':World} {V:dY} {st:am} {B2 bb:Nat} {bs:List Value} (hI:Lib.IsBuilderF 112 5 B2 bb bs w) (hk:BK B b V w w') (h:de B b sb w V st):Lib.IsBuilderF 112 5 B2 bb bs w':=by
 have one:∀p,Lib.BuilderAtF 112 5 B2 bb p bs w ->Lib.BuilderAtF 112 5 B2 bb p bs w':=by
  rintro p ⟨hB,v,hb,hown,hne⟩;refine ⟨hB,v,hk.obj h hb (fun cs e fz he=>?_),⟨hown.1,?_⟩,hne⟩
  ·simp only [Obj.cells.injEq]at he;rw [<- he.2.1];decide
  ·rcases hown.2 with hn|⟨g,cap,cur,fz,hv,hbg,hg,rest⟩
   ·exact Or.inl hn
   ·refine Or.inr ⟨g,cap,cur,fz,hv,hbg,hk.obj h hg (fun cs e fz he=>?_),rest⟩;simp only [Obj.cells.injEq]at he;rw [<- he.2.1];decide
 rcases hI with h1|h1
 ·exact Or.inl (one _ h1)
 ·exact Or.inr (one _ h1)
theorem eZ {w w':World} {o:Nat} {B:Nat} {e:TypeId} {z n:Nat} {v:Value} {xs:List Value} (hr:w.ownsRow B e z v n xs) (hO:Lib.OthersKept 5 (some o) w w') (ho:∃cs,w.heap[o]? =some (.cells cs 112 (0,0))) (h1:e≠5) (h2:e≠112):w'.ownsRow B e z v n xs:=
 eh hr fun g hg=>by
  obtain ⟨cs,hc⟩:=gE hr hg.symm;rw [hc];refine hO g _ hc (fun e0=>?_) (fun c fz e0=>?_)
  ·obtain ⟨cs2,h3⟩:=ho;obtain rfl:=Option.some.inj e0;have:=Option.some.inj (hc.symm.trans h3);simp only [Obj.cells.injEq]at this;exact h2 this.2.1
  ·simp only [Obj.cells.injEq]at e0;exact h1 e0.2.1
theorem de.others {B b sb:Nat} {w w':World} {V:dY} {st:am} {o:Nat} (h:de B b sb w V st) (hO:Lib.OthersKept 5 (some o) w w') (ho:∃cs,w.heap[o]? =some (.cells cs 112 (0,0))):de B b sb w' V st:=by
 refine ⟨?_,eZ h.bl hO ho (by decide) (by decide),eZ h.at' hO ho (by decide) (by decide),eZ h.df hO ho (by decide) (by decide),eZ h.dg hO ho (by decide) (by decide),eZ h.tb hO ho (by decide) (by decide),h.ap,h.base⟩;refine hO b _ h.heap (fun e0=>?_) (fun c fz e0=>?_)
 ·obtain ⟨cs2,h3⟩:=ho;obtain rfl:=Option.some.inj e0;have:=Option.some.inj (h.heap.symm.trans h3);simp only [Obj.cells.injEq]at this;exact absurd this.2.1 (by decide)
 ·simp only [Obj.cells.injEq]at e0;exact absurd e0.2.1 (by decide)
theorem nO {w:World} {B2 bb:Nat} {bs:List Value} (hI:Lib.IsBuilderF 112 5 B2 bb bs w):∃cs,w.heap[bb]? =some (.cells cs 112 (0,0)):=by
 rcases hI with ⟨_,v,hb,_⟩|⟨_,v,hb,_⟩
 ·exact ⟨_,hb⟩
 ·exact ⟨_,hb⟩
theorem BK.step {B b:Nat} {V:dY} {w0 w w':World} (h:BK B b V w0 w) (hb:Below w0.heap.size w w') (hB:B <= w0.heap.size):BK B b V w0 w':=
 ⟨h.below.trans (hb.mono hB),fun k hk hkb hko=>(hb.block k hk).trans (h.keep k hk hkb hko)⟩
theorem de.hB {B b sb:Nat} {w:World} {V:dY} {st:am} (h:de B b sb w V st):B <= w.heap.size:=by
 have:=h.base;have:=h.lt;omega
theorem ah.r {B:Nat} {w:World} {ao:Option Addr} {m c:Nat} {l:List (List UInt8)} (h:ah B w (.slice ao m c) l):bO w ao l∧(ao=none ->c=0)∧m=l.length:=by
 obtain ⟨h1,h2,h3⟩:=bT h;exact ⟨h2,h3,h1⟩
theorem ah.bk {B b sb U:Nat} {w w':World} {V:dY} {st:am} {v:Value} {l:List (List UInt8)} (hr:ah U w v l) (hk:BK B b V w w') (h:de B b sb w V st):ah U w' v l:=
 hk.own h hr (by decide) (by decide) (by decide) (by decide) (by decide)
theorem lQ {B b sb:Nat} {w:World} {V:dY} {st:am} {z:aS} (h:de B b sb w V st) (hS:jL B w sb z) (T:ByteArray) (hl:st.diags.length <= 1000000000):
  Calls Tryz.prog 22 #[.pointer (some ⟨b,0,none⟩),.string T] w fun e w'=>e=.returned (.tuple #[])∧d7 B b sb w V (st.label z T.data.toList) w':=by
 have c4:w.cell? ⟨b,4,none⟩=some (.pointer (some ⟨sb,0,none⟩)):=(by rw [cell_of_row w b _ _ _ _ h.heap];rfl);have HU:=zh (hS.unknown T);have hBw:B <= w.heap.size:=(by have:=h.base;have:=h.lt;omega);have hst:st.label z T.data.toList=if z.unk T.data.toList then st.diag 1 T.data.toList else st:=rfl;obtain ⟨u,hu⟩:∃u,z.unk T.data.toList=u:=⟨_,rfl⟩
 rw [hu]at HU hst;have HH:=zh h;have HST:=zh hst;have HL:=zh hl;clear h hS hst hu hl;go_enter Tryz.func22,Tryz.ntmps22
 go_wp2_with fail;refine HU.out.mono ?_;rintro e w2 ⟨rfl,hb⟩;have HB:=zh hb;have HH2:=zh (HH.out.below hb);clear hb c4;cases u
 ·go_wp2_with fail
  go_end0
  refine ⟨rfl,V,?_,BK.of_below HB.out hBw,V.newer_refl _⟩;rw [HST.out];exact HH2.out
 ·have HD:=zh (mH HH2.out 1 T (by have:=HL.out;omega) (by decide));go_wp2_with fail;refine HD.out.mono ?_;rintro e w3 ⟨rfl,hp⟩;have HP:=zh (d7.trans (BK.of_below HB.out hBw) (V.newer_refl _) hp);clear hp;go_wp2_with fail
  go_end0
  refine ⟨rfl,?_⟩;rw [HST.out];exact HP.out
end Go.Proofs.YtcannffahjbjnaaGreatDoor
namespace Go.Proofs.YtcannffahjbjnaaGreatDoor
def ms (f:UInt8 ->Nat) (s:List UInt8):Nat:=(s.map f).sum
def el (f:UInt8 ->Nat) (ls:List (List UInt8)):Nat:=(ls.map fun x=>ms f x+f 10).sum
theorem fv (f:UInt8 ->Nat):ms f []=0:=rfl
theorem bR (f:UInt8 ->Nat) (c:UInt8) (s:List UInt8):ms f (c::s)=f c+ms f s:=by simp [ms]
theorem jm (f:UInt8 ->Nat) (a b:List UInt8):ms f (a++b)=ms f a+ms f b:=by simp [ms]
theorem BT (f:UInt8 ->Nat) (c:UInt8):∀n,ms f (List.replicate n c)=f c*n
 |0=>rfl
 |n+1=>by rw [List.replicate_succ,bR,BT f c n,Nat.mul_succ];omega
theorem gC {f:UInt8 ->Nat} {a b:List UInt8} (h:a.Sublist b):ms f a <= ms f b:=by
 induction h
 ·exact Nat.le_refl _
 ·rw [bR];omega
 ·rw [bR,bR];omega
theorem Eh {f:UInt8 ->Nat} {c:UInt8} {s:List UInt8} (h:c∈s):f c <= ms f s:=by
 induction s with
 |nil=>cases h
 |cons d s ih=>
  rw [bR];rcases List.mem_cons.1 h with rfl|h
  ·omega
  ·have:=ih h;omega
theorem fP (f:UInt8 ->Nat):el f []=0:=rfl
theorem aB (f:UInt8 ->Nat) (x:List UInt8) (l:List (List UInt8)):el f (x::l)=ms f x+f 10+el f l:=by simp [el]
theorem nD (f:UInt8 ->Nat) (a b:List (List UInt8)):el f (a++b)=el f a+el f b:=by simp [el]
theorem jw {f:UInt8 ->Nat} {a b:List (List UInt8)} (h:a.Sublist b):el f a <= el f b:=by
 induction h
 ·exact Nat.le_refl _
 ·rw [aB];omega
 ·rw [aB,aB];omega
theorem yB {f:UInt8 ->Nat} {g:List UInt8 ->List UInt8} (hg:∀x,ms f (g x) <= ms f x):∀l,el f (l.map g) <= el f l
 |[]=>Nat.le_refl _
 |x::l=>by
  have:=yB hg l;have:=hg x;rw [List.map_cons,aB,aB];omega
theorem yC {f:UInt8 ->Nat} {x:List UInt8} {l:List (List UInt8)} (h:x∈l):ms f x <= el f l:=by
 induction l with
 |nil=>cases h
 |cons y l ih=>
  rw [aB];rcases List.mem_cons.1 h with rfl|h
  ·omega
  ·have:=ih h;omega
theorem mZ (f:UInt8 ->Nat):∀l,ms f (cY l)=el f l
 |[]=>rfl
 |x::l=>by
  have:=mZ f l;unfold cY at this⊢;rw [List.flatMap_cons,jm,jm,bR,fv,this,aB];omega
theorem rS (f:UInt8 ->Nat):∀l,ms f (dJ l) <= el f l
 |[]=>Nat.le_refl _
 |[x]=>by rw [dJ,aB];omega
 |x::y::t=>by
  have:=rS f (y::t);rw [dJ,jm,bR,aB];omega
theorem gI (p:UInt8 ->Bool) (s:List UInt8):(aD p s).Sublist s:=by
 unfold aD;have h:(s.reverse.dropWhile p).Sublist s.reverse:=List.dropWhile_sublist p;have h2:=h.reverse
 rwa [List.reverse_reverse]at h2
theorem fj (s:List UInt8):(ak s).Sublist s:=List.dropWhile_sublist _
theorem oh (s:List UInt8):(trimB s).Sublist s:=(gI _ _).trans (fj s)
theorem o6 (s p:List UInt8):(Lib.trimPrefix s p).Sublist s:=by
 unfold Lib.trimPrefix;split
 ·exact List.drop_sublist _ _
 ·exact List.Sublist.refl _
theorem DJ (c:UInt8) (s:List UInt8):(bM c s).1.Sublist s:=o6 s [c]
theorem zY (s:List UInt8):(dK s).1.Sublist s:=by
 unfold dK;split
 ·exact (o6 _ _).trans ((DJ _ _).trans (fj s))
 ·exact List.nil_sublist _
theorem Bv (s:List UInt8):(eK s).2.1.Sublist s:=by
 unfold eK
 dsimp only
 split
 ·exact List.nil_sublist _
 ·split
  ·exact (gI _ _).trans ((gI _ _).trans ((oh _).trans ((List.drop_sublist _ _).trans (fj s))))
  ·exact (oh _).trans ((List.drop_sublist _ _).trans (fj s))
theorem zk (s:List UInt8):(cU s).2.2.1.Sublist s:=by
 unfold cU
 dsimp only
 split
 ·exact List.nil_sublist _
 ·split
  ·exact List.nil_sublist _
  ·split
   ·exact List.nil_sublist _
   ·exact (oh _).trans ((List.drop_sublist _ _).trans (fj s))
theorem um (s:List UInt8):(aH s).2.2.2.1.Sublist s∧((aH s).2.2.2.2=true ->(aH s).1∈s):=by
 unfold aH
 dsimp only
 split
 ·exact ⟨List.nil_sublist _,fun h=>by cases h⟩
 ·split
  ·exact ⟨List.nil_sublist _,fun h=>by cases h⟩
  ·rename_i sign hs;split
   ·exact ⟨List.nil_sublist _,fun h=>by cases h⟩
   ·split
    ·exact ⟨List.nil_sublist _,fun h=>by cases h⟩
    ·exact ⟨(List.drop_sublist _ _).trans ((List.drop_sublist _ _).trans (fj s)),fun _=>(fj s).subset (List.mem_of_getElem? hs)⟩
theorem wh {f:UInt8 ->Nat} (h9:4*f 32 <= f 9):∀(s:List UInt8) (c:Nat),f 32*fR s c+ms f (ak s) <= f 32*c+ms f s
 |[],c=>by simp [fR,ak,fv]
 |x::t,c=>by
  by_cases h1:x=32
  ·subst h1;have ih:=wh h9 t (c+1);rw [show fR ((32:UInt8)::t) c=fR t (c+1) by simp [fR],show ak ((32:UInt8)::t)=ak t by simp [ak,aM],bR];rw [Nat.mul_succ]at ih;omega
  ·by_cases h2:x=9
   ·subst h2;have ih:=wh h9 t (c+(4 - c % 4));rw [show fR ((9:UInt8)::t) c=fR t (c+(4 - c % 4)) by simp [fR],show ak ((9:UInt8)::t)=ak t by simp [ak,aM],bR];rw [Nat.mul_add]at ih;have:=Nat.mul_le_mul_left (f 32) (show 4 - c % 4 <= 4 by omega);omega
   ·rw [show fR (x::t) c=c by simp [fR,h1,h2],show ak (x::t)=x::t by simp [ak,aM,h1,h2]];omega
theorem zi {f:UInt8 ->Nat} (h9:4*f 32 <= f 9) (s:List UInt8):ms f (dC s) <= ms f s:=by
 have:=wh h9 s 0;unfold dC bz;rw [jm,BT];omega
theorem vt {f:UInt8 ->Nat} (h9:4*f 32 <= f 9) (n:Nat) (s:List UInt8):ms f (cB s n) <= ms f s:=
 Nat.le_trans (gC (List.drop_sublist _ _)) (zi h9 s)
def ic (f:UInt8 ->Nat) (n:Nat) (bs:List aI):Prop:=∀x∈bs,ms f x.text <= n∧ms f x.info <= n
theorem ic.nil (f:UInt8 ->Nat) (n:Nat):ic f n []:=fun x h=>by cases h
theorem ic.mono {f:UInt8 ->Nat} {n m:Nat} {bs:List aI} (h:ic f n bs) (hn:n <= m):ic f m bs:=fun x hx=>⟨Nat.le_trans (h x hx).1 hn,Nat.le_trans (h x hx).2 hn⟩
theorem ic.app {f:UInt8 ->Nat} {n:Nat} {a b:List aI} (h:ic f n a) (h2:ic f n b):ic f n (a++b):=fun x hx=>by
 rcases List.mem_append.1 hx with hx|hx
 ·exact h x hx
 ·exact h2 x hx
theorem ic.cons {f:UInt8 ->Nat} {n:Nat} {a:aI} {b:List aI} (h:ms f a.text <= n∧ms f a.info <= n) (h2:ic f n b):ic f n (a::b):=fun x hx=>by
 rcases List.mem_cons.1 hx with rfl|hx
 ·exact h
 ·exact h2 x hx
theorem ic.one {f:UInt8 ->Nat} {n:Nat} {a:aI} (h:ms f a.text <= n∧ms f a.info <= n):ic f n [a]:=ic.cons h (ic.nil f n)
theorem zH (f:UInt8 ->Nat) (l:List (List UInt8)) (i:Nat):ms f (da l i) <= el f l:=by
 unfold da;cases h:l[i]? with
 |none=>exact Nat.zero_le _
 |some x=>exact yC (List.mem_of_getElem? h)
theorem lF (f:UInt8 ->Nat):∀l,el f (a6 l) <= el f l
 |[]=>Nat.le_refl _
 |s::t=>by
  rw [a6];split
  ·have:=lF f t;have:=gC (f:=f) (zY s);rw [aB,aB];omega
  ·exact Nat.zero_le _
theorem rP {f:UInt8 ->Nat} (h9:4*f 32 <= f 9) (c:Nat):∀l i m,el f (bI c l i m).1 <= el f l
 |[],i,m=>Nat.le_refl _
 |s::t,i,m=>by
  rw [bI];split
  ·have:=rP h9 c t (i+1) (if aJ s then m else i+1);have:=vt h9 c s;simp only;rw [aB,aB];omega
  ·exact Nat.zero_le _
theorem si (f:UInt8 ->Nat) (d:Nat):∀l acc k,el f (dc d l acc k).1 <= el f acc+el f l
 |[],acc,k=>by rw [dc];simp only;omega
 |s::t,acc,k=>by
  rw [dc];split
  ·simp only;omega
  ·split
   ·simp only;omega
   ·have:=si f d t (acc++[ak s]) (k+1);rw [nD,aB,fP]at this;rename_i h1 h2;rw [aB];have:=gC (f:=f) (fj s);omega
theorem tS {f:UInt8 ->Nat} (h9:4*f 32 <= f 9) (d:Nat) (info:List UInt8) (l:List (List UInt8)) (n m:Nat) (hl:el f l <= m) (hi:ms f info <= m):ic f m [pT d info l n]:=by
 refine ic.one ⟨?_,hi⟩;unfold pT;simp only;rw [mZ];exact Nat.le_trans (yB (vt h9 n) l) hl
theorem rQ {f:UInt8 ->Nat} (h9:4*f 32 <= f 9) {W:Nat ->List (List UInt8) ->List aI} (hW:∀d l,ic f (el f l) (W d l)) (d:Nat) (sign:UInt8) (l:List (List UInt8)):∀n a e,ic f (el f l) (bq W d sign l n a e).1
 |0,a,e=>ic.nil _ _
 |n+1,a,e=>by
  rw [bq];split
  ·exact ic.nil _ _
  ·rename_i s hs;split
   ·exact ic.nil _ _
   ·dsimp only
    refine ic.cons ⟨Nat.zero_le _,Nat.zero_le _⟩ (ic.app ((hW _ _).mono ?_) (rQ h9 hW d sign l n _ _));have h1:=jw (f:=f) (List.take_sublist (a+(bI (aH s).2.2.1 (l.drop (a+1)) 1 1).2 - a) ((aH s).2.2.2.1::(bI (aH s).2.2.1 (l.drop (a+1)) 1 1).1));have h2:=rP h9 (aH s).2.2.1 (l.drop (a+1)) 1 1;have h3:=gC (f:=f) (um s).1;have h4:l.drop a=s::l.drop (a+1):=by
     obtain ⟨h,rfl⟩:=List.getElem?_eq_some_iff.1 hs;exact List.drop_eq_getElem_cons h
    have h5:=jw (f:=f) (List.drop_sublist a l);have h6:=jw (f:=f) (List.take_sublist (bI (aH s).2.2.1 (l.drop (a+1)) 1 1).2 ((aH s).2.2.2.1::(bI (aH s).2.2.1 (l.drop (a+1)) 1 1).1));rw [h4,aB]at h5;rw [aB]at h6;omega
theorem BZ {f:UInt8 ->Nat} (h9:4*f 32 <= f 9) {W:Nat ->List (List UInt8) ->List aI} (hW:∀d l,ic f (el f l) (W d l)) (d:Nat) (l:List (List UInt8)):ic f (el f l) (dq W d l).1:=by
 have h0:=zH f l 0;unfold dq
 dsimp only
 split
 ·exact ic.nil _ _
 ·split
  ·exact tS h9 _ _ _ _ _ (jw (List.take_sublist _ _)) (Nat.zero_le _)
  ·split
   ·exact tS h9 _ _ _ _ _ (jw ((List.take_sublist _ _).trans (List.drop_sublist _ _))) (Nat.le_trans (gC (zk _)) h0)
   ·split
    ·exact ic.one ⟨Nat.le_trans (gC (Bv _)) h0,Nat.zero_le _⟩
    ·split
     ·exact ic.one ⟨Nat.zero_le _,Nat.zero_le _⟩
     ·split
      ·exact ic.cons ⟨Nat.zero_le _,Nat.zero_le _⟩ ((hW _ _).mono (lF f l))
      ·split
       ·rename_i hl;refine ic.cons ⟨Nat.zero_le _,?_⟩ (rQ h9 hW d _ l _ _ _);have hi:(aH (da l 0)).2.2.2.2=true:=by
         unfold ep at hl;simp only [Bool.and_eq_true]at hl;exact hl.1
        have:=Eh (f:=f) ((um (da l 0)).2 hi);simp only;rw [bR,fv];omega
       ·split
        ·refine ic.one ⟨?_,Nat.zero_le _⟩;simp only;rw [mZ];exact jw (List.take_sublist _ _)
        ·have h1:=si f d l [] 0;have h2:=rS f (dc d l [] 0).1;have h3:=gC (f:=f) (gI aM (dJ (dc d l [] 0).1));rw [fP]at h1;split
         ·exact ic.one ⟨by simp only;omega,Nat.zero_le _⟩
         ·exact ic.one ⟨by simp only;omega,Nat.zero_le _⟩
theorem xP {f:UInt8 ->Nat} (h9:4*f 32 <= f 9) {W:Nat ->List (List UInt8) ->List aI} (hW:∀d l,ic f (el f l) (W d l)):∀n d l,ic f (el f l) (dO W n d l)
 |0,d,l=>ic.nil _ _
 |n+1,d,l=>by
  rw [dO];split
  ·exact ic.nil _ _
  ·exact ic.app (BZ h9 hW d l) ((xP h9 hW n d _).mono (jw (List.drop_sublist _ _)))
theorem oA {f:UInt8 ->Nat} (h9:4*f 32 <= f 9):∀k d l,ic f (el f l) (eV k d l)
 |0,d,l=>ic.nil _ _
 |k+1,d,l=>by
  rw [eV];exact xP h9 (oA h9 k) _ d l
theorem pP {f:UInt8 ->Nat} (h9:4*f 32 <= f 9) (l:List (List UInt8)):ic f (el f l) (gh l):=oA h9 14 0 l
theorem CD (s:List UInt8) (h:(al s).2≠0):bh (al s).1.label=true:=by
 unfold al at h⊢;simp only at h⊢;by_cases h1:Lib.hasPrefix s [123,124]=false
 ·rw [if_pos h1]at h;exact absurd rfl h
 ·rw [if_neg h1]at h⊢;by_cases h2:(az 58 (Lib.trimPrefix s [123,124])).2.2=false∨bh (az 58 (Lib.trimPrefix s [123,124])).1=false
  ·rw [if_pos h2]at h;exact absurd rfl h
  ·rw [if_neg h2]at h⊢;cases hc:eR 124 125 (az 58 (Lib.trimPrefix s [123,124])).2.1 with
   |none=>rw [hc]at h;exact absurd rfl h
   |some x=>
    simp only;cases hl:bh (az 58 (Lib.trimPrefix s [123,124])).1 with
    |true=>rfl
    |false=>exact absurd (Or.inr hl) h2
theorem kh {x:List UInt8} (h:bh x=true):1 <= x.length∧x.length <= 40:=by
 unfold bh at h;simp only [Bool.and_eq_true,decide_eq_true_eq,bne_iff_ne,ne_eq]at h;exact ⟨by cases x with|nil=>exact absurd rfl h.1.2|cons=>simp,h.2⟩
theorem gp (s:List UInt8) (h:(al s).2≠0):6 <= (al s).2∧(al s).2 <= s.length∧(al s).1.span=true∧(al s).1.text.length <= s.length:=by
 obtain ⟨_,h2,_,_,l,t,h3,h4⟩:=su s h;have h5:=(kh (CD s h)).1;rw [h3]at h5⊢;simp only at h5⊢;exact ⟨by omega,h2,trivial,by omega⟩
def gG (f:UInt8 ->Nat) (k:Nat) (p:ai):Nat:=if p.span then k else ms f p.text
def gN (f:UInt8 ->Nat) (k:Nat) (l:List ai):Nat:=(l.map (gG f k)).sum
theorem iP (f:UInt8 ->Nat) (k:Nat) (p:ai) (l:List ai):gN f k (p::l)=gG f k p+gN f k l:=by simp [gN]
theorem CF (f:UInt8 ->Nat) (k:Nat) (a b:List ai):gN f k (a++b)=gN f k a+gN f k b:=by simp [gN]
theorem BQ {h:UInt8 ->Nat} {m:Nat} (hm:∀c,m <= h c):∀s:List UInt8,m*s.length <= ms h s
 |[]=>by simp
 |c::s=>by
  have:=BQ hm s;have:=hm c;rw [bR,List.length_cons,Nat.mul_succ];omega
theorem mp {f h:UInt8 ->Nat} {k m:Nat} (hm:∀c,m <= h c) (hk:k <= 6*m):∀(n:Nat) (s acc:List UInt8),(∀c∈s,f c <= h c) ->gN f k (bD n s acc) <= ms f acc+ms h s
 |0,s,acc,_=>Nat.zero_le _
 |n+1,s,acc,hs=>by
  have hg:gN f k (if acc=[]then []else [(⟨false,[],acc⟩:ai)]) <= ms f acc:=by
   split
   ·exact Nat.zero_le _
   ·simp [gN,gG]
  cases s with
  |nil=>rw [bD];try dsimp only
        rw [fv];omega
  |cons c t=>
   rw [bD];try dsimp only
   split
   ·have:=mp hm hk n t (acc++[c]) (fun d hd=>hs d (List.mem_cons_of_mem _ hd));rw [jm,bR,fv]at this;have:=hs c (List.mem_cons_self ..);rw [bR];omega
   ·rename_i h0;obtain ⟨h6,hl,hsp,_⟩:=gp (c::t) h0;have ih:=mp hm hk n ((c::t).drop (al (c::t)).2) [] (fun d hd=>hs d (List.mem_of_mem_drop hd));rw [fv]at ih;have h1:ms h (c::t)=ms h ((c::t).take (al (c::t)).2)+ms h ((c::t).drop (al (c::t)).2):=(by rw [<- jm,List.take_append_drop]);have h2:=BQ hm ((c::t).take (al (c::t)).2);rw [List.length_take,Nat.min_eq_left hl]at h2;have h3:m*6 <= m*(al (c::t)).2:=Nat.mul_le_mul_left m h6;have h4:gG f k (al (c::t)).1=k:=(by unfold gG;rw [hsp];rfl);rw [CF,iP,h4];omega
theorem qF {f h:UInt8 ->Nat} {k m:Nat} (hm:∀c,m <= h c) (hk:k <= 6*m) (s:List UInt8) (hs:∀c∈s,f c <= h c):gN f k (bX s) <= ms h s:=by
 have:=mp hm hk (s.length+1) s [] hs;rw [fv]at this;unfold bX;omega
theorem kA:∀(n:Nat) (s acc:List UInt8),∀p∈bD n s acc,p.text.length <= acc.length+s.length
 |0,s,acc,p,hp=>by simp [bD]at hp
 |n+1,s,acc,p,hp=>by
  have hg:p∈(if acc=[]then []else [(⟨false,[],acc⟩:ai)]) ->p.text.length <= acc.length:=by
   split
   ·intro h;cases h
   ·intro h;simp at h;rw [h];exact Nat.le_refl _
  cases s with
  |nil=>
   rw [bD]at hp;try dsimp only at hp
   have:=hg hp;simp;omega
  |cons c t=>
   rw [bD]at hp;try dsimp only at hp
   split at hp
   ·have:=kA n t (acc++[c]) p hp;simp at this⊢;omega
   ·rename_i h0;obtain ⟨h6,hl,hsp,ht⟩:=gp (c::t) h0;rcases List.mem_append.1 hp with hp|hp
    ·have:=hg hp;omega
    ·rcases List.mem_cons.1 hp with rfl|hp
     ·omega
     ·have:=kA n _ [] p hp;simp at this⊢;omega
theorem oa {s:List UInt8} {p:ai} (hp:p∈bX s):p.text.length <= s.length:=by
 have:=kA _ _ _ p hp;simpa using this
theorem rB (n:Nat):∀c∈Lib.decDigits n,48 <= c.toNat∧c.toNat <= 57:=by
 induction n using Nat.strongRecOn with
 |_ n ih=>
  intro c hc;rw [Lib.decDigits]at hc;split at hc
  ·rename_i h;have e:c=UInt8.ofNat (48+n):=(by simpa using hc);rw [e,UInt8.toNat_ofNat'];omega
  ·rename_i h;rcases List.mem_append.1 hc with hc|hc
   ·exact ih (n / 10) (by omega) c hc
   ·have e:c=UInt8.ofNat (48+n % 10):=(by simpa using hc);rw [e,UInt8.toNat_ofNat'];omega
theorem lW:∀(k n:Nat),n<10 ^ (k+1) ->(Lib.decDigits n).length <= k+1
 |0,n,h=>by rw [Lib.decDigits,dif_pos (by simpa using h)];simp
 |k+1,n,h=>by
  rw [Lib.decDigits];split
  ·simp
  ·have:=lW k (n / 10) (by rw [Nat.pow_succ]at h;omega);simp only [List.length_append,List.length_cons,List.length_nil];omega
theorem r9 {f:UInt8 ->Nat} {b:Nat}:∀(s:List UInt8),(∀c∈s,f c <= b) ->ms f s <= b*s.length
 |[],_=>by simp [fv]
 |c::s,h=>by
  have:=r9 s (fun d hd=>h d (List.mem_cons_of_mem _ hd));have:=h c (List.mem_cons_self ..);rw [bR,List.length_cons,Nat.mul_succ];omega
structure vR (f h:UInt8 ->Nat) (b m:Nat):Prop where
 dig:∀c:UInt8,48 <= c.toNat ->c.toNat <= 57 ->f c <= b
 low:∀c,m <= h c
 six:2*f 0+b*10 <= 6*m
 nl:f 10 <= h 10
theorem vR.atom {f h:UInt8 ->Nat} {b m:Nat} (H:vR f h b m) (n:Nat) (hn:n <= 1000000000):ms f (0::(Lib.decDigits n++[0])) <= 6*m:=by
 have h1:=lW 9 n (by omega);have h2:=r9 (f:=f) (b:=b) (Lib.decDigits n) (fun c hc=>H.dig c (rB n c hc).1 (rB n c hc).2);have h3:b*(Lib.decDigits n).length <= b*10:=Nat.mul_le_mul_left b h1;have:=H.six;rw [bR,jm,bR,fv];omega
def cF (_:UInt8):Nat:=1
theorem di (s:List UInt8):ms cF s=s.length:=by
 induction s with
 |nil=>rfl
 |cons c s ih=>rw [bR,ih,List.length_cons,cF];omega
theorem fS (z:aS) (b:am) (x:List UInt8):(b.label z x).atoms=b.atoms∧(b.label z x).blocks=b.blocks∧(b.label z x).defs=b.defs∧(b.label z x).tab=b.tab∧(b.label z x).diags.length <= b.diags.length+1:=by
 unfold am.label;split
 ·simp [am.diag]
 ·simp
structure iT (M:Nat) (b b':am) (n:Nat):Prop where
 bl:b'.blocks=b.blocks
 df:b'.defs=b.defs
 tb:b'.tab=b.tab
 na:b'.atoms.length <= b.atoms.length+n
 ng:b'.diags.length <= b.diags.length+n
 tx:(∀a∈b.atoms,a.text.length <= M) ->∀a∈b'.atoms,a.text.length <= M
theorem iT.refl (M:Nat) (b:am) (n:Nat):iT M b b n:=⟨rfl,rfl,rfl,by omega,by omega,fun h=>h⟩
theorem iT.trans {M:Nat} {a b c:am} {n m k:Nat} (h:iT M a b n) (h2:iT M b c m) (hk:n+m <= k):iT M a c k:=
 ⟨h2.bl.trans h.bl,h2.df.trans h.df,h2.tb.trans h.tb,by have:=h.na;have:=h2.na;omega,by have:=h.ng;have:=h2.ng;omega,fun q=>h2.tx (h.tx q)⟩
theorem iT.label (M:Nat) (z:aS) (b:am) (x:List UInt8):iT M b (b.label z x) 1:=by
 obtain ⟨h1,h2,h3,h4,h5⟩:=fS z b x;exact ⟨h2,h3,h4,by rw [h1];omega,h5,fun h=>by rw [h1];exact h⟩
theorem qv (M:Nat) (z:aS) (under:List (List UInt8)) (q:List UInt8×am) (p:ai) (hp:p.text.length <= M):iT M q.2 (dd z under q p).2 (if p.span then 1 else 0):=by
 unfold dd;by_cases h:p.span=false
 ·rw [if_pos h];exact iT.refl _ _ _
 ·have h':p.span=true:=(by simpa using h);rw [if_neg h,h'];split
  ·obtain ⟨h1,h2,h3,h4,h5⟩:=fS z q.2 p.label;refine ⟨h2,h3,h4,by simp [h1],by simpa using h5,fun ha a hx=>?_⟩;simp only [h1]at hx;rcases List.mem_append.1 hx with hx|hx
   ·exact ha a hx
   ·rw [List.mem_singleton.1 hx];exact hp
  ·exact iT.refl _ _ _
theorem n7 (M:Nat) (z:aS) (under:List (List UInt8)):∀(l:List ai) (q:List UInt8×am),(∀p∈l,p.text.length <= M) ->iT M q.2 (l.foldl (dd z under) q).2 (gN (fun _=>0) 1 l)
 |[],q,_=>iT.refl _ _ _
 |p::l,q,h=>by
  rw [List.foldl_cons,iP];refine (qv M z under q p (h p (List.mem_cons_self ..))).trans (n7 M z under l _ (fun x hx=>h x (List.mem_cons_of_mem _ hx))) ?_;unfold gG;split<;>omega
theorem ym (s:List UInt8):ms (fun _=>0) s=0:=by
 induction s with
 |nil=>rfl
 |cons c s ih=>rw [bR,ih]
theorem fm (s:List UInt8):gN (fun _=>0) 1 (bX s) <= s.length:=by
 have:=qF (f:=fun _=>0) (h:=cF) (k:=1) (m:=1) (fun _=>Nat.le_refl _) (by omega) s (fun _ _=>Nat.zero_le _)
 rwa [di]at this
theorem mh {f h:UInt8 ->Nat} {b m:Nat} (H:vR f h b m) (z:aS) (under:List (List UInt8)):∀(l:List ai) (q:List UInt8×am),q.2.atoms.length+gN (fun _=>0) 1 l <= 1000000000 ->ms f (l.foldl (dd z under) q).1 <= ms f q.1+gN f (6*m) l
 |[],q,_=>by simp [gN]
 |p::l,q,hn=>by
  rw [iP]at hn;have h0:=qv p.text.length z under q p (Nat.le_refl _);have hn2:(if p.span=true then 1 else 0) <= gG (fun _=>0) 1 p:=(by unfold gG;split<;>omega);have ih:=mh H z under l (dd z under q p) (by have:=h0.na;omega);rw [List.foldl_cons,iP];have h1:ms f (dd z under q p).1 <= ms f q.1+gG f (6*m) p:=by
   unfold dd gG;by_cases hs:p.span=false
   ·rw [if_pos hs,hs];simp only;rw [jm];simp
   ·have hs':p.span=true:=(by simpa using hs);rw [if_neg hs,hs',if_pos rfl];split
    ·simp only;rw [jm];have:=H.atom (q.2.label z p.label).atoms.length (by rw [(fS z q.2 p.label).1];omega);omega
    ·omega
  omega
theorem kd (s:List UInt8):(aj s).1.Sublist s:=by
 unfold aj
 dsimp only
 split
 ·exact List.nil_sublist _
 ·split
  ·exact List.nil_sublist _
  ·split
   ·exact List.nil_sublist _
   ·split
    ·exact List.nil_sublist _
    ·exact (List.take_sublist _ _).trans ((List.dropLast_sublist _).trans (gI _ _))
theorem tg (M:Nat) (z:aS) (b:am) (s:List UInt8) (under:List (List UInt8)) (hs:s.length <= M):iT M b (ey z b s under).2 (s.length+1):=by
 unfold ey;split
 ·split
  ·have hl:(aj s).1.length <= s.length:=(kd s).length_le;have hc:=fm (aj s).1;have h1:=iT.label M z b (aj s).2.1;have h2:=n7 M z (under++[(aj s).2.1]) (bX (aj s).1) ([],b.label z (aj s).2.1) (fun p hp=>by
    have:=oa hp;omega)
   exact h1.trans h2 (by omega)
  ·exact iT.refl _ _ _
 ·have:=fm s;exact (n7 M z _ _ ([],b) (fun p hp=>Nat.le_trans (oa hp) hs)).trans (iT.refl M _ 1) (by omega)
theorem uA {f h:UInt8 ->Nat} {b m:Nat} (H:vR f h b m) (z:aS) (st:am) (s:List UInt8) (under:List (List UInt8)) (hs:∀c∈s,f c <= h c) (hn:st.atoms.length+s.length <= 1000000000):ms f (ey z st s under).1 <= ms h s:=by
 unfold ey;split
 ·split
  ·have hl:=kd s;have hll:=hl.length_le;have h1:=mh H z (under++[(aj s).2.1]) (bX (aj s).1) ([],st.label z (aj s).2.1) (by simp only;rw [(fS z st _).1];have:=fm (aj s).1;omega);have h2:=qF (f:=f) (h:=h) H.low (Nat.le_refl (6*m)) (aj s).1 (fun c hc=>hs c (hl.subset hc));have h3:=gC (f:=h) hl;simp only at h1;rw [fv]at h1;omega
  ·exact Nat.zero_le _
 ·have h1:=mh H z under (bX s) ([],st) (by simp only;have:=fm s;omega);have h2:=qF (f:=f) (h:=h) H.low (Nat.le_refl (6*m)) s hs;simp only at h1;rw [fv]at h1;omega
theorem qp (M:Nat) (z:aS) (under:List (List UInt8)):∀(l:List (List UInt8)) (b:am),(∀s∈l,s.length <= M) ->iT M b (db z under l b).2 (el cF l)
 |[],b,_=>iT.refl _ _ _
 |s::t,b,h=>by
  rw [db]
  dsimp only
  rw [aB,di];exact (tg M z b s under (h s (List.mem_cons_self ..))).trans (qp M z under t _ (fun x hx=>h x (List.mem_cons_of_mem _ hx))) (by simp [cF])
theorem nX (z:aS) (under:List (List UInt8)):∀(l:List (List UInt8)) (b:am),(db z under l b).1.length=l.length
 |[],b=>rfl
 |s::t,b=>by rw [db];dsimp only;rw [List.length_cons,List.length_cons,nX z under t]
theorem kW {f h:UInt8 ->Nat} {b m:Nat} (H:vR f h b m) (z:aS) (under:List (List UInt8)):∀(l:List (List UInt8)) (st:am),(∀s∈l,∀c∈s,f c <= h c) ->st.atoms.length+el cF l <= 1000000000 ->el f (db z under l st).1 <= el h l
 |[],st,_,_=>Nat.le_refl _
 |s::t,st,hs,hn=>by
  rw [aB,di]at hn;rw [db]
  dsimp only
  rw [aB,aB];have h1:=uA H z st s under (hs s (List.mem_cons_self ..)) (by omega);have h2:=(tg s.length z st s under (Nat.le_refl _)).na;have h3:cF 10=1:=rfl;have h4:=kW H z under t (ey z st s under).2 (fun x hx=>hs x (List.mem_cons_of_mem _ hx)) (by omega);have:=H.nl;omega
end Go.Proofs.YtcannffahjbjnaaGreatDoor
namespace Go.Proofs.YtcannffahjbjnaaGreatDoor
def fW (c:UInt8):Nat:=if c=9 then 4 else 1
def hW (c:UInt8):Nat:=5*fW c
def fZ (c:UInt8):Nat:=if c=0 then 1 else 0
theorem Dk:4*fW 32 <= fW 9:=by decide
theorem Dl:4*fZ 32 <= fZ 9:=by decide
theorem lY (c:UInt8):1 <= fW c∧fW c <= 4:=by unfold fW;split<;>omega
theorem CV:vR fW hW 1 5:=
 ⟨fun c h1 h2=>by
  unfold fW;split
  ·rename_i h;subst h;exact absurd h1 (by decide)
  ·exact Nat.le_refl _,fun c=>by have:=(lY c).1;unfold hW;omega,by decide,by decide⟩
theorem EX:vR fZ cF 0 1:=
 ⟨fun c h1 h2=>by
  unfold fZ;split
  ·rename_i h;subst h;exact absurd h1 (by decide)
  ·exact Nat.le_refl _,fun c=>Nat.le_refl _,by decide,by decide⟩
theorem BS {f h:UInt8 ->Nat} {k:Nat} (hf:∀c,f c <= k*h c):∀s:List UInt8,ms f s <= k*ms h s
 |[]=>by simp [fv]
 |c::s=>by
  have:=BS hf s;have:=hf c;rw [bR,bR,Nat.mul_add];omega
theorem xC {f h:UInt8 ->Nat} {k:Nat} (hf:∀c,f c <= k*h c):∀l:List (List UInt8),el f l <= k*el h l
 |[]=>by simp [fP]
 |x::l=>by
  have:=xC hf l;have:=BS hf x;have:=hf 10;rw [aB,aB,Nat.mul_add,Nat.mul_add];omega
theorem wO {f:UInt8 ->Nat} (hf:∀c,1 <= f c) (s:List UInt8):s.length <= ms f s:=by
 have:=BQ hf s;omega
theorem Dj (r:Int):(Lib.encodeRune r).length <= 4:=by
 unfold Lib.encodeRune Lib.encodeRuneZ;rw [List.length_map]
 repeat' split
 all_goals simp
theorem np:∀(f:Nat) (s:List UInt8) (i:Nat),(bQ f s i).length <= 4*(s.length - i)
 |0,s,i=>Nat.zero_le _
 |f+1,s,i=>by
  rw [bQ];split
  ·exact Nat.zero_le _
  ·rename_i h;have h1:=np f s (i+(Lib.decodeL (s.drop i)).2);have h2:=Lib.decodeL_width (s.drop i)
   dsimp only
   rw [List.length_append];have h3:(if (Lib.decodeL (s.drop i)).1=0∨(Lib.decodeL (s.drop i)).1=65533 then iW else if (Lib.decodeL (s.drop i)).1=13 then [10]else if (Lib.decodeL (s.drop i)).1=10∧0<i∧s[i - 1]? =some 13 then []else Lib.encodeRune ((Lib.decodeL (s.drop i)).1:Int)).length <= 4:=by
    repeat' split
    ·decide
    ·simp
    ·simp
    ·exact Dj _
   omega
theorem mj (s:List UInt8):(aR s).length <= 4*s.length:=by
 have:=np s.length s 0;unfold aR;omega
theorem kX (f:UInt8 ->Nat):∀s:List UInt8,el f (aO s) <= ms f s+f 10
 |[]=>Nat.zero_le _
 |c::t=>by
  have ih:=kX f t;rw [aO,bR];split
  ·rename_i h;subst h;rw [aB,fv];omega
  ·split
   ·rename_i hl;rw [aB,fP,bR,fv];omega
   ·rename_i x xs hl;rw [hl,aB]at ih;rw [aB,bR];omega
def ec (g:af ->Nat) (l:List af):Nat:=(l.map g).sum
theorem cW (g:af ->Nat) (p:af) (l:List af):ec g (p::l)=g p+ec g l:=by simp [ec]
theorem nA (g:af ->Nat) (a b:List af):ec g (a++b)=ec g a+ec g b:=by simp [ec]
theorem nB (g:af ->Nat) (u:af ->af) (n:Nat) (hu:∀p,g (u p) <= g p+n):∀(l:List af) (k:Nat),ec g (l.modify k u) <= ec g l+n
 |[],k=>by simp [ec]
 |p::l,0=>by
  rw [List.modify_zero_cons,cW,cW];have:=hu p;omega
 |p::l,k+1=>by
  rw [List.modify_succ_cons,cW,cW];have:=nB g u n hu l k;omega
def wP (f:UInt8 ->Nat) (k:Nat) (p:af):Nat:=el f p.lines+k
theorem qc (f:UInt8 ->Nat) (k:Nat) (st:eM) (s:List UInt8):ec (wP f k) (ag st s).out <= ec (wP f k) st.out+(ms f s+f 10)+k:=by
 unfold ag;split
 ·simp only;rw [nA,cW];simp [ec,wP,fP];try omega
 ·split
  ·simp only;have:=nB (wP f k) (fun p=>{p with opn:=false}) 0 (fun p=>Nat.le_refl _) st.out (st.inn.getLast?.getD 0);omega
  ·split
   ·simp only;have:=nB (wP f k) (fun p=>{p with lines:=p.lines++[s]}) (ms f s+f 10) (fun p=>by unfold wP;simp only;rw [nD,aB,fP];omega) st.out (st.out.length - 1);omega
   ·simp only;rw [nA,cW];simp [ec,wP,aB,fP];try omega
theorem j8 (f:UInt8 ->Nat) (k:Nat):∀(l:List (List UInt8)) (st:eM),ec (wP f k) (l.foldl ag st).out <= ec (wP f k) st.out+el f l+k*l.length
 |[],st=>by simp
 |s::l,st=>by
  have h1:=j8 f k l (ag st s);have h2:=qc f k st s;rw [List.foldl_cons,aB,List.length_cons,Nat.mul_succ];omega
theorem kQ (f:UInt8 ->Nat) (k:Nat) (l:List (List UInt8)):ec (wP f k) (bF l) <= el f l+k*l.length:=by
 have:=j8 f k l ⟨[],[],false⟩;simp [ec]at this⊢;exact this
theorem jl {α:Type} {Q:α ->Prop} {u:α ->α} (hu:∀x,Q x ->Q (u x)):∀(l:List α) (k:Nat),(∀x∈l,Q x) ->∀x∈l.modify k u,Q x
 |[],k,h,x,hx=>by simp at hx
 |y::l,0,h,x,hx=>by
  rw [List.modify_zero_cons]at hx;rcases List.mem_cons.1 hx with rfl|hx
  ·exact hu y (h y (List.mem_cons_self ..))
  ·exact h x (List.mem_cons_of_mem _ hx)
 |y::l,k+1,h,x,hx=>by
  rw [List.modify_succ_cons]at hx;rcases List.mem_cons.1 hx with rfl|hx
  ·exact h x (List.mem_cons_self ..)
  ·exact jl hu l k (fun z hz=>h z (List.mem_cons_of_mem _ hz)) x hx
theorem qb {Q:af ->Prop} (s:List UInt8) (h1:∀d,(bf s).2=true ->Q ⟨d,true,(bf s).1,true,[]⟩) (h2:∀d,Q ⟨d,false,[],false,[s]⟩) (h3:∀p,Q p ->Q {p with opn:=false}) (h4:∀p,Q p ->Q {p with lines:=p.lines++[s]}) (st:eM) (h:∀p∈st.out,Q p):∀p∈(ag st s).out,Q p:=by
 unfold ag;split
 ·rename_i ho;intro p hp;rcases List.mem_append.1 hp with hp|hp
  ·exact h p hp
  ·rw [List.mem_singleton.1 hp];exact h1 _ ho
 ·split
  ·exact jl h3 _ _ h
  ·split
   ·exact jl h4 _ _ h
   ·intro p hp;rcases List.mem_append.1 hp with hp|hp
    ·exact h p hp
    ·rw [List.mem_singleton.1 hp];exact h2 _
theorem rI {Q:af ->Prop} (L:List (List UInt8)) (h1:∀s∈L,∀d,(bf s).2=true ->Q ⟨d,true,(bf s).1,true,[]⟩) (h2:∀s∈L,∀d,Q ⟨d,false,[],false,[s]⟩) (h3:∀p,Q p ->Q {p with opn:=false}) (h4:∀s∈L,∀p,Q p ->Q {p with lines:=p.lines++[s]}):∀p∈bF L,Q p:=by
 have go:∀(l:List (List UInt8)) (st:eM),(∀s∈l,s∈L) ->(∀p∈st.out,Q p) ->∀p∈(l.foldl ag st).out,Q p:=by
  intro l;induction l with
  |nil=>intro st _ h;exact h
  |cons s l ih=>
   intro st hl h;rw [List.foldl_cons];have hs:=hl s (List.mem_cons_self ..);exact ih _ (fun x hx=>hl x (List.mem_cons_of_mem _ hx)) (qb s (h1 s hs) (h2 s hs) h3 (h4 s hs) st h)
 exact go L ⟨[],[],false⟩ (fun s h=>h) (fun p h=>by cases h)
theorem nZ {s:List UInt8} (h:(bf s).2=true):bh (bf s).1=true:=by
 unfold bf at h⊢
 dsimp only at h⊢
 split at h
 ·cases h
 ·rename_i h1;split at h
  ·rename_i h2;rw [if_neg h1,if_pos h2];exact h
  ·cases h
theorem ud (L:List (List UInt8)):∀p∈bF L,(∀s∈p.lines,s∈L)∧(p.div=true ->bh p.label=true)∧(p.div=false ->p.label=[]):=by
 refine rI L (fun s hs d ho=>⟨fun x hx=>(by cases hx),fun _=>nZ ho,fun h=>(by cases h)⟩) (fun s hs d=>⟨fun x hx=>(by rw [List.mem_singleton.1 hx];exact hs),fun h=>(by cases h),fun _=>rfl⟩) (fun p h=>h) (fun s hs p h=>⟨fun x hx=>?_,h.2⟩);rcases List.mem_append.1 hx with hx|hx
 ·exact h.1 x hx
 ·rw [List.mem_singleton.1 hx];exact hs
def gP (n:Nat) (bs:List aI):Prop:=∀x∈bs,x.depth <= n
theorem gP.app {n:Nat} {a b:List aI} (h:gP n a) (h2:gP n b):gP n (a++b):=fun x hx=>by
 rcases List.mem_append.1 hx with hx|hx
 ·exact h x hx
 ·exact h2 x hx
theorem gP.cons {n:Nat} {a:aI} {b:List aI} (h:a.depth <= n) (h2:gP n b):gP n (a::b):=fun x hx=>by
 rcases List.mem_cons.1 hx with rfl|hx
 ·exact h
 ·exact h2 x hx
theorem gP.nil (n:Nat):gP n []:=fun x h=>by cases h
theorem rR {W:Nat ->List (List UInt8) ->List aI} {d n:Nat} (hd:d+1 <= n) (hW:∀l,gP n (W (d+2) l)) (sign:UInt8) (l:List (List UInt8)):∀f a e,gP n (bq W d sign l f a e).1
 |0,a,e=>gP.nil _
 |f+1,a,e=>by
  rw [bq];split
  ·exact gP.nil _
  ·split
   ·exact gP.nil _
   ·dsimp only
    exact gP.cons hd (gP.app (hW _) (rR hd hW sign l f _ _))
theorem B4 {W:Nat ->List (List UInt8) ->List aI} {d n:Nat} (hd:d+1 <= n) (h1:∀l,gP n (W (d+1) l)) (h2:∀l,gP n (W (d+2) l)) (l:List (List UInt8)):gP n (dq W d l).1:=by
 have hd0:d <= n:=(by omega);unfold dq
 dsimp only
 split
 ·exact gP.nil _
 ·split
  ·exact gP.cons hd0 (gP.nil _)
  ·split
   ·exact gP.cons hd0 (gP.nil _)
   ·split
    ·exact gP.cons hd0 (gP.nil _)
    ·split
     ·exact gP.cons hd0 (gP.nil _)
     ·split
      ·exact gP.cons hd0 (h1 _)
      ·split
       ·exact gP.cons hd0 (rR hd h2 _ l _ _ _)
       ·split
        ·exact gP.cons hd0 (gP.nil _)
        ·split
         ·exact gP.cons hd0 (gP.nil _)
         ·exact gP.cons hd0 (gP.nil _)
theorem xQ {W:Nat ->List (List UInt8) ->List aI} {d n:Nat} (hd:d+1 <= n) (h1:∀l,gP n (W (d+1) l)) (h2:∀l,gP n (W (d+2) l)):∀f l,gP n (dO W f d l)
 |0,l=>gP.nil _
 |f+1,l=>by
  rw [dO];split
  ·exact gP.nil _
  ·exact gP.app (B4 hd h1 h2 l) (xQ hd h1 h2 f _)
theorem jR:∀k d l,gP (d+2*k) (eV k d l)
 |0,d,l=>gP.nil _
 |k+1,d,l=>by
  rw [eV];refine xQ (by omega) (fun l x hx=>?_) (fun l x hx=>?_) _ l
  ·have:=jR k (d+1) l x hx;omega
  ·have:=jR k (d+2) l x hx;omega
theorem vX (l:List (List UInt8)):∀x∈gh l,x.depth <= 28:=jR 14 0 l
theorem js (M:Nat) (ts:List fd) (hM:∀a∈ts,a.text.length <= M):∀(f:Nat) (l:List UInt8),(bZ f l ts).length <= l.length+ms fZ l*M
 |0,l=>Nat.zero_le _
 |f+1,[]=>by simp [bZ]
 |f+1,c::l=>by
  have ih:=js M ts hM f l;rw [bZ];have h0:ms fZ l*M <= ms fZ (c::l)*M:=Nat.mul_le_mul_right _ (by rw [bR];omega);split
  ·rename_i hc;split
   ·rename_i n m hn;have hm:=(lw (l:=l) (by rw [<- hc];exact hn)).1;have h1:=js M ts hM f ((c::l).drop m);have h2:((c::l).drop m).Sublist l:=by
     obtain ⟨k,rfl⟩:∃k,m=k+1:=⟨m - 1,by omega⟩
     rw [List.drop_succ_cons];exact List.drop_sublist _ _
    have h3:=h2.length_le;have h4:=Nat.mul_le_mul_right M (gC (f:=fZ) h2);have h6:ms fZ (c::l)=1+ms fZ l:=(by rw [bR,hc];rfl);rw [h6,Nat.add_mul,Nat.one_mul,List.length_append,List.length_cons];cases ha:ts[n]? with
    |none=>simp only [List.length_nil];omega
    |some a=>
     have:=hM a (List.mem_of_getElem? ha);simp only;omega
   ·rw [List.length_cons,List.length_cons];omega
  ·rw [List.length_cons,List.length_cons];omega
theorem xm {M:Nat} {ts:List fd} (hM:∀a∈ts,a.text.length <= M) (l:List UInt8):(aG l ts).length <= l.length+ms fZ l*M:=js M ts hM _ l
theorem x7 (c:UInt8) (l:List UInt8):(az c l).1.Sublist l∧(az c l).2.1.Sublist l:=by
 unfold az Lib.cut;split
 ·exact ⟨List.take_sublist _ _,List.drop_sublist _ _⟩
 ·exact ⟨List.Sublist.refl _,List.nil_sublist _⟩
theorem sY {l:List UInt8} (h:l≠[]):(az 10 l).2.1.length<l.length:=by
 have hl:=List.length_pos_iff.2 h;unfold az Lib.cut;split
 ·simp only [List.length_drop,List.length_cons,List.length_nil];omega
 ·simp only [List.length_nil];omega
structure nK (b b':am) (n:Nat):Prop where
 bl:b'.blocks=b.blocks
 at':b'.atoms=b.atoms
 nd:b'.defs.length <= b.defs.length+n
 nt:b'.tab.length <= b.tab.length+n
 ng:b'.diags.length <= b.diags.length+n
theorem nK.refl (b:am) (n:Nat):nK b b n:=⟨rfl,rfl,by omega,by omega,by omega⟩
theorem nK.trans {a b c:am} {n m k:Nat} (h:nK a b n) (h2:nK b c m) (hk:n+m <= k):nK a c k:=
 ⟨h2.bl.trans h.bl,h2.at'.trans h.at',by have:=h.nd;have:=h2.nd;omega,by have:=h.nt;have:=h2.nt;omega,by have:=h.ng;have:=h2.ng;omega⟩
theorem pu:∀(f:Nat) (b:am) (t:List UInt8),nK b (d6 f b t).2 t.length∧(d6 f b t).1.Sublist t
 |0,b,t=>⟨nK.refl _ _,List.Sublist.refl _⟩
 |f+1,b,t=>by
  rw [d6];split
  ·exact ⟨nK.refl _ _,List.Sublist.refl _⟩
  ·rename_i ht;have hc:=sY ht;have hs:=(x7 10 t).2
   dsimp only
   split
   ·exact ⟨nK.refl _ _,List.Sublist.refl _⟩
   ·split
    ·have ih:=pu f (b.diag 4 ((if (cN (aG (az 10 t).1 b.atoms)).1.note then [94]else [])++(cN (aG (az 10 t).1 b.atoms)).1.name)) (az 10 t).2.1;have h1:nK b (b.diag 4 ((if (cN (aG (az 10 t).1 b.atoms)).1.note then [94]else [])++(cN (aG (az 10 t).1 b.atoms)).1.name)) 1:=⟨rfl,rfl,by simp [am.diag],by simp [am.diag],by simp [am.diag]⟩
     exact ⟨h1.trans ih.1 (by omega),ih.2.trans hs⟩
    ·have ih:=pu f {b with tab:=b.tab++[(cN (aG (az 10 t).1 b.atoms)).1],defs:=b.defs++[(cN (aG (az 10 t).1 b.atoms)).1]} (az 10 t).2.1;have h1:nK b {b with tab:=b.tab++[(cN (aG (az 10 t).1 b.atoms)).1],defs:=b.defs++[(cN (aG (az 10 t).1 b.atoms)).1]} 1:=⟨rfl,rfl,by simp,by simp,by simp⟩
     exact ⟨h1.trans ih.1 (by omega),ih.2.trans hs⟩
theorem iM:∀(f g:Nat) (b:am) (t:List UInt8),t.length<f ->t.length<g ->d6 f b t=d6 g b t
 |0,g,b,t,h,_=>by omega
 |f+1,0,b,t,_,h=>by omega
 |f+1,g+1,b,t,hf,hg=>by
  rw [d6,d6];split
  ·rfl
  ·rename_i ht;have hc:=sY ht
   dsimp only
   split
   ·rfl
   ·split
    ·exact iM f g _ _ (by omega) (by omega)
    ·exact iM f g _ _ (by omega) (by omega)
end Go.Proofs.YtcannffahjbjnaaGreatDoor
namespace Go.Proofs.YtcannffahjbjnaaGreatDoor
open Go.RowKit
def kR (rest:List UInt8):List UInt8×List UInt8×Bool:=
 match ev 123 61 rest with
 |none=>([],[],false)
 |some at'=>
  if bh (rest.drop (at'+2))=false then ([],[],false)
  else
   if 3<(rest.take at').length - ((rest.take at').dropWhile (·==32)).length∨((rest.take at').dropWhile (·==32)).length - (((rest.take at').dropWhile (·==32)).dropWhile (·==35)).length<1∨6<((rest.take at').dropWhile (·==32)).length - (((rest.take at').dropWhile (·==32)).dropWhile (·==35)).length∨(((rest.take at').dropWhile (·==32)).dropWhile (·==35)).head? ≠some 32 then ([],[],false)
   else (rest.take at',rest.drop (at'+2),true)
theorem uj {s:List UInt8} {Y:List UInt8} (h:bW s=Y):aj s=if Y.getLast? ≠some 125 then ([],[],false)else kR Y.dropLast:=by
 subst h;unfold aj kR;rfl
theorem ui (l:List UInt8) (c:UInt8):Lib.hasPrefix l [c]=decide (l.head? =some c):=by
 cases l with
 |nil=>rfl
 |cons x t=>
  unfold Lib.hasPrefix;simp only [List.isPrefixOf,List.head?_cons,Option.some.injEq,Bool.and_true];rw [Bool.eq_iff_iff,beq_iff_eq,decide_eq_true_eq];exact eq_comm
theorem mQ (s:ByteArray) (w:World) (hs:s.size <= 1000000000):
  Calls Tryz.prog 76 #[.string s] w fun e w'=>e=.returned (.tuple #[.string ⟨(aj s.data.toList).1.toArray⟩,.string ⟨(aj s.data.toList).2.1.toArray⟩,.bool (aj s.data.toList).2.2])∧Below w.heap.size w w':=by
 have ht:=fun W=>qM s 32 (by decide) W hs;have hXz:=iN (·==32) s.data.toList;obtain ⟨X,hX⟩:∃X:ByteArray,(⟨(aD (·==32) s.data.toList).toArray⟩:ByteArray)=X:=⟨_,rfl⟩
 have hXl:bW s.data.toList=X.data.toList:=(by rw [<- hX];rfl);rw [hX]at ht;rw [show aD (·==32) s.data.toList=X.data.toList from hXl,<- Lib.size_eq,<- Lib.size_eq]at hXz;have hv:=uj hXl;have hq:=fun W=>Tryz.strings_CutSuffix X ⟨#[125]⟩ W (by omega);rw [show (ByteArray.mk #[125]).data.toList=[125]from rfl]at hq;have hsf:=qH X.data.toList 125;have HT:=zh ht;clear ht hX hXl;by_cases hl:X.data.toList.getLast? =some 125
 ·rw [if_neg (by simpa using hl)]at hv;have hts:=hsf.2 hl;have hhs:=hsf.1;rw [decide_eq_true hl]at hhs;rw [hhs,hts]at hq;obtain ⟨R,hR⟩:∃R:ByteArray,(⟨X.data.toList.dropLast.toArray⟩:ByteArray)=R:=⟨_,rfl⟩
  have hRl:X.data.toList.dropLast=R.data.toList:=(by rw [<- hR]);have hRz:R.size <= X.size:=(by rw [Lib.size_eq,Lib.size_eq,<- hRl];simp);rw [hR]at hq;rw [hRl]at hv;have hli:=fun W=>Tryz.strings_LastIndex R ⟨#[123,61]⟩ (by omega) W;rw [show (ByteArray.mk #[123,61]).data.toList=[123,61]from rfl,rg]at hli;have HQS:=zh hq;clear hq hhs hts hl hsf hR hRl;cases h2:ev 123 61 R.data.toList with
  |none=>
   rw [h2]at hli;simp only at hli;have HQ:=zh (show aj s.data.toList=([],[],false) by rw [hv];unfold kR;rw [h2]);have HLI:=zh hli;clear hli hv h2;go_enter Tryz.func76,Tryz.ntmps76
   go_wp2_with fail;refine (HT.out _).mono ?_;rintro e w2 ⟨rfl,hw2⟩;obtain rfl:=hw2.symm;go_wp2_with fail;refine (HQS.out _).mono ?_;rintro e w3 ⟨rfl,hw3⟩;obtain rfl:=hw3.symm;go_wp2_with fail;refine (HLI.out _).mono ?_;rintro e w4 ⟨rfl,hw4⟩;obtain rfl:=hw4.symm;go_wp2_with fail;refine bodyPost_ret (v:=.tuple #[.string ⟨#[]⟩,.string ⟨#[]⟩,.bool false]) (by simp [results,Tryz.results76,go_sem]) rfl ⟨(by rw [HQ.out];try rfl),(Below.refl _ _)⟩
  |some k=>
   rw [h2]at hli;simp only at hli;have hk:=ti (jh 123 61 R.data.toList k h2).1;rw [<- Lib.size_eq]at hk;obtain ⟨L,hL⟩:∃L:ByteArray,R.extract (k+2) R.size=L:=⟨_,rfl⟩
   have hLl:R.data.toList.drop (k+2)=L.data.toList:=(by rw [<- hL,Lib.extract_to_end]);have hLz:L.size <= R.size:=(by rw [<- hL];simp);obtain ⟨A,hA⟩:∃A:ByteArray,R.extract 0 k=A:=⟨_,rfl⟩
   have hAl:R.data.toList.take k=A.data.toList:=(by rw [<- hA,Lib.extract_data];simp);have hAz:A.size <= R.size:=(by rw [<- hA];simp;omega);have hx:=fun W=>Tryz.strings_TrimLeft_one A 32 (by decide) W;obtain ⟨X2,hX2⟩:∃X:ByteArray,(⟨(Lib.trimLeftB A.data.toList 32).toArray⟩:ByteArray)=X:=⟨_,rfl⟩
   have hX2l:A.data.toList.dropWhile (·==32)=X2.data.toList:=(by rw [<- hX2];rfl);have hX2z:X2.size <= A.size:=(by rw [Lib.size_eq,Lib.size_eq,<- hX2l];exact (List.dropWhile_sublist _).length_le);rw [hX2]at hx;have hy:=fun W=>Tryz.strings_TrimLeft_one X2 35 (by decide) W;obtain ⟨Y2,hY2⟩:∃X:ByteArray,(⟨(Lib.trimLeftB X2.data.toList 35).toArray⟩:ByteArray)=X:=⟨_,rfl⟩
   have hY2l:X2.data.toList.dropWhile (·==35)=Y2.data.toList:=(by rw [<- hY2];rfl);have hY2z:Y2.size <= X2.size:=(by rw [Lib.size_eq,Lib.size_eq,<- hY2l];exact (List.dropWhile_sublist _).length_le);rw [hY2]at hy;have hpf:=fun W=>Tryz.strings_HasPrefix Y2 ⟨#[32]⟩ W;rw [show (ByteArray.mk #[32]).data.toList=[32]from rfl,ui]at hpf;have hla:=fun W=>kV L W (by omega);have hv2:aj s.data.toList=if bh L.data.toList=false then ([],[],false)else if 3<A.size - X2.size∨X2.size - Y2.size<1∨6<X2.size - Y2.size∨Y2.data.toList.head? ≠some 32 then ([],[],false)else (A.data.toList,L.data.toList,true):=by
    rw [hv];unfold kR;rw [h2];simp only;rw [hLl,hAl,hX2l,hY2l];simp only [<- Lib.size_eq]
   obtain ⟨B,hB⟩:∃B,bh L.data.toList=B:=⟨_,rfl⟩
   rw [hB]at hla hv2;have HLI:=zh hli;have HLA:=zh hla;have HX:=zh hx;have HY:=zh hy;have HPF:=zh hpf;have HV:=zh hv2;have hk0:¬(k:Int)<0:=(by omega);have hk2:(k:Int)+2 <= (R.size:Int):=(by omega);clear hli hla hx hy hpf hv hv2 h2 hLl hAl hX2 hX2l hY2 hY2l hB;cases B
   ·have HQ:=zh (show aj s.data.toList=([],[],false) by rw [HV.out,if_pos rfl]);go_enter Tryz.func76,Tryz.ntmps76
    go_wp2_with fail;refine (HT.out _).mono ?_;rintro e w2 ⟨rfl,hw2⟩;obtain rfl:=hw2.symm;go_wp2_with fail;refine (HQS.out _).mono ?_;rintro e w3 ⟨rfl,hw3⟩;obtain rfl:=hw3.symm;go_wp2_with fail;refine (HLI.out _).mono ?_;rintro e w4 ⟨rfl,hw4⟩;obtain rfl:=hw4.symm;go_wp2_with fail;refine (HLA.out _).mono ?_;rintro e w5 ⟨rfl,b5⟩;go_wp2_with fail;refine bodyPost_ret (v:=.tuple #[.string ⟨#[]⟩,.string ⟨#[]⟩,.bool false]) (by simp [results,Tryz.results76,go_sem]) rfl ⟨(by rw [HQ.out];try rfl),b5⟩
   ·go_enter Tryz.func76,Tryz.ntmps76
    go_wp2_with fail;refine (HT.out _).mono ?_;rintro e w2 ⟨rfl,hw2⟩;obtain rfl:=hw2.symm;go_wp2_with fail;refine (HQS.out _).mono ?_;rintro e w3 ⟨rfl,hw3⟩;obtain rfl:=hw3.symm;go_wp2_with fail;refine (HLI.out _).mono ?_;rintro e w4 ⟨rfl,hw4⟩;obtain rfl:=hw4.symm;go_wp2_with fail;refine (HLA.out _).mono ?_;rintro e w5 ⟨rfl,b5⟩;have HB5:=zh b5;clear b5;go_wp2_with fail;refine (HX.out _).mono ?_;rintro e w6 ⟨rfl,hw6⟩;obtain rfl:=hw6.symm;go_wp2_with fail;refine (HY.out _).mono ?_;rintro e w7 ⟨rfl,hw7⟩;obtain rfl:=hw7.symm;obtain ⟨n1,hn1⟩:∃n,A.size - X2.size=n:=⟨_,rfl⟩
    obtain ⟨n2,hn2⟩:∃n,X2.size - Y2.size=n:=⟨_,rfl⟩
    have hv3:=HV.out;rw [hn1,hn2]at hv3;have hw1:wrap64 ((A.size:Int) - (X2.size:Int))=(n1:Int):=by
     rw [IntWalk.wrap64_in _ (by omega)];omega
    have hw2:wrap64 ((X2.size:Int) - (Y2.size:Int))=(n2:Int):=by
     rw [IntWalk.wrap64_in _ (by omega)];omega
    have HV3:=zh hv3;clear HV hv3;by_cases c1:3<n1
    ·have q1:(3:Int)<(A.size:Int) - (X2.size:Int):=(by omega);have HQ:=zh (show aj s.data.toList=([],[],false) by rw [HV3.out,if_neg (by simp),if_pos (Or.inl c1)]);go_wp2_with fail;refine bodyPost_ret (v:=.tuple #[.string ⟨#[]⟩,.string ⟨#[]⟩,.bool false]) (by simp [results,Tryz.results76,go_sem]) rfl ⟨(by rw [HQ.out];try rfl),HB5.out⟩
    ·have q1:¬(3:Int)<(A.size:Int) - (X2.size:Int):=(by omega);by_cases c2:n2<1
     ·have q2:(X2.size:Int) - (Y2.size:Int)<1:=(by omega);have HQ:=zh (show aj s.data.toList=([],[],false) by rw [HV3.out,if_neg (by simp),if_pos (Or.inr (Or.inl c2))]);go_wp2_with fail;refine bodyPost_ret (v:=.tuple #[.string ⟨#[]⟩,.string ⟨#[]⟩,.bool false]) (by simp [results,Tryz.results76,go_sem]) rfl ⟨(by rw [HQ.out];try rfl),HB5.out⟩
     ·have q2:¬(X2.size:Int) - (Y2.size:Int)<1:=(by omega);by_cases c3:6<n2
      ·have q3:(6:Int)<(X2.size:Int) - (Y2.size:Int):=(by omega);have HQ:=zh (show aj s.data.toList=([],[],false) by rw [HV3.out,if_neg (by simp),if_pos (Or.inr (Or.inr (Or.inl c3)))]);go_wp2_with fail;refine bodyPost_ret (v:=.tuple #[.string ⟨#[]⟩,.string ⟨#[]⟩,.bool false]) (by simp [results,Tryz.results76,go_sem]) rfl ⟨(by rw [HQ.out];try rfl),HB5.out⟩
      ·have q3:¬(6:Int)<(X2.size:Int) - (Y2.size:Int):=(by omega);go_wp2_with fail;refine (HPF.out _).mono ?_;rintro e w8 ⟨rfl,hw8⟩;obtain rfl:=hw8.symm;by_cases c4:Y2.data.toList.head? =some 32
       ·rw [decide_eq_true c4];have hcc:¬(3<n1∨n2<1∨6<n2∨Y2.data.toList.head? ≠some 32):=by
         rintro (h|h|h|h)
         ·exact c1 h
         ·exact c2 h
         ·exact c3 h
         ·exact h c4
        have HQ:=zh (show aj s.data.toList=(A.data.toList,L.data.toList,true) by rw [HV3.out,if_neg (by simp),if_neg hcc]);clear hcc;clear c1 c2 c3 c4;go_wp2_with fail;go_quiet (fail)
        go_wp2_with fail;refine bodyPost_ret (v:=.tuple #[.string A,.string L,.bool true]) (by simp [results,Tryz.results76,go_sem,hL]) rfl ⟨(by rw [HQ.out]),dm HB5.out _⟩
       ·rw [decide_eq_false c4];have HQ:=zh (show aj s.data.toList=([],[],false) by rw [HV3.out,if_neg (by simp),if_pos (Or.inr (Or.inr (Or.inr c4)))]);clear c1 c2 c3 c4;go_wp2_with fail;refine bodyPost_ret (v:=.tuple #[.string ⟨#[]⟩,.string ⟨#[]⟩,.bool false]) (by simp [results,Tryz.results76,go_sem]) rfl ⟨(by rw [HQ.out];try rfl),HB5.out⟩
 ·rw [if_pos (by simpa using hl)]at hv;have hhs:=hsf.1;rw [decide_eq_false hl]at hhs;have hts:Lib.trimSuffix X.data.toList [125]=X.data.toList:=(by unfold Lib.trimSuffix;rw [hhs];rfl);rw [hhs,hts,Lib.mk_data]at hq;have HQ:=zh hv;have HQS:=zh hq;clear hq hhs hts hl hsf hv;go_enter Tryz.func76,Tryz.ntmps76
  go_wp2_with fail;refine (HT.out _).mono ?_;rintro e w2 ⟨rfl,hw2⟩;obtain rfl:=hw2.symm;go_wp2_with fail;refine (HQS.out _).mono ?_;rintro e w3 ⟨rfl,hw3⟩;obtain rfl:=hw3.symm;go_wp2_with fail;refine bodyPost_ret (v:=.tuple #[.string ⟨#[]⟩,.string ⟨#[]⟩,.bool false]) (by simp [results,Tryz.results76,go_sem]) rfl ⟨(by rw [HQ.out];try rfl),(Below.refl _ _)⟩
theorem tQ (w:World) (k:Nat) (os:Array Obj):Below w.heap.size w (Sort.grow (w.drewN k) os):=
 ⟨rfl,rfl,rfl,by show w.heap.size <= (w.heap++os).size;rw [Array.size_append];omega,fun j hj=>by
  show (w.heap++os)[j]? =w.heap[j]?;exact Array.getElem?_append_left hj⟩
theorem BG (n:Nat) (hn:n <= 1000000000000) {w:World} (hE:qY w):
  Calls Tryz.prog 95 #[.int .i64 (n:Int)] w fun e w'=>e=.returned (.string ⟨(Lib.decDigits n).toArray⟩)∧Below w.heap.size w w':=by
 refine (Tryz.strconv_Itoa (n:Int) (by omega) (by omega) w hE.p10).mono ?_;rintro e w' ⟨rfl,k,os,rfl⟩;refine ⟨?_,tQ _ _ _⟩;unfold Lib.itoa;rw [if_neg (by omega)];rfl
theorem gm (w:World) (xs:List Value) (T:TypeId) (size m b:Nat) (hb:b=w.heap.size) (hl:xs.length=m*size) (hm:0<m):aY (w.alloc (.cells xs.toArray T)) size (some ⟨b,0,none⟩) m xs:=
 ⟨hl,fun h=>(by cases h),fun ad had=>by
  obtain rfl:=Option.some.inj had;exact ⟨rfl,aL w xs T b hb⟩⟩
theorem kz:∀(n:Nat) (s acc:List UInt8),(bD n s acc).length <= 2*n
 |0,s,acc=>by simp [bD]
 |n+1,s,acc=>by
  have hg:(if acc=[]then []else [(⟨false,[],acc⟩:ai)]).length <= 1:=(by split<;>simp);cases s with
  |nil=>rw [bD];try dsimp only
        omega
  |cons c t=>
   rw [bD];try dsimp only
   split
   ·have:=kz n t (acc++[c]);omega
   ·have:=kz n ((c::t).drop (al (c::t)).2) [];rw [List.length_append,List.length_cons];omega
theorem sA (s:List UInt8):(bX s).length <= 2*(s.length+1):=kz _ _ _
theorem qy (z:aS) (under:List (List UInt8)):∀(l:List ai) (q:List UInt8×am),q.1.length <= (l.foldl (dd z under) q).1.length
 |[],q=>Nat.le_refl _
 |p::l,q=>by
  have h1:=qy z under l (dd z under q p);rw [List.foldl_cons];refine Nat.le_trans ?_ h1;unfold dd;split
  ·simp
  ·split
   ·simp
   ·exact Nat.le_refl _
structure ix (B b sb:Nat) (w:World) (V:dY) (bb:Nat) (under:List (List UInt8)) (pv uv:Value) (l:List ai) (wr:World) (V':dY) (st':am) (acc:List UInt8):Prop where
 bd:de B b sb wr V' st'
 bk:BK B b V w wr
 nw:V.newer V' w.heap.size
 lb:w.heap.size <= bb
 bl:Lib.IsBuilderF 112 5 bb bb (Lib.byteCells acc) wr
 pc:kI 0 wr pv l
 un:ah 0 wr uv under
theorem ix.below {B b sb:Nat} {w:World} {V:dY} {bb:Nat} {under:List (List UInt8)} {pv uv:Value} {l:List ai} {wr w2:World} {V':dY} {st':am} {acc:List UInt8} (h:ix B b sb w V bb under pv uv l wr V' st' acc) (hb:Below wr.heap.size wr w2) (hB:B <= w.heap.size):ix B b sb w V bb under pv uv l w2 V' st' acc:=
 ⟨h.bd.below hb,h.bk.step (hb.mono h.bk.below.size) hB,h.nw,h.lb,aU h.bl hb,ae h.pc hb,ae h.un hb⟩
theorem ix.bbl {B b sb:Nat} {w:World} {V:dY} {bb:Nat} {under:List (List UInt8)} {pv uv:Value} {l:List ai} {wr:World} {V':dY} {st':am} {acc:List UInt8} (h:ix B b sb w V bb under pv uv l wr V' st' acc):bb <= wr.heap.size:=by
 obtain ⟨cs,hc⟩:=nO h.bl;exact Nat.le_of_lt (Array.getElem?_eq_some_iff.1 hc).1
theorem ix.wrote {B b sb:Nat} {w:World} {V:dY} {bb:Nat} {under:List (List UInt8)} {pv uv:Value} {l:List ai} {wr w2:World} {V':dY} {st':am} {acc acc2:List UInt8} (h:ix B b sb w V bb under pv uv l wr V' st' acc) (hB:B <= w.heap.size)
  (hb:Below bb wr w2) (hO:Lib.OthersKept 5 (some bb) wr w2) (hI:Lib.IsBuilderF 112 5 bb bb (Lib.byteCells acc2) w2):ix B b sb w V bb under pv uv l w2 V' st' acc2:=
 ⟨h.bd.others hO (nO h.bl),h.bk.step (hb.mono h.lb) hB,h.nw,h.lb,hI,eZ h.pc hO (nO h.bl) (by decide) (by decide),eZ h.un hO (nO h.bl) (by decide) (by decide)⟩
theorem ix.told {B b sb:Nat} {w:World} {V:dY} {bb:Nat} {under:List (List UInt8)} {pv uv:Value} {l:List ai} {wr w2:World} {V':dY} {st' st2:am} {acc:List UInt8} (h:ix B b sb w V bb under pv uv l wr V' st' acc)
  (hp:d7 B b sb wr V' st2 w2):∃V2,ix B b sb w V bb under pv uv l w2 V2 st2 acc:=by
 obtain ⟨V2,q1,q2,q3⟩:=hp;refine ⟨V2,q1,h.bk.trans h.nw q2,fun k hk=>?_,h.lb,A3 h.bl q2 h.bd,q2.own h.bd h.pc (by decide) (by decide) (by decide) (by decide) (by decide),h.un.bk q2 h.bd⟩;rcases q3 k hk with e|e
 ·exact h.nw k e
 ·exact Or.inr (Nat.le_trans h.bk.below.size e)
structure qZ (z:aS) (under:List (List UInt8)) (l:List ai) (R:List UInt8×am) (i:Nat) (st':am) (acc:List UInt8):Prop where
 fo:(l.drop i).foldl (dd z under) (acc,st')=R
 na:st'.atoms.length+gN (fun _=>0) 1 (l.drop i) <= 1000000000
 ng:st'.diags.length+gN (fun _=>0) 1 (l.drop i) <= 1000000000
theorem qZ.acc {z:aS} {under:List (List UInt8)} {l:List ai} {R:List UInt8×am} {i:Nat} {st':am} {acc:List UInt8} (h:qZ z under l R i st' acc):acc.length <= R.1.length:=by
 have:=qy z under (l.drop i) (acc,st');rw [h.fo]at this;exact this
theorem kN {α β:Type} (f:β ->α ->β) (l:List α) (i:Nat) (p:α) (q:β) (hp:l[i]? =some p):(l.drop i).foldl f q=(l.drop (i+1)).foldl f (f q p):=by
 obtain ⟨h,rfl⟩:=List.getElem?_eq_some_iff.1 hp;rw [List.drop_eq_getElem_cons h,List.foldl_cons]
theorem rD (l:List ai) (i:Nat) (p:ai) (hp:l[i]? =some p):gN (fun _=>0) 1 (l.drop i)=(if p.span then 1 else 0)+gN (fun _=>0) 1 (l.drop (i+1)):=by
 obtain ⟨h,rfl⟩:=List.getElem?_eq_some_iff.1 hp;rw [List.drop_eq_getElem_cons h,iP];congr 1;unfold gG;split
 ·rfl
 ·exact ym _
theorem qZ.next {z:aS} {under:List (List UInt8)} {l:List ai} {R:List UInt8×am} {i:Nat} {st':am} {acc:List UInt8} (h:qZ z under l R i st' acc) (p:ai) (hp:l[i]? =some p):qZ z under l R (i+1) (dd z under (acc,st') p).2 (dd z under (acc,st') p).1:=by
 have h1:=kN (dd z under) l i p (acc,st') hp;have h2:=rD l i p hp;have h3:=qv p.text.length z under (acc,st') p (Nat.le_refl _);have h4:=h3.na;have h5:=h3.ng;have h6:=h.na;have h7:=h.ng;simp only at h4 h5;exact ⟨by rw [<- h.fo,h1],by omega,by omega⟩
theorem aY.pce {w:World} {g o n:Nat} {l:List ai} (h:aY w 3 (some ⟨g,o,none⟩) n (l.flatMap dR)) (k:Nat) (x:ai) (hk:l[k]? =some x):
  w.cell? ⟨g,o+k*3,none⟩=some (.bool x.span)∧w.cell? ⟨g,o+k*3+1,none⟩=some (.string ⟨x.label.toArray⟩)∧w.cell? ⟨g,o+k*3+2,none⟩=some (.string ⟨x.text.toArray⟩):=
 ⟨h.cell pw k 0 x _ hk (by omega) rfl,h.cell pw k 1 x _ hk (by omega) rfl,h.cell pw k 2 x _ hk (by omega) rfl⟩
def DW (V:dY) (b:Nat) (v:Value):Prop:=∀k,some k=v.ownBlock ->k≠b∧¬V.owns k
theorem B9 {B b:Nat} {w w':World} {V:dY} {B2:Nat} {e:TypeId} {size n:Nat} {v:Value} {xs:List Value} (hr:w.ownsRow B2 e size v n xs) (ho:DW V b v) (hk:BK B b V w w'):w'.ownsRow B2 e size v n xs:=
 eh hr fun g hg=>hk.keep g (World.ownsRow.lt hr g hg).2 (ho g hg.symm).1 (ho g hg.symm).2
theorem DW.step {b:Nat} {w:World} {V V':dY} {B2:Nat} {e:TypeId} {size n:Nat} {v:Value} {xs:List Value} (ho:DW V b v) (hr:w.ownsRow B2 e size v n xs) (hn:V.newer V' w.heap.size):DW V' b v:=fun k hk=>
 ⟨(ho k hk).1,fun h=>by
  rcases hn k h with h1|h1
  ·exact (ho k hk).2 h1
  ·have:=(World.ownsRow.lt hr k hk.symm).2;omega⟩
theorem lR {w:World} {k:Nat} {a b c d e f:Value} {T:TypeId} (h:w.heap[k]? =some (.cells #[a,b,c,d,e,f] T (0,0))):
  w.cell? ⟨k,0,none⟩=some a∧w.cell? ⟨k,1,none⟩=some b∧w.cell? ⟨k,2,none⟩=some c∧w.cell? ⟨k,3,none⟩=some d∧w.cell? ⟨k,4,none⟩=some e∧w.cell? ⟨k,5,none⟩=some f:=by
 refine ⟨?_,?_,?_,?_,?_,?_⟩<;>(rw [cell_of_row w k _ _ _ _ h];rfl)
theorem cG {w:World} {k:Nat} {a b c d e:Value} {T:TypeId} (h:w.heap[k]? =some (.cells #[a,b,c,d,e] T (0,0))):
  w.cell? ⟨k,0,none⟩=some a∧w.cell? ⟨k,1,none⟩=some b∧w.cell? ⟨k,2,none⟩=some c∧w.cell? ⟨k,3,none⟩=some d∧w.cell? ⟨k,4,none⟩=some e:=by
 refine ⟨?_,?_,?_,?_,?_⟩<;>(rw [cell_of_row w k _ _ _ _ h];rfl)
theorem de.own_lt {B b sb:Nat} {w:World} {V:dY} {st:am} (h:de B b sb w V st) {k:Nat} (hk:V.owns k):k<w.heap.size:=by
 obtain ⟨cs,e,h1,_⟩:=h.kind hk;exact (Array.getElem?_eq_some_iff.1 h1).1
theorem BK.new {B b sb:Nat} {w0 w w':World} {V:dY} {st:am} (hk:BK B b V w w') (h:de B b sb w0 V st) {k:Nat} {o:Obj} (hk0:w0.heap.size <= k) (ho:w.heap[k]? =some o):w'.heap[k]? =some o:=
 (hk.keep k (Array.getElem?_eq_some_iff.1 ho).1 (fun e=>by have:=h.lt;omega) (fun e=>by have:=h.own_lt e;omega)).trans ho
theorem gO.of {v:Value} {o:Option Nat} {n:Nat} (h:v.ownBlock=o∨v.ownBlock=some n) {m:Nat} (hm:m <= n):gO v o m:=by
 rcases h with h|h
 ·exact Or.inl h
 ·exact Or.inr ⟨n,h,hm⟩
theorem zx:(Tryz.prog.info? 40).map (fun i=>(i.zero,i.size,i.bytes))=some (some (.agg #[.string ⟨#[]⟩,.string ⟨#[]⟩]),2,32):=by kernel_rfl
theorem yS {B b sb:Nat} {w:World} {V:dY} {st:am} {z:aS} (h:de B b sb w V st) (hS:jL B w sb z) (hE:jI B w) (S:ByteArray) {ao:Option Addr} {cap:Nat} {under:List (List UInt8)}
  (hU:ah 0 w (.slice ao under.length cap) under) (hs:S.size <= 1000000) (hul:under.length <= 100000) (hna:st.atoms.length+S.size <= 1000000000) (hng:st.diags.length+S.size+1 <= 1000000000):
  Calls Tryz.prog 55 #[.pointer (some ⟨b,0,none⟩),.string S,.slice ao under.length cap] w fun e w'=>e=.returned (.string ⟨(ey z st S.data.toList under).1.toArray⟩)∧d7 B b sb w V (ey z st S.data.toList under).2 w':=by
 obtain ⟨ia,hia,ha0,ha1,ha2⟩:=info_parts zx;have hBw:=h.hB;have hfh:=mQ S w (by omega)
 have hlv:ey z st S.data.toList under=if (aj S.data.toList).2.2 then
   (if z.sees (under++[(aj S.data.toList).2.1])then (bX (aj S.data.toList).1).foldl (dd z (under++[(aj S.data.toList).2.1])) ([],st.label z (aj S.data.toList).2.1)else ([],st))
   else (bX S.data.toList).foldl (dd z under) ([],st):=rfl
 have hsub:=(kd S.data.toList).length_le;rw [<- Lib.size_eq]at hsub;have hout:=uA CV z st S.data.toList under (fun c _=>by unfold hW;omega) (by rw [<- Lib.size_eq];exact hna);have hRl:(ey z st S.data.toList under).1.length <= 100000000:=by
  have h1:=wO (f:=fW) (fun c=>(lY c).1) (ey z st S.data.toList under).1;have h2:=BS (f:=hW) (h:=cF) (k:=20) (fun c=>by have:=(lY c).2;unfold hW cF;omega) S.data.toList;rw [di,<- Lib.size_eq]at h2;omega
 obtain ⟨R,hR⟩:∃R,ey z st S.data.toList under=R:=⟨_,rfl⟩
 rw [hR]at hlv hRl⊢;obtain ⟨A,L,is,hAL⟩:∃(A L:List UInt8) (is:Bool),aj S.data.toList=(A,L,is):=⟨_,_,_,rfl⟩
 rw [hAL]at hfh hlv hsub;simp only at hfh hlv hsub;have HFH:=zh hfh;have HLV:=zh hlv;have HH:=zh h;have HS:=zh hS;have HE:=zh hE;have HU:=zh hU;have HRL:=zh hRl;clear hfh hlv h hS hE hU hout hR hAL hRl;go_enter Tryz.func55,Tryz.ntmps55
 go_wp2_with fail;refine HFH.out.mono ?_;rintro e w2 ⟨rfl,hb2⟩;have HB2:=zh hb2;clear hb2 HFH
 go_upto_if 19 with (fail)
 go_cut [1,2] (fun u1 u2 wc=>∃(S2:ByteArray) (ao2:Option Addr) (cap2:Nat) (under2:List (List UInt8)) (V2:dY) (st2:am),u1=.string S2∧u2=.slice ao2 under2.length cap2∧ah 0 wc (.slice ao2 under2.length cap2) under2∧de B b sb wc V2 st2∧BK B b V w wc∧V.newer V2 w.heap.size∧Hid (R=(bX S2.data.toList).foldl (dd z under2) ([],st2))∧S2.size <= 1000000∧under2.length <= 100001∧st2.atoms.length+S2.size <= 1000000000∧st2.diags.length+S2.size <= 1000000000)
 case first=>
  cases is
  ·have HR1:=zh (show R=(bX S.data.toList).foldl (dd z under) ([],st) by rw [HLV.out];rfl);go_wp2_with fail
   go_meet
   case rel=>exact ⟨S,ao,cap,under,V,st,rfl,rfl,ae HU.out HB2.out,HH.out.below HB2.out,BK.of_below HB2.out hBw,V.newer_refl _,HR1,hs,by omega,hna,by omega⟩
  ·obtain ⟨hUr,hUc,_⟩:=ah.r HU.out;have HW:=zh (qR (cap:=cap) ⟨L.toArray⟩ (hUr.below HB2.out) hUc (by omega));clear hUr hUc;go_wp2_with fail;refine HW.out.mono ?_;rintro e w3 ⟨v3,rfl,hv3,hb3⟩;replace hv3:ah w2.heap.size w3 v3 (under++[L]):=hv3;obtain ⟨ao3,c3,hv3e,hr3,hn3,_⟩:=ab hv3;subst hv3e;have HB3:=zh (aa HB2.out hb3);have HV3:=zh (dQ hv3 (Nat.zero_le _));have hls:(under++[L]).length=under.length+1:=(by simp);have HSE:=zh ((HS.out.below (HB3.out.mono hBw)).sees (ao:=ao3) (cap:=c3) (l:=under++[L]) hr3 (by omega));have c4:w3.cell? ⟨b,4,none⟩=some (.pointer (some ⟨sb,0,none⟩)):=(by rw [cell_of_row w3 b _ _ _ _ (HH.out.below HB3.out).heap];rfl);obtain ⟨ln,hln⟩:∃n,(under++[L]).length=n:=⟨_,rfl⟩
   have hv3b:ah 0 w3 (.slice ao3 ln c3) (under++[L]):=(by rw [<- hln];exact HV3.out);rw [hln]at HSE⊢;have HV3b:=zh hv3b;have HLN:=zh (And.intro hln hls);clear hv3 hr3 hn3 hb3 hv3b HV3 hln hls;obtain ⟨se,hse⟩:∃x,z.sees (under++[L])=x:=⟨_,rfl⟩
   rw [hse]at HSE;have HSEE:=zh hse;clear hse;go_wp2_with fail;refine HSE.out.mono ?_;rintro e w4 ⟨rfl,hb4⟩;have HB4:=zh (aa HB3.out hb4);have HV4:=zh (ae HV3b.out hb4);clear hb4 c4;cases se
   ·go_wp2_with fail;go_ret;have hl:=HLV.out;rw [if_pos trivial,HSEE.out,if_neg (by simp)]at hl;rw [hl];exact ⟨rfl,V,HH.out.below HB4.out,BK.of_below HB4.out hBw,V.newer_refl _⟩
   ·have HL4:=zh (lQ (HH.out.below HB4.out) (HS.out.below (HB4.out.mono hBw)) ⟨L.toArray⟩ (by omega));go_wp2_with fail;refine HL4.out.mono ?_;rintro e w5 ⟨rfl,V5,q1,q2,q3⟩;have HQ:=zh (And.intro q1 (And.intro q2 q3));clear q1 q2 q3;go_wp2_with fail
    go_meet
    case rel=>
     obtain ⟨q1,q2,q3⟩:=HQ.out;have hl:=HLV.out;rw [if_pos trivial,HSEE.out,if_pos rfl]at hl;obtain ⟨z1,z2,z3,z4,z5⟩:=fS z st L;have hsz:({data:=A.toArray}:ByteArray).size=A.length:=(by rw [Lib.size_eq]);refine ⟨⟨A.toArray⟩,ao3,c3,under++[L],V5,st.label z L,rfl,by rw [HLN.out.1],by rw [HLN.out.1];exact ah.bk (l:=under++[L]) HV4.out q2 (HH.out.below HB4.out),q1,(BK.of_below HB4.out hBw).trans (V.newer_refl _) q2,fun k hk=>?_,zh hl,by omega,by rw [HLN.out.2];omega,by rw [z1];omega,by omega⟩;rcases q3 k hk with e|e
     ·exact Or.inl e
     ·exact Or.inr (Nat.le_trans HB4.out.size e)
 case rest=>
  clear HLV HU hsub hng hna hul hs HB2;obtain ⟨S2,ao2,cap2,under2,V2,st2,rfl,rfl,hU2,hbd2,hbk2,hnw2,HR2,hs2,hul2,hna2,hng2⟩:=hcut;have HX:=zh (And.intro hU2 (And.intro hbd2 (And.intro hbk2 hnw2)));clear hU2 hbd2 hbk2 hnw2;go_wp2_with fail;have hba:=(Below.refl wc.heap.size wc).alloc (Nat.le_refl _) (.cells #[.pointer none,.slice none 0 0] 112);have hib:=Lib.IsBuilderF.of (Lib.fresh_isBuilder 112 5 wc);have hbw:=HX.out.2.2.1.below.trans (hba.mono (Nat.le_trans hBw HX.out.2.2.1.below.size));have HSP:=zh (sw S2 (wc.alloc (.cells #[.pointer none,.slice none 0 0] 112)) (HE.out.below hbw).env hs2);have HBA:=zh (And.intro hba hib);clear hba hib hbw;refine HSP.out.mono ?_;rintro e w3 ⟨pv,rfl,hpc,hb3⟩;obtain ⟨pao,pcap,hpve,_⟩:=ab hpc;subst hpve;have hcnt:=fm S2.data.toList;have hlen:=sA S2.data.toList;have htx:∀p∈bX S2.data.toList,p.text.length <= 1000000:=fun p hp=>by
   have:=oa hp;rw [<- Lib.size_eq]at this;omega
  rw [<- Lib.size_eq]at hcnt hlen;obtain ⟨l,hl⟩:∃l,bX S2.data.toList=l:=⟨_,rfl⟩
  rw [hl]at hpc HR2 hcnt hlen htx⊢;have HM:=zh (show ix B b sb w V wc.heap.size under2 (.slice pao l.length pcap) (.slice ao2 under2.length cap2) l w3 V2 st2 []from by
   obtain ⟨hU2,hbd2,hbk2,hnw2⟩:=HX.out;obtain ⟨hba,hib⟩:=HBA.out;have hb03:=hba.trans (hb3.mono hba.size);exact ⟨hbd2.below hb03,hbk2.step (hb03.mono hbk2.below.size) hBw,hnw2,hbk2.below.size,aU hib hb3,dQ hpc (Nat.zero_le _),ae hU2 hb03⟩)
  have HF:=zh (show qZ z under2 l R 0 st2 []from ⟨by rw [List.drop_zero];exact HR2.out.symm,by rw [List.drop_zero];omega,by rw [List.drop_zero];omega⟩);have HTX:=zh htx;clear hl htx hcnt hpc hb3 HX HBA HSP HR2 hna2 hng2;obtain ⟨bb,hbb⟩:∃n,wc.heap.size=n:=⟨_,rfl⟩
  rw [hbb]at HM;rw [hbb];clear hbb;go_wp2_with fail;go_loopw [37] (fun u37 wr=>∃(i:Nat) (V':dY) (st':am) (acc:List UInt8),u37=.int .i64 (i:Int)∧i <= l.length∧ix B b sb w V bb under2 (.slice pao l.length pcap) (.slice ao2 under2.length cap2) l wr V' st' acc∧qZ z under2 l R i st' acc) (fun u37 _=>l.length - (intOf u37).toNat)
  case atStart=>exact ⟨0,V2,st2,[],by go_num,Nat.zero_le _,HM.out,HF.out⟩
  case round=>
   obtain ⟨i,V',st',acc,rfl,hi,hm,hf⟩:=hrel;have hal:=Nat.le_trans hf.acc HRL.out;have HM1:=zh hm;have HF1:=zh hf;clear hm hf HM HF;by_cases hlt:i<l.length
   ·obtain ⟨p,hp⟩:=bG l i hlt;have hpr:=(bT HM1.out.pc).2.1;obtain ⟨g,o,rfl⟩:=hpr.addr (by omega);obtain ⟨c0,c1,c2⟩:=hpr.pce i p hp;have HN1:=zh (HF1.out.next p hp);have htx:=HTX.out p (List.mem_of_getElem? hp);have h61:=HF1.out.na;have h62:=HF1.out.ng;have hds:=rD l i p hp;obtain ⟨sp,lab,txt⟩:=p;simp only at c0 c1 c2 htx hds;have hba2:=(Below.refl wr.heap.size wr).alloc (Nat.le_refl _) (.cells #[.bool sp,.string ⟨lab.toArray⟩,.string ⟨txt.toArray⟩] 138);have HM2:=zh (HM1.out.below hba2 hBw);have htz:({data:=txt.toArray}:ByteArray).size=txt.length:=(by rw [Lib.size_eq]);clear hpr hp hba2;cases sp
    ·have HN2:=zh (show qZ z under2 l R (i+1) st' (acc++txt)from HN1.out);clear HN1 hds;go_wp2_with fail;refine (dH bb bb _ ⟨txt.toArray⟩ _ HM2.out.bl (by rw [Lib.byteCells_length];omega) HM2.out.bbl).mono ?_;rintro e w4 ⟨rfl,h4,hb4,k4⟩;have HM3:=zh (HM2.out.wrote hBw hb4 k4 (acc2:=acc++txt) (by rw [Lib.byteCells_append];exact Or.inr h4));clear h4 hb4 k4;go_wp2_with fail;go_roundw;case rel=>exact ⟨i+1,V',st',acc++txt,by go_num,by omega,HM3.out,HN2.out⟩
     case measure=>simp [intOf];omega
    ·have q1:wr.cell? ⟨wr.heap.size,0,none⟩=wr.cell? ⟨wr.heap.size,0,none⟩:=rfl;have hsum:gN (fun _=>0) 1 (l.drop i)=1+gN (fun _=>0) 1 (l.drop (i+1)):=hds;have hpv:dd z under2 (acc,st') ⟨true,lab,txt⟩=if z.sees (under2++[lab])then (acc++0::(Lib.decDigits (st'.label z lab).atoms.length++[0]),{st'.label z lab with atoms:=(st'.label z lab).atoms++[⟨lab,txt⟩]})else (acc,st'):=rfl;obtain ⟨q1,q2,q3⟩:=fS z st' lab;have HN2:=zh (And.intro hpv HN1.out);have HLS:=zh (And.intro q1 q3.2.2);clear HN1 hds hpv q1 q2 q3;go_upto_region 14 with (fail)
     have hpx:=heap_alloc_new wr (.cells #[.bool true,.string ⟨lab.toArray⟩,.string ⟨txt.toArray⟩] 138);generalize wr.alloc (.cells #[.bool true,.string ⟨lab.toArray⟩,.string ⟨txt.toArray⟩] 138)=W2 at HM2 hpx⊢;have hM2:=HM2.out.below (Below.refl W2.heap.size W2).drew hBw;have c4:W2.drew.cell? ⟨b,4,none⟩=some (.pointer (some ⟨sb,0,none⟩)):=(by rw [cell_of_row W2.drew b _ _ _ _ hM2.bd.heap];rfl);have p1:W2.drew.cell? ⟨wr.heap.size,1,none⟩=some (.string ⟨lab.toArray⟩):=(by rw [cell_of_row W2.drew wr.heap.size _ _ _ _ hpx];rfl);obtain ⟨hUr,hUc,_⟩:=ah.r hM2.un;have HW:=zh (qR (cap:=cap2) ⟨lab.toArray⟩ hUr hUc (by omega));have HM2d:=zh hM2;have HPX:=zh hpx;clear hUr hUc hM2 hpx c0 c1 c2;obtain ⟨pb,hpb⟩:∃n,wr.heap.size=n:=⟨_,rfl⟩
     rw [hpb]at p1 HPX⊢;clear hpb;refine aQ (S:=fun j W'=>([3,6,7].contains j=true) ->(W'.cell? ⟨b,4,none⟩=some (.pointer (some ⟨sb,0,none⟩))∧W'.cell? ⟨pb,1,none⟩=some (.string ⟨lab.toArray⟩))) (by kernel_rfl) ?_;refine bC 0 49 ?_;simp only [List.set];refine bC 1 50 ?_;simp only [List.set];refine bC 2 51 ?_;simp only [List.set];refine bC 4 53 ?_;simp only [List.set];refine bC 5 54 ?_;simp only [List.set];refine ga 3 52 ?_ rfl [6,7] (by kernel_rfl) (fun _ _ _ h=>h) (by decide) rfl (Or.inl ⟨by rfl,?_⟩) ⟨c4,p1⟩ ?_;rotate_left
     ·rintro w' ⟨s0,s1⟩;go_simp<;>with_reducible rfl
     simp only [List.set];refine ga 6 55 ?_ rfl [] (by kernel_rfl) (fun _ _ _ h=>h) (by decide) rfl (Or.inl ⟨by rfl,?_⟩) ⟨c4,p1⟩ ?_;rotate_left
     ·rintro w' ⟨s0,s1⟩;go_simp<;>with_reducible rfl
     simp only [List.set];refine ac (i:=7) (by kernel_rfl) rfl (fun K' hK=>?_);have HKK:=zh hK;clear hK;go_simp
     refine HW.out.mono ?_;rintro e w3 ⟨v3,rfl,hv3,hb3⟩;replace hv3:ah W2.drew.heap.size w3 v3 (under2++[lab]):=hv3;obtain ⟨ao3,c3,hv3e,hr3,hn3,_⟩:=ab hv3;subst hv3e;have HM3:=zh (HM2d.out.below hb3 hBw);have HPX3:=zh ((hb3.block pb (Array.getElem?_eq_some_iff.1 HPX.out).1).trans HPX.out);have HSE:=zh ((HS.out.below HM3.out.bk.below).sees (ao:=ao3) (cap:=c3) (l:=under2++[lab]) hr3 (by simp;omega));obtain ⟨ln,hln⟩:∃n,(under2++[lab]).length=n:=⟨_,rfl⟩
     obtain ⟨se,hse⟩:∃x,z.sees (under2++[lab])=x:=⟨_,rfl⟩
     rw [hln,hse]at HSE;rw [hln];rw [hse]at HN2;have c43:=(hb3.cell (p:=⟨b,4,none⟩) HM2d.out.bd.lt).trans c4;have p13:=(hb3.cell (p:=⟨pb,1,none⟩) (Array.getElem?_eq_some_iff.1 HPX.out).1).trans p1;clear hv3 hr3 hn3 hln hse hb3 c4 p1 HM2d HPX HW HM2;go_wp2_with fail;refine HKK.out _ _ ⟨fun _=>⟨c43,p13⟩,?_⟩;clear HKK K';try simp only [Act.put,List.setIfInBounds_toArray,List.set_cons_zero,List.set_cons_succ,List.getElem_toArray,List.getElem_cons_zero,List.getElem_cons_succ]
     clear c43 p13;refine ac (i:=8) (by kernel_rfl) rfl (fun K' hK=>?_);have HKK:=zh hK;clear hK;go_simp
     refine HSE.out.mono ?_;rintro e w4 ⟨rfl,hb4⟩;have HM4:=zh (HM3.out.below hb4 hBw);have HPX4:=zh ((hb4.block pb (Array.getElem?_eq_some_iff.1 HPX3.out).1).trans HPX3.out);clear hb4 HM3 HPX3 HSE;go_wp2_with fail;refine HKK.out _ _ ⟨fun h=>absurd h (by decide),?_⟩;clear HKK K';try simp only [Act.put,List.setIfInBounds_toArray,List.set_cons_zero,List.set_cons_succ,List.getElem_toArray,List.getElem_cons_zero,List.getElem_cons_succ]
     refine ac (i:=9) (by kernel_rfl) rfl (fun K' hK=>?_);have HKK:=zh hK;clear hK;go_simp
     refine HKK.out _ _ ⟨fun h=>absurd h (by decide),?_⟩;clear HKK K';try simp only [Act.put,List.setIfInBounds_toArray,List.set_cons_zero,List.set_cons_succ,List.getElem_toArray,List.getElem_cons_zero,List.getElem_cons_succ]
     refine aP (by kernel_rfl) ?_ _;cases se
     ·have HN3:=zh (show qZ z under2 l R (i+1) st' acc from by
       have h1:=HN2.out.2;rw [HN2.out.1,if_neg (by simp)]at h1;exact h1)
      go_wp2_with fail;go_roundw;case rel=>exact ⟨i+1,V',st',acc,by go_num,by omega,HM4.out,HN3.out⟩
      case measure=>simp [intOf];omega
     ·obtain ⟨st5,hst5⟩:∃x,st'.label z lab=x:=⟨_,rfl⟩
      rw [hst5]at HN2 HLS;have f1:w4.cell? ⟨pb,1,none⟩=some (.string ⟨lab.toArray⟩):=(by rw [cell_of_row w4 pb _ _ _ _ HPX4.out];rfl);have HLB:=zh (lQ HM4.out.bd (HS.out.below HM4.out.bk.below) ⟨lab.toArray⟩ (by omega));rw [show (({data:=lab.toArray}:ByteArray).data.toList)=lab from rfl,hst5]at HLB;clear hst5;go_wp2_with fail;refine HLB.out.mono ?_;rintro e w5 ⟨rfl,hp5⟩;obtain ⟨V5,hm5⟩:=HM4.out.told hp5;have hpx5:w5.heap[pb]? =some (.cells #[.bool true,.string ⟨lab.toArray⟩,.string ⟨txt.toArray⟩] 138 (0,0)):=by
       obtain ⟨Vx,r1,r2,r3⟩:=hp5;refine r2.obj HM4.out.bd HPX4.out (fun cs e fz he=>?_);simp only [Obj.cells.injEq]at he;rw [<- he.2.1];decide
      obtain ⟨aao,acap,hav,_⟩:=ab hm5.bd.at';have c1:w5.cell? ⟨b,1,none⟩=some V5.av:=(by rw [cell_of_row w5 b _ _ _ _ hm5.bd.heap];rfl);rw [hav]at c1;have hn9:st5.atoms.length <= 1000000000:=(by rw [HLS.out.1];omega);have hit:=BG st5.atoms.length (by omega) (HE.out.below hm5.bk.below _ (Below.refl _ _));have hdl:=lW 9 st5.atoms.length (by omega);obtain ⟨n,hn⟩:∃n,st5.atoms.length=n:=⟨_,rfl⟩
      rw [hn]at c1 hit hdl hav hn9;have HNN:=zh hn;obtain ⟨D,hD⟩:∃X:ByteArray,(⟨(Lib.decDigits n).toArray⟩:ByteArray)=X:=⟨_,rfl⟩
      have hDs:D.size <= 10:=(by rw [Lib.size_eq,<- hD];exact hdl);have hDl:D.data.toList=Lib.decDigits n:=(by rw [<- hD]);rw [hD]at hit;have HIT:=zh hit;have HDL:=zh hDl;have HM5:=zh hm5;have HPX5:=zh hpx5;have HAV:=zh hav;have hz1:¬(9223372036854775807:Int)<((⟨#[0]⟩:ByteArray).size:Int)+(D.size:Int):=(by rw [show (⟨#[0]⟩:ByteArray).size=1 from rfl];omega);have hz2:¬(9223372036854775807:Int)<(((⟨#[0]⟩:ByteArray)++D).size:Int)+((⟨#[0]⟩:ByteArray).size:Int):=(by rw [show (⟨#[0]⟩:ByteArray).size=1 from rfl,ByteArray.size_append,show (⟨#[0]⟩:ByteArray).size=1 from rfl];omega);clear hm5 hpx5 hav hit hdl hD hDl hp5 f1 hn HLB HM4 HPX4;go_wp2_with fail;refine HIT.out.mono ?_;rintro e w6 ⟨rfl,hb6⟩;have HM6:=zh (HM5.out.below hb6 hBw);have HPX6:=zh ((hb6.block pb (Array.getElem?_eq_some_iff.1 HPX5.out).1).trans HPX5.out);clear hb6 c1 HM5 HPX5 HIT;go_wp2_with fail;have hxs:((⟨#[0]⟩:ByteArray)++D++(⟨#[0]⟩:ByteArray)).data.toList=0::(Lib.decDigits n++[0]):=by
       rw [ByteArray.data_append,ByteArray.data_append];simp [HDL.out]
      have hxz:((⟨#[0]⟩:ByteArray)++D++(⟨#[0]⟩:ByteArray)).size <= 12:=(by rw [ByteArray.size_append,ByteArray.size_append,show (⟨#[0]⟩:ByteArray).size=1 from rfl];omega);obtain ⟨X,hX⟩:∃X:ByteArray,(⟨#[0]⟩:ByteArray)++D++(⟨#[0]⟩:ByteArray)=X:=⟨_,rfl⟩
      rw [hX]at hxs hxz⊢;have HXS:=zh hxs;clear hxs hX hz1 hz2;refine (dH bb bb _ X _ HM6.out.bl (by rw [Lib.byteCells_length];omega) HM6.out.bbl).mono ?_;rintro e w7 ⟨rfl,h7,hb7,k7⟩;have HM7:=zh (HM6.out.wrote hBw hb7 k7 (acc2:=acc++0::(Lib.decDigits n++[0])) (by rw [<- HXS.out,Lib.byteCells_append];exact Or.inr h7));have HPX7:=zh (k7 pb _ HPX6.out (fun e=>by
       obtain ⟨cs,hc⟩:=nO HM6.out.bl;rw [<- Option.some.inj e,HPX6.out]at hc;simp only [Option.some.injEq,Obj.cells.injEq]at hc;exact absurd hc.2.1 (by decide)) (fun c fz e=>by
       simp only [Obj.cells.injEq]at e;exact absurd e.2.1 (by decide)))
      clear h7 hb7 k7 HM6 HPX6 HXS HDL;have hown:=HM7.out.bd.at';unfold mw at hown;rw [HAV.out,HNN.out]at hown;have c1:w7.drew.cell? ⟨b,1,none⟩=some (.slice aao n acap):=(by rw [cell_of_row w7.drew b _ _ _ _ HM7.out.bd.heap,HAV.out];rfl);have p1:w7.drew.cell? ⟨pb,1,none⟩=some (.string ⟨lab.toArray⟩):=(by rw [cell_of_row w7.drew pb _ _ _ _ HPX7.out];rfl);have p2:w7.drew.cell? ⟨pb,2,none⟩=some (.string ⟨txt.toArray⟩):=(by rw [cell_of_row w7.drew pb _ _ _ _ HPX7.out];rfl);have hbn:=(Below.refl w7.drew.heap.size w7.drew).alloc (Nat.le_refl _) (.cells #[.string ⟨lab.toArray⟩,.string ⟨txt.toArray⟩] 40);have hrow:=gm w7.drew [.string ⟨lab.toArray⟩,.string ⟨txt.toArray⟩] 40 2 1 w7.heap.size rfl rfl (by omega);have hownA:(w7.drew.alloc (.cells #[.string ⟨lab.toArray⟩,.string ⟨txt.toArray⟩] 40)).ownsRow B 40 2 (.slice aao n acap) n (st5.atoms.flatMap fe):=ae (World.ownsRow.drew hown) hbn;have hbdA:=HM7.out.bd.below ((Below.refl w7.heap.size w7).drew.trans hbn);have c1A:=(hbn.cell (p:=⟨b,1,none⟩) HM7.out.bd.lt).trans c1;have p1A:=(hbn.cell (p:=⟨pb,1,none⟩) (Array.getElem?_eq_some_iff.1 HPX7.out).1).trans p1;have p2A:=(hbn.cell (p:=⟨pb,2,none⟩) (Array.getElem?_eq_some_iff.1 HPX7.out).1).trans p2;have HA:=zh (And.intro hbn (And.intro hrow (And.intro hownA hbdA)));have HCA:=zh (And.intro c1A (And.intro p1A p2A));clear hbn hrow hownA hbdA c1A p1A p2A hown;go_wp2_with fail;refine aQ (S:=fun j W'=>([5,7,9,11].contains j=true) ->(W'.cell? ⟨b,1,none⟩=some (.slice aao n acap)∧W'.cell? ⟨pb,1,none⟩=some (.string ⟨lab.toArray⟩)∧W'.cell? ⟨pb,2,none⟩=some (.string ⟨txt.toArray⟩))) (by kernel_rfl) ?_;refine bC 0 72 ?_;simp only [List.set];refine bC 1 73 ?_;simp only [List.set];refine bC 2 74 ?_;simp only [List.set];refine bC 3 75 ?_;simp only [List.set];refine bC 4 76 ?_;simp only [List.set];refine bC 6 78 ?_;simp only [List.set];refine bC 8 80 ?_;simp only [List.set];refine ga 7 79 ?_ rfl [5,9] (by kernel_rfl) (fun _ _ _ h=>h) (by decide) rfl (Or.inl ⟨by rfl,?_⟩) ⟨c1,p1,p2⟩ ?_;rotate_left
      ·rintro w' ⟨s0,s1,s2⟩;go_simp<;>with_reducible rfl
      simp only [List.set];refine ga 9 81 ?_ rfl [5] (by kernel_rfl) (fun _ _ _ h=>h) (by decide) rfl (Or.inl ⟨by rfl,?_⟩) ⟨c1,p1,p2⟩ ?_;rotate_left
      ·rintro w' ⟨s0,s1,s2⟩;go_simp<;>with_reducible rfl
      simp only [List.set];refine bC 10 82 ?_;simp only [List.set];refine ga 5 77 ?_ rfl [11] (by kernel_rfl) (fun _ _ _ h=>h) (by decide) rfl (Or.inl ⟨by rfl,?_⟩) ⟨c1,p1,p2⟩ ?_;rotate_left
      ·rintro w' ⟨s0,s1,s2⟩;go_simp<;>with_reducible rfl
      simp only [List.set];refine ac (i:=11) (by kernel_rfl) rfl (fun K' hK=>?_);have HKK:=zh hK;clear hK;go_simp
      refine HKK.out _ _ ⟨fun _=>HCA.out,?_⟩;clear HKK K';try simp only [Act.put,List.setIfInBounds_toArray,List.set_cons_zero,List.set_cons_succ,List.getElem_toArray,List.getElem_cons_zero,List.getElem_cons_succ]
      clear c1 p1 p2;refine ac (i:=12) (by kernel_rfl) rfl (fun K' hK=>?_);have HKK:=zh hK;clear hK;refine bU _ rfl (.tmp 77) (.tmp 83) 29 rfl B 40 ia (.agg #[.string ⟨#[]⟩,.string ⟨#[]⟩]) 2 32 Tryz.underlying29 hia ha0 ha1 ha2 rfl (by decide) (.slice aao n acap) n (st5.atoms.flatMap fe) rfl HA.out.2.2.1 (some ⟨w7.heap.size,0,none⟩) 1 1 [.string ⟨lab.toArray⟩,.string ⟨txt.toArray⟩] rfl HA.out.2.1 (fun h=>by cases h) (by intro u hu;simp at hu;rcases hu with rfl|rfl<;>rfl) (by unfold maxLen;omega) (by omega) ?c9 ?_;case c9=>exact Nat.le_trans HM7.out.bd.hB (by simp)
      intro v8 w8 hown8 hgrow8 hat8;obtain ⟨ao8,c8,hv8,_⟩:=ab hown8;subst hv8;rw [<- HAV.out]at hgrow8 hat8;have hh8:=(HA.out.2.2.2.kept (by have:=HA.out.2.2.2.at';exact this) hgrow8 (by decide)).trans HA.out.2.2.2.heap;have f8:=frozen_of_row w8 b 1 _ _ hh8;have e8:w8.cell? ⟨b,1,none⟩=some V5.av:=(by rw [cell_of_row w8 b _ _ _ _ hh8];rfl);have hp8:=HA.out.2.2.2.pushA ⟨lab,txt⟩ (v:=.slice ao8 (n+1) c8) (by
       unfold mw;rw [List.length_append,List.flatMap_append,HNN.out];exact hown8) hgrow8 (gO.of hat8 (Nat.le_refl _))
      have hp9:=d7.trans (BK.of_below (((Below.refl w7.heap.size w7).drew).trans HA.out.1) HM7.out.bd.hB) (V5.newer_refl _) hp8;obtain ⟨V9,hm9⟩:=HM7.out.told hp9;have HM9:=zh hm9;have HN3:=zh (show qZ z under2 l R (i+1) {st5 with atoms:=st5.atoms++[⟨lab,txt⟩]} (acc++0::(Lib.decDigits n++[0]))from by
       have h1:=HN2.out.2;rw [HN2.out.1,if_pos trivial,HNN.out]at h1;exact h1)
      clear hown8 hgrow8 hat8 hh8 hp8 hp9 hm9 HA HCA HM7 HPX7 HNN HLS HN2;refine HKK.out _ _ ⟨fun h=>absurd h (by decide),?_⟩;clear HKK K';try simp only [Act.put,List.setIfInBounds_toArray,List.set_cons_zero,List.set_cons_succ,List.getElem_toArray,List.getElem_cons_zero,List.getElem_cons_succ]
      refine bC 13 85 ?_;simp only [List.set];refine bC 14 86 ?_;simp only [List.set];refine bC 15 87 ?_;simp only [List.set];refine ac (i:=16) (by kernel_rfl) rfl (fun K' hK=>?_);have HKK:=zh hK;clear hK;go_simp
      refine HKK.out _ _ ⟨fun h=>absurd h (by decide),?_⟩;clear HKK K';try simp only [Act.put,List.setIfInBounds_toArray,List.set_cons_zero,List.set_cons_succ,List.getElem_toArray,List.getElem_cons_zero,List.getElem_cons_succ]
      refine aP (by kernel_rfl) ?_ _;go_wp2_with fail;go_roundw;case rel=>exact ⟨i+1,V9,{st5 with atoms:=st5.atoms++[⟨lab,txt⟩]},acc++0::(Lib.decDigits n++[0]),by go_num,by omega,HM9.out,HN3.out⟩
      case measure=>simp [intOf];omega
   ·obtain rfl:i=l.length:=(by omega);have hfo:=HF1.out.fo;rw [List.drop_length]at hfo;simp only [List.foldl_nil]at hfo;have HR:=zh hfo;have hbb:=HM1.out.bbl;clear hfo;go_wp2_with fail;refine (Tryz.Builder_String_any_k bb bb _ wr HM1.out.bl HM1.out.bbl).mono ?_;rintro e w4 ⟨rfl,h4,hb4,k4⟩;have hbd4:=HM1.out.bd.others k4 (nO HM1.out.bl);have hbk4:=HM1.out.bk.step (hb4.mono HM1.out.lb) hBw;have HQ:=zh (And.intro hbd4 hbk4);clear h4 hb4 k4 hbd4 hbk4;go_wp2_with fail;go_ret;rw [<- HR.out];exact ⟨rfl,V',HQ.out.1,HQ.out.2,HM1.out.nw⟩
end Go.Proofs.YtcannffahjbjnaaGreatDoor
