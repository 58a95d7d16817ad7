import Derived.Test.YtcannffahjbjnaaGreatDoorVwBU
import Derived.StillTailTactics
set_option linter.unusedVariables false
set_option linter.unusedSimpArgs false
set_option maxRecDepth 100000
set_option maxHeartbeats 64000000
namespace Go.Proofs.YtcannffahjbjnaaGreatDoor
open Go.RowKit
theorem ER (s:List UInt8):ms fW s=wt s:=by
 induction s with
 |nil=>rfl
 |cons c s ih=>
  rw [bR,ih];unfold wt fW;by_cases h:c=9
  ·subst h;simp;omega
  ·simp [h,List.count_cons];omega
theorem Er (l:List (List UInt8)):el fW l=fD l:=by
 unfold el fD;congr 1;exact List.map_congr_left fun x _=>by rw [ER];rfl
theorem Ek (l:List (List UInt8)):el cF l <= el hW l:=by
 have:=xC (f:=cF) (h:=hW) (k:=1) (fun c=>by have:=(lY c).1;unfold cF hW;omega) l;omega
theorem jj (l:List (List UInt8)):l.length <= el cF l:=by
 induction l with
 |nil=>exact Nat.zero_le _
 |cons x l ih=>rw [aB,List.length_cons];have:cF 10=1:=rfl;omega
theorem kY {l:List (List UInt8)} {x:List UInt8} (h:x∈l):x.length <= el cF l:=by
 have:=yC (f:=cF) h
 rwa [di]at this
structure iz (B b sb:Nat) (w:World) (V:dY) (p:af) (lv uv:Value) (under:List (List UInt8)) (wr:World) (V':dY) (st':am):Prop where
 bd:de B b sb wr V' st'
 bk:BK B b V w wr
 nw:V.newer V' w.heap.size
 ln:ah 0 wr lv p.lines
 un:ah 0 wr uv under
 px:wr.heap[w.heap.size]? =some (.cells #[.int .i64 (p.depth:Int),.bool p.div,.string ⟨p.label.toArray⟩,.bool p.opn,lv] 65 (0,0))
theorem iz.told {B b sb:Nat} {w:World} {V:dY} {p:af} {lv uv:Value} {under:List (List UInt8)} {wr w2:World} {V':dY} {st' st2:am} (h:iz B b sb w V p lv uv under wr V' st') (hp:d7 B b sb wr V' st2 w2):∃V2,iz B b sb w V p lv uv under w2 V2 st2∧V'.newer V2 wr.heap.size∧BK B b V' wr w2:=by
 obtain ⟨V2,q1,q2,q3⟩:=hp;refine ⟨V2,⟨q1,h.bk.trans h.nw q2,fun k hk=>?_,h.ln.bk q2 h.bd,h.un.bk q2 h.bd,q2.obj h.bd h.px (fun cs e fz he=>?_)⟩,q3,q2⟩
 ·rcases q3 k hk with e|e
  ·exact h.nw k e
  ·exact Or.inr (Nat.le_trans h.bk.below.size e)
 ·simp only [Obj.cells.injEq]at he;rw [<- he.2.1];decide
theorem iz.below {B b sb:Nat} {w:World} {V:dY} {p:af} {lv uv:Value} {under:List (List UInt8)} {wr w2:World} {V':dY} {st':am} (h:iz B b sb w V p lv uv under wr V' st') (hb:Below wr.heap.size wr w2) (hB:B <= w.heap.size):iz B b sb w V p lv uv under w2 V' st':=
 ⟨h.bd.below hb,h.bk.step (hb.mono h.bk.below.size) hB,h.nw,ae h.ln hb,ae h.un hb,(hb.block _ (Array.getElem?_eq_some_iff.1 h.px).1).trans h.px⟩
structure AP (z:aS) (p:af) (under:List (List UInt8)) (O:List (List UInt8)) (F:am) (i:Nat) (st':am) (out:List (List UInt8)):Prop where
 f1:out++(db z under (p.lines.drop i) st').1=O
 f2:(db z under (p.lines.drop i) st').2=F
 na:st'.atoms.length+el cF (p.lines.drop i) <= 1000000000
 ng:st'.diags.length+el cF (p.lines.drop i) <= 1000000000
 ol:out.length <= i
theorem AP.next {z:aS} {p:af} {under:List (List UInt8)} {O:List (List UInt8)} {F:am} {i:Nat} {st':am} {out:List (List UInt8)} (h:AP z p under O F i st' out) (s:List UInt8) (hs:p.lines[i]? =some s):
  AP z p under O F (i+1) (ey z st' s under).2 (out++[(ey z st' s under).1])∧st'.atoms.length+s.length <= 1000000000∧st'.diags.length+s.length+1 <= 1000000000:=by
 obtain ⟨hi,rfl⟩:=List.getElem?_eq_some_iff.1 hs;have hd:=List.drop_eq_getElem_cons hi;obtain ⟨f1,f2,na,ng,ol⟩:=h;rw [hd]at f1 f2 na ng;rw [db]at f1 f2
 dsimp only at f1 f2
 rw [aB,di]at na ng;have h1:cF 10=1:=rfl;have h3:=tg (p.lines[i]).length z st' p.lines[i] under (Nat.le_refl _);have h4:=h3.na;have h5:=h3.ng;refine ⟨⟨by rw [<- f1];simp,f2,by omega,by omega,by simp;omega⟩,by omega,by omega⟩
theorem de.grown_str {B b sb:Nat} {w w4:World} {V:dY} {st:am} (h:de B b sb w V st) {B2 n:Nat} {v:Value} {xs:List Value} (hr:w.ownsRow B2 9 1 v n xs) (hg:w.grownBy w4 v.ownBlock):de B b sb w4 V st:=by
 have kp:∀{e z n2:Nat} {v2:Value} {x2:List Value} (_:w.ownsRow B e z v2 n2 x2) (_:e≠9),w4.ownsRow B e z v2 n2 x2:=fun hr2 he=>World.ownsRow.kept hr2 hg (aZ hr2 hr he);exact ⟨(hg.block b h.lt (cV hr h.heap (by decide))).trans h.heap,kp h.bl (by decide),kp h.at' (by decide),kp h.df (by decide),kp h.dg (by decide),kp h.tb (by decide),h.ap,h.base⟩
theorem iz.grown {B b sb:Nat} {w:World} {V:dY} {p:af} {lv uv:Value} {under:List (List UInt8)} {wr w4:World} {V':dY} {st':am} (h:iz B b sb w V p lv uv under wr V' st') (hB:B <= w.heap.size) {n:Nat} {v:Value} {xs:List Value} (hr:wr.ownsRow w.heap.size 9 1 v n xs) (hg:wr.grownBy w4 v.ownBlock)
  (hl:∀g,lv.ownBlock=some g ->g<w.heap.size) (hu:∀g,uv.ownBlock=some g ->g<w.heap.size):iz B b sb w V p lv uv under w4 V' st':=by
 have hb:Below w.heap.size wr w4:=(Below.refl _ _).grown hg h.bk.below.size (fun j hj=>(World.ownsRow.lt hr j hj).1);have kp:∀{u:Value} {l:List (List UInt8)} (_:ah 0 wr u l) (_:∀g,u.ownBlock=some g ->g<w.heap.size),ah 0 w4 u l:=fun {u l} h1 h2=>eh h1 fun g hg2=>hb.block g (h2 g hg2);refine ⟨h.bd.grown_str hr hg,h.bk.step hb hB,h.nw,kp h.ln hl,kp h.un hu,(hg.block _ (Array.getElem?_eq_some_iff.1 h.px).1 (cV hr h.px (by decide))).trans h.px⟩
theorem aY.blk {w:World} {g o n:Nat} {l:List aI} (h:aY w 6 (some ⟨g,o,none⟩) n (l.flatMap bS)) (k:Nat) (x:aI) (hk:l[k]? =some x):
  w.cell? ⟨g,o+k*6,none⟩=some (.int .i64 (x.kind:Int))∧w.cell? ⟨g,o+k*6+1,none⟩=some (.int .i64 (x.depth:Int))∧w.cell? ⟨g,o+k*6+2,none⟩=some (.int .i64 x.n)∧w.cell? ⟨g,o+k*6+3,none⟩=some (.bool x.tight)∧w.cell? ⟨g,o+k*6+4,none⟩=some (.string ⟨x.text.toArray⟩)∧w.cell? ⟨g,o+k*6+5,none⟩=some (.string ⟨x.info.toArray⟩):=
 ⟨h.cell (fun _=>rfl) k 0 x _ hk (by omega) rfl,h.cell (fun _=>rfl) k 1 x _ hk (by omega) rfl,h.cell (fun _=>rfl) k 2 x _ hk (by omega) rfl,h.cell (fun _=>rfl) k 3 x _ hk (by omega) rfl,h.cell (fun _=>rfl) k 4 x _ hk (by omega) rfl,h.cell (fun _=>rfl) k 5 x _ hk (by omega) rfl⟩
def Cw (p:af) (x:aI):aI:={x with depth:=x.depth+p.depth}
theorem yt (z:aS) (b:am) (p:af) (under:List (List UInt8)):kx z b p under={(db z under p.lines b).2 with blocks:=(db z under p.lines b).2.blocks++(gh (db z under p.lines b).1).map (Cw p)}:=rfl
theorem A6 {B b sb:Nat} {w:World} {V:dY} {st:am} {z:aS} (h:de B b sb w V st) (hS:jL B w sb z) (hE:jI B w) (p:af) {lao uao:Option Addr} {lcap ucap:Nat} {under:List (List UInt8)} (hL:ah 0 w (.slice lao p.lines.length lcap) p.lines) (hU:ah 0 w (.slice uao under.length ucap) under)
  (hul:under.length <= 100000) (hdp:p.depth <= 1000000) (htw:el hW p.lines <= 1000000) (hna:st.atoms.length+el cF p.lines <= 1000000000) (hng:st.diags.length+el cF p.lines <= 1000000000) (hnb:st.blocks.length+28*p.lines.length <= 1000000000):
  Calls Tryz.prog 19 #[.pointer (some ⟨b,0,none⟩),.agg #[.int .i64 (p.depth:Int),.bool p.div,.string ⟨p.label.toArray⟩,.bool p.opn,.slice lao p.lines.length lcap],.slice uao under.length ucap] w fun e w'=>e=.returned (.tuple #[])∧d7 B b sb w V (kx z st p under) w':=by
 obtain ⟨is,hsi,hs0,hs1,hs2⟩:=info_parts ft;obtain ⟨ib,hbi,hb0,hb1,hb2⟩:=info_parts kT;have hBw:=h.hB;have h1:=Ek p.lines;have hlen:=jj p.lines;have h1m:el cF p.lines <= 1000000:=(by omega);have hto:=kW CV z under p.lines st (fun s _ c _=>by unfold hW;omega) hna;rw [Er]at hto;have hdp2:=vX (db z under p.lines st).1;have hbl:=dE 12 0 rfl (db z under p.lines st).1;rw [nX]at hbl;rw [yt];have hlz:=qp (el cF p.lines) z under p.lines st (fun s hs=>kY hs);obtain ⟨O,F,hOF⟩:∃O F,db z under p.lines st=(O,F):=⟨_,_,rfl⟩
 rw [hOF]at hto hdp2 hbl hlz⊢;simp only at hto hdp2 hbl hlz⊢;have hFb:F.blocks=st.blocks:=hlz.bl;have hba:=(Below.refl w.heap.size w).alloc (Nat.le_refl _) (.cells #[.int .i64 (p.depth:Int),.bool p.div,.string ⟨p.label.toArray⟩,.bool p.opn,.slice lao p.lines.length lcap] 65)
 have HM0:=zh (show iz B b sb w V p (.slice lao p.lines.length lcap) (.slice uao under.length ucap) under (w.alloc (.cells #[.int .i64 (p.depth:Int),.bool p.div,.string ⟨p.label.toArray⟩,.bool p.opn,.slice lao p.lines.length lcap] 65)) V st from
  ⟨h.below hba,BK.of_below hba hBw,V.newer_refl _,ae hL hba,ae hU hba,heap_alloc_new w _⟩)
 have HF0:=zh (show AP z p under O F 0 st []from ⟨by rw [List.drop_zero,hOF];rfl,by rw [List.drop_zero,hOF],by rw [List.drop_zero];exact hna,by rw [List.drop_zero];exact hng,Nat.le_refl _⟩);have HLT:=zh (And.intro (fun g hg=>(World.ownsRow.lt hL g hg).2) (fun g hg=>(World.ownsRow.lt hU g hg).2));have HS:=zh hS;have HE:=zh hE;have hto6:fD O <= 1000000:=(by omega);have HPL:=zh (And.intro hto6 (And.intro hdp2 (And.intro hbl hFb)));have c4:(w.alloc (.cells #[.int .i64 (p.depth:Int),.bool p.div,.string ⟨p.label.toArray⟩,.bool p.opn,.slice lao p.lines.length lcap] 65)).cell? ⟨w.heap.size,4,none⟩=some (.slice lao p.lines.length lcap):=(by rw [cell_of_row _ w.heap.size _ _ _ _ HM0.out.px];rfl);obtain ⟨ll,hll⟩:∃n,p.lines.length=n:=⟨_,rfl⟩
 rw [hll]at HM0 HLT c4 hlen⊢;have HLL:=zh hll;clear h hS hE hL hU hto hto6 hdp2 hbl hlz hOF hFb hba hna hng h1 htw hll;go_enter Tryz.func19,Tryz.ntmps19
 go_upto_region 2 with (fail)
 generalize w.alloc (.cells #[.int .i64 (p.depth:Int),.bool p.div,.string ⟨p.label.toArray⟩,.bool p.opn,.slice lao ll lcap] 65)=W1 at HM0 c4⊢;go_wp2_with fail;clear c4;go_loopw [6,14] (fun u6 u14 wr=>∃(i:Nat) (V':dY) (st':am) (out:List (List UInt8)),u14=.int .i64 (i:Int)∧i <= ll∧iz B b sb w V p (.slice lao ll lcap) (.slice uao under.length ucap) under wr V' st'∧ah w.heap.size wr u6 out∧AP z p under O F i st' out) (fun _ u14 _=>ll - (intOf u14).toNat)
 case atStart=>exact ⟨0,V,st,[],by go_num,Nat.zero_le _,HM0.out,World.ownsRow_nil _ _ _ _,HF0.out⟩
 case round=>
  obtain ⟨i,V',st',out,rfl,hi,hm,hown,hf⟩:=hrel;have hol:=hf.ol;have HM:=zh hm;have HO:=zh hown;have HF:=zh hf;obtain ⟨oao,ocap,hov,hor,hon,hoc⟩:=ab hown;subst hov;clear hm hown hf HM0 HF0;by_cases hlt:i<ll
  ·obtain ⟨s,hs⟩:=bG p.lines i (by rw [HLL.out];exact hlt);have hlr:=(ah.r HM.out.ln).1;obtain ⟨lg,lo,rfl⟩:=hlr.addr (by rw [HLL.out];omega);have cx:=hlr.at' i s hs;obtain ⟨hfn,hsa,hsg⟩:=HF.out.next s hs;have hsz:s.length <= 1000000:=by
    have:=kY (List.mem_of_getElem? hs);omega
   have hss:({data:=s.toArray}:ByteArray).size=s.length:=(by rw [Lib.size_eq]);have HLN:=zh (yS HM.out.bd (HS.out.below HM.out.bk.below) (HE.out.below HM.out.bk.below) ⟨s.toArray⟩ HM.out.un (by omega) hul (by omega) (by omega));have HFN:=zh hfn;clear hlr hfn hsa hsg hs hor hon;go_wp2_with fail;refine HLN.out.mono ?_;rintro e w2 ⟨rfl,hp2⟩;obtain ⟨V2,hm2,hnw2,hbk2⟩:=HM.out.told hp2;have hown2:=HO.out.bk hbk2 HM.out.bd;have HM2:=zh hm2;have HO2:=zh hown2;clear hp2 hm2 hnw2 hbk2 hown2 cx HLN HM HO;obtain ⟨Y,hY⟩:∃Y:ByteArray,(⟨(ey z st' s under).1.toArray⟩:ByteArray)=Y:=⟨_,rfl⟩
   have hYl:Y.data.toList=(ey z st' s under).1:=(by rw [<- hY]);rw [hY];have HY:=zh hYl;obtain ⟨st2,hst2⟩:∃x,(ey z st' s under).2=x:=⟨_,rfl⟩
   replace HM2:Hid (iz B b sb w V p (.slice (some ⟨lg,lo,none⟩) ll lcap) (.slice uao under.length ucap) under w2 V2 (ey z st' s under).2):=HM2;rw [hst2]at HM2 HFN;rw [<- hYl]at HFN;clear hY hYl hst2
   go_wp2_with (first
    |(at_builtin;refine wpList_append_own _ rfl _ _ 22 rfl w.heap.size 9 is (.string ⟨#[]⟩) 1 16 Tryz.underlying22 hsi hs0 hs1 hs2 rfl (by decide) _ _ _ rfl (World.ownsRow.alloc HO2.out _) ⟨w2.heap.size,0,none⟩ 1 1 [.string Y] rfl rfl ?d1 ?d2 ?d3 ?d4 ?d5 ?_))
   case d1=>exact aL _ _ _ _ rfl
   case d2=>intro u hu;simp at hu;rcases hu with rfl;rfl
   case d3=>unfold maxLen;omega
   case d4=>omega
   case d5=>have:=HM2.out.bk.below.size;simp;omega
   intro v4 w4 hown4 hgrow4 _;have hmA:=HM2.out.below ((Below.refl w2.heap.size w2).alloc (Nat.le_refl _) (.cells #[.string Y] 9)) hBw;have HM4:=zh (hmA.grown hBw (World.ownsRow.alloc HO2.out _) hgrow4 HLT.out.1 HLT.out.2);have HO4:=zh (ah.snoc hown4 rfl);clear hown4 hgrow4 hmA;go_wp2_with fail;go_roundw;case rel=>exact ⟨i+1,V2,st2,out++[Y.data.toList],by go_num,by omega,HM4.out,HO4.out,HFN.out⟩
   case measure=>simp [intOf];omega
  ·have hil:i=ll:=(by omega);have hf1:=HF.out.f1;have hf2:=HF.out.f2;rw [hil,<- HLL.out,List.drop_length,db]at hf1 hf2;simp only [List.append_nil]at hf1 hf2;subst hf1;subst hf2;have HPA:=zh (D8 (cap:=ocap) hor hoc HPL.out.1);clear hor hon hil;go_wp2_with fail;refine HPA.out.mono ?_;rintro e w5 ⟨bv,rfl,hbv,hb5⟩;have HM5:=zh (HM.out.below hb5 hBw);have HOF:=zh (show DW V' b bv from fun k hk=>by
    have:=(World.ownsRow.lt hbv k hk.symm).1;exact ⟨fun e=>by have:=HM.out.bd.lt;omega,fun e=>by have:=HM.out.bd.own_lt e;omega⟩)
   obtain ⟨bao,bcap,hbe,_⟩:=ab hbv;subst hbe;have hbn:(gh out).length <= 28*ll:=by
    have:=HPL.out.2.2.1;rw [HLL.out]at this;exact this
   have hdpt:=HPL.out.2.1;have hFb:=HPL.out.2.2.2;obtain ⟨bl,hbl⟩:∃l,gh out=l:=⟨_,rfl⟩
   rw [hbl]at hbv hbn hdpt HOF⊢;obtain ⟨m,hm⟩:∃n,bl.length=n:=⟨_,rfl⟩
   unfold cP at hbv;rw [hm]at hbv hbn HOF⊢;have HBV:=zh (dQ hbv (Nat.zero_le _));have HDP:=zh hdpt;have HMM:=zh (And.intro hm hFb);rw [HLL.out]at hnb;have HBL:=zh hbl;clear hbl hm hbv hb5 HPA HF HO HM hdpt hFb HPL;go_wp2_with fail;go_loopw [29] (fun u29 wr=>∃(j:Nat) (V2:dY) (st2:am),u29=.int .i64 (j:Int)∧j <= m∧iz B b sb w V p (.slice lao ll lcap) (.slice uao under.length ucap) under wr V2 st2∧wr.ownsRow 0 45 6 (.slice bao m bcap) m (bl.flatMap bS)∧DW V2 b (.slice bao m bcap)∧Hid (st2={st' with blocks:=st'.blocks++(bl.take j).map (Cw p)})) (fun u29 _=>m - (intOf u29).toNat)
   case atStart=>exact ⟨0,V',st',by go_num,Nat.zero_le _,HM5.out,HBV.out,HOF.out,zh (by simp)⟩
   case round=>
    obtain ⟨j,V2,st2,rfl,hj,hm2,hbv2,hof2,HST⟩:=hrel;have HM2:=zh hm2;have HB2:=zh hbv2;have HO2:=zh hof2;clear hm2 hbv2 hof2 HM5 HBV HOF;by_cases hjt:j<m
    ·obtain ⟨x,hx⟩:=bG bl j (by rw [HMM.out.1];exact hjt);have hbr:=(bT HB2.out).2.1;obtain ⟨bg,bo,rfl⟩:=hbr.addr (by omega);obtain ⟨x0,x1,x2,x3,x4,x5⟩:=hbr.blk j x hx;have hxd:=HDP.out x (List.mem_of_getElem? hx);have HX:=zh hx;clear hbr hx;obtain ⟨xk,xdp,xn,xt,xtx,xin⟩:=x;simp only at x0 x1 x2 x3 x4 x5 hxd;have hwd:IntKind.i64.wrap ((xdp:Int)+(p.depth:Int))=(xdp:Int)+(p.depth:Int):=IntWalk.i64_in _ (by omega);have hba:=(Below.refl wr.heap.size wr).alloc (Nat.le_refl _) (.cells #[.int .i64 (xk:Int),.int .i64 (xdp:Int),.int .i64 xn,.bool xt,.string ⟨xtx.toArray⟩,.string ⟨xin.toArray⟩] 45);have p0:wr.cell? ⟨w.heap.size,0,none⟩=some (.int .i64 (p.depth:Int)):=(by rw [cell_of_row wr w.heap.size _ _ _ _ HM2.out.px];rfl);have p0A:=(hba.cell (p:=⟨w.heap.size,0,none⟩) (Array.getElem?_eq_some_iff.1 HM2.out.px).1).trans p0;obtain ⟨D,hD⟩:∃D,xdp+p.depth=D:=⟨_,rfl⟩
     have hDI:(xdp:Int)+(p.depth:Int)=(D:Int):=(by omega);have hb9:=(Below.refl wr.heap.size wr).alloc (Nat.le_refl _) (.cells #[.int .i64 (xk:Int),.int .i64 (D:Int),.int .i64 xn,.bool xt,.string ⟨xtx.toArray⟩,.string ⟨xin.toArray⟩] 45);have hx9:=heap_alloc_new wr (.cells #[.int .i64 (xk:Int),.int .i64 (D:Int),.int .i64 xn,.bool xt,.string ⟨xtx.toArray⟩,.string ⟨xin.toArray⟩] 45);have HM9:=zh (HM2.out.below hb9 hBw);have HB9:=zh (ae HB2.out hb9);have HNEW:=zh (And.intro HM2.out.bd.lt (fun k hk=>HM2.out.bd.own_lt hk:∀k,V2.owns k ->k<wr.heap.size));have HDD:=zh hD;clear hba hb9;go_upto_region 11 with (fail)
     obtain ⟨pd,hpe⟩:∃n,wr.heap.size=n:=⟨_,rfl⟩
     rw [hpe]at hx9 HNEW⊢;generalize wr.alloc (.cells #[.int .i64 (xk:Int),.int .i64 (D:Int),.int .i64 xn,.bool xt,.string ⟨xtx.toArray⟩,.string ⟨xin.toArray⟩] 45)=W9 at hx9 HM9 HB9⊢;have HPX:=zh hx9;have hbd9:=HM9.out.bd;have hown:=hbd9.bl;unfold cP at hown;obtain ⟨dao,dcap,hdv,_⟩:=ab hown;have hc0:W9.drew.cell? ⟨b,0,none⟩=some V2.bv:=(by rw [cell_of_row W9.drew b _ _ _ _ hbd9.heap];rfl);have hnn:st2.blocks.length <= 1000000000:=by
      rw [HST.out,HMM.out.2];simp only [List.length_append,List.length_map,List.length_take];omega
     obtain ⟨n,hn⟩:∃n,st2.blocks.length=n:=⟨_,rfl⟩
     rw [hn]at hown hdv hnn;rw [hdv]at hc0 hown;have hbn:=(Below.refl (W9).drew.heap.size (W9).drew).alloc (Nat.le_refl _) (.cells ([.int .i64 (xk:Int),.int .i64 (D:Int),.int .i64 xn,.bool xt,.string ⟨xtx.toArray⟩,.string ⟨xin.toArray⟩]).toArray 45);have hrow:=gm (W9).drew [.int .i64 (xk:Int),.int .i64 (D:Int),.int .i64 xn,.bool xt,.string ⟨xtx.toArray⟩,.string ⟨xin.toArray⟩] 45 6 1 (W9).heap.size rfl rfl (by omega);have hownA:=ae (World.ownsRow.drew hown) hbn;have hbdA:=(hbd9).below ((Below.refl (W9).heap.size W9).drew.trans hbn);have c1A:=(hbn.cell (p:=⟨b,0,none⟩) (hbd9).lt).trans hc0;have pxA:=(hbn.block pd (Array.getElem?_eq_some_iff.1 (HPX).out).1).trans (HPX).out;have HA:=zh (And.intro hbn (And.intro hrow (And.intro hownA hbdA)));have HCA:=zh (And.intro c1A pxA);clear hbn hrow hownA hbdA c1A pxA hown;have HDV:=zh hdv;have HN:=zh hn;clear hdv hn hx9 p0 p0A hwd hpe hDI hD x0 x1 x2 x3 x4 x5 HM2 HB2;refine aQ (S:=fun j W'=>([5,6,7].contains j=true) ->(W'.cell? ⟨b,0,none⟩=some (.slice dao n dcap)∧W'.heap[pd]? =some (.cells #[.int .i64 (xk:Int),.int .i64 (D:Int),.int .i64 xn,.bool xt,.string ⟨xtx.toArray⟩,.string ⟨xin.toArray⟩] 45 (0,0)))) (by kernel_rfl) ?_;refine bC 0 39 ?_;simp only [List.set];refine bC 1 40 ?_;simp only [List.set];refine bC 2 41 ?_;simp only [List.set];refine bC 3 42 ?_;simp only [List.set];refine bC 4 43 ?_;simp only [List.set];refine ga 6 45 ?_ rfl [5] (by kernel_rfl) (fun _ _ _ h=>h) (by decide) rfl (Or.inl ⟨by rfl,?_⟩) ⟨hc0,HPX.out⟩ ?_;rotate_left
     ·rintro w' ⟨s0,s1⟩;obtain ⟨z0,z1,z2,z3,z4,z5⟩:=lR s1;go_simp<;>with_reducible rfl
     simp only [List.set];refine ga 5 44 ?_ rfl [7] (by kernel_rfl) (fun _ _ _ h=>h) (by decide) rfl (Or.inl ⟨by rfl,?_⟩) ⟨hc0,HPX.out⟩ ?_;rotate_left
     ·rintro w' ⟨s0,s1⟩
      skip
      go_simp<;>with_reducible rfl
     simp only [List.set];refine ac (i:=7) (by kernel_rfl) rfl (fun K' hK=>?_);have HKK:=zh hK;clear hK;go_simp
     refine HKK.out _ _ ⟨fun _=>HCA.out,?_⟩;clear HKK K';try simp only [Act.put,List.setIfInBounds_toArray,List.set_cons_zero,List.set_cons_succ,List.getElem_toArray,List.getElem_cons_zero,List.getElem_cons_succ]
     refine ac (i:=8) (by kernel_rfl) rfl (fun K' hK=>?_);have HKK:=zh hK;clear hK;refine bU _ rfl (.tmp 44) (.tmp 46) 28 rfl B 45 ib (.agg #[.int .i64 0,.int .i64 0,.int .i64 0,.bool false,.string ⟨#[]⟩,.string ⟨#[]⟩]) 6 64 Tryz.underlying28 hbi hb0 hb1 hb2 rfl (by decide) (.slice dao n dcap) n (st2.blocks.flatMap bS) rfl HA.out.2.2.1 (some ⟨W9.heap.size,0,none⟩) 1 1 [.int .i64 (xk:Int),.int .i64 (D:Int),.int .i64 xn,.bool xt,.string ⟨xtx.toArray⟩,.string ⟨xin.toArray⟩] rfl HA.out.2.1 (fun h=>by cases h) (by intro u hu;simp at hu;rcases hu with rfl|rfl|rfl|rfl|rfl|rfl<;>rfl) (by unfold maxLen;omega) (by omega) ?c9 ?_;case c9=>exact Nat.le_trans hbd9.hB (by simp)
     intro v8 w8 hown8 hgrow8 hat8;obtain ⟨ao8,c8,hv8,_⟩:=ab hown8;subst hv8;rw [<- HDV.out]at hgrow8 hat8;have hh8:=(HA.out.2.2.2.kept (by have:=HA.out.2.2.2.bl;exact this) hgrow8 (by decide)).trans HA.out.2.2.2.heap;have f8:=frozen_of_row w8 b 0 _ _ hh8;have e8:w8.cell? ⟨b,0,none⟩=some V2.bv:=(by rw [cell_of_row w8 b _ _ _ _ hh8];rfl);have hp8:=HA.out.2.2.2.pushB ⟨xk,D,xn,xt,xtx,xin⟩ (v:=.slice ao8 (n+1) c8) (by
      unfold cP;rw [List.length_append,List.flatMap_append,HN.out];exact hown8) hgrow8 (gO.of hat8 (Nat.le_refl _))
     have hp9:=d7.trans (BK.of_below (((Below.refl W9.heap.size W9).drew).trans HA.out.1) hbd9.hB) (V2.newer_refl _) hp8;obtain ⟨V9,hm9,hnw9,hbk9⟩:=HM9.out.told hp9;have HM10:=zh hm9;have HB10:=zh (B9 HB9.out HO2.out hbk9);have HO10:=zh (HO2.out.step HB9.out hnw9);have HST2:=zh (show ({st2 with blocks:=st2.blocks++[⟨xk,D,xn,xt,xtx,xin⟩]}:am)={st' with blocks:=st'.blocks++(bl.take (j+1)).map (Cw p)}from by
      obtain ⟨hjl,hx2⟩:=List.getElem?_eq_some_iff.1 HX.out;rw [HST.out,List.take_succ_eq_append_getElem hjl,hx2,List.map_append];simp [Cw,HDD.out])
     clear hown8 hgrow8 hat8 hh8 hp8 hp9 hm9 hnw9 hbk9 HA HCA hbd9 HM9 HB9 HO2;refine HKK.out _ _ ⟨fun h=>absurd h (by decide),?_⟩;clear HKK K';try simp only [Act.put,List.setIfInBounds_toArray,List.set_cons_zero,List.set_cons_succ,List.getElem_toArray,List.getElem_cons_zero,List.getElem_cons_succ]
     refine bC 9 48 ?_;simp only [List.set];refine bC 10 49 ?_;simp only [List.set];refine bC 11 50 ?_;simp only [List.set];refine ac (i:=12) (by kernel_rfl) rfl (fun K' hK=>?_);have HKK:=zh hK;clear hK;go_simp
     refine HKK.out _ _ ⟨fun h=>absurd h (by decide),?_⟩;clear HKK K';try simp only [Act.put,List.setIfInBounds_toArray,List.set_cons_zero,List.set_cons_succ,List.getElem_toArray,List.getElem_cons_zero,List.getElem_cons_succ]
     refine aP (by kernel_rfl) ?_ _;clear hc0 f8 e8;go_wp2_with fail;go_roundw;case rel=>exact ⟨j+1,V9,_,by go_num,by omega,HM10.out,HB10.out,HO10.out,HST2⟩
     case measure=>simp [intOf];omega
    ·go_wp2_with fail
     go_end0
     have hst:=HST.out;rw [List.take_of_length_le (by rw [HMM.out.1];omega)]at hst;refine ⟨rfl,V2,?_,HM2.out.bk,HM2.out.nw⟩;rw [HBL.out,<- hst];exact HM2.out.bd
structure DX (B b sb:Nat) (w:World) (V:dY) (M Z:Nat) (R:List UInt8×am) (T:ByteArray) (wr:World) (V':dY) (st':am):Prop where
 bd:de B b sb wr V' st'
 bk:BK B b V w wr
 nw:V.newer V' w.heap.size
 fo:d6 (T.size+1) st' T.data.toList=R
 sz:T.size <= 1000000
 zs:ms fZ T.data.toList <= Z
 nd:st'.defs.length+T.size <= 1000000000000
 nt:st'.tab.length+T.size <= 1000000000000
 ng:st'.diags.length+T.size <= 1000000000000
 mt:∀a∈st'.atoms,a.text.length <= M
 na:st'.atoms.length <= 1000000000
theorem zJ {l:List UInt8} (h:(cN l).2=true):(cN l).1.name.length <= 60:=by
 have key:∀x:List UInt8,(eL x).1.length <= 60:=fun x=>by
  unfold eL;split
  ·simp
  ·split
   ·simp
   ·rename_i h;simp only;omega
 unfold cN at h⊢;split at h
 ·cases h
 ·rename_i h1;rw [if_neg h1];split at h
  ·rename_i h2;rw [if_pos h2];unfold tf at h⊢
   repeat' split
   all_goals first|exact key _|simp [cR.none]
  ·cases h
theorem zV (f:Nat) (b:am) (t:List UInt8) (ht:t≠[]):d6 (f+1) b t=
  (if (cN (aG (az 10 t).1 b.atoms)).2=false then (t,b)
   else if (eg b.tab (cN (aG (az 10 t).1 b.atoms)).1.name (cN (aG (az 10 t).1 b.atoms)).1.note).isSome then
    d6 f (b.diag 4 ((if (cN (aG (az 10 t).1 b.atoms)).1.note then [94]else [])++(cN (aG (az 10 t).1 b.atoms)).1.name)) (az 10 t).2.1
   else d6 f {b with tab:=b.tab++[(cN (aG (az 10 t).1 b.atoms)).1],defs:=b.defs++[(cN (aG (az 10 t).1 b.atoms)).1]} (az 10 t).2.1):=by
 rw [d6,if_neg ht]
theorem qt {B b:Nat} {w W5 w6 w7:World} {V V' V6 V7:dY} (h5:BK B b V w W5) (hn:V.newer V' w.heap.size) (h6:BK B b V' W5.drew w6) (hn6:V'.newer V6 W5.drew.heap.size) (h7:BK B b V6 w6 w7) (hn7:V6.newer V7 w6.heap.size) (hB:B <= w.heap.size):
  BK B b V w w6∧V.newer V6 w.heap.size∧BK B b V w w7∧V.newer V7 w.heap.size:=by
 have h5d:BK B b V w W5.drew:=h5.step ((Below.refl W5.heap.size W5).drew.mono h5.below.size) hB;have g6:=h5d.trans hn h6;have n6:V.newer V6 w.heap.size:=fun k hk=>by
  rcases hn6 k hk with e|e
  ·exact hn k e
  ·exact Or.inr (Nat.le_trans h5d.below.size e)
 refine ⟨g6,n6,g6.trans n6 h7,fun k hk=>?_⟩;rcases hn7 k hk with e|e
 ·exact n6 k e
 ·exact Or.inr (Nat.le_trans g6.below.size e)
theorem yT {B b sb:Nat} {w:World} {V:dY} {st:am} {M Z:Nat} (h:de B b sb w V st) (hE:jI B w) (T:ByteArray) (hs:T.size <= 1000000) (hz:ms fZ T.data.toList <= Z) (hMZ:1000000+Z*M <= 1000000000) (hM:M <= 1000000)
  (hnd:st.defs.length+T.size <= 1000000000000) (hnt:st.tab.length+T.size <= 1000000000000) (hng:st.diags.length+T.size <= 1000000000000) (hmt:∀a∈st.atoms,a.text.length <= M) (hna:st.atoms.length <= 1000000000):
  Calls Tryz.prog 62 #[.pointer (some ⟨b,0,none⟩),.string T] w fun e w'=>e=.returned (.string ⟨(d6 (T.size+1) st T.data.toList).1.toArray⟩)∧d7 B b sb w V (d6 (T.size+1) st T.data.toList).2 w':=by
 have hBw:=h.hB;obtain ⟨idf,hdi,hd0,hd1,hd2⟩:=info_parts td;obtain ⟨R,hR⟩:∃R,d6 (T.size+1) st T.data.toList=R:=⟨_,rfl⟩
 rw [hR];have HP:=zh (show DX B b sb w V M Z R T w V st from ⟨h,BK.refl _ _ _ _,V.newer_refl _,hR,hs,hz,hnd,hnt,hng,hmt,hna⟩);have HE:=zh hE;clear h hE hR hs hz hnd hnt hng hmt hna;go_enter Tryz.func62,Tryz.ntmps62
 go_wp2_with fail;go_loopw [1] (fun u1 wr=>∃(T':ByteArray) (V':dY) (st':am),u1=.string T'∧DX B b sb w V M Z R T' wr V' st') (fun u1 _=>pC u1)
 case atStart=>exact ⟨T,V,st,rfl,HP.out⟩
 case round=>
  obtain ⟨T',V',st',rfl,hp⟩:=hrel;have HP1:=zh hp;clear HP hp;by_cases h0:T'.data.toList=[]
  ·have hT:T'=(⟨#[]⟩:ByteArray):=by
    have:=Lib.mk_data T';rw [h0]at this;exact this.symm
   subst hT;have hf:=HP1.out.fo;rw [show (⟨#[]⟩:ByteArray).size=0 from rfl,d6,if_pos rfl]at hf;go_wp2_with fail;go_ret;rw [<- hf];exact ⟨rfl,V',HP1.out.bd,HP1.out.bk,HP1.out.nw⟩
  ·have hne:T'.toList.isEmpty=false:=cS (Nat.pos_of_ne_zero fun e=>h0 (rJ T' e));have hfo:=HP1.out.fo;rw [zV _ _ _ h0]at hfo;have hcs:=x7 10 T'.data.toList;have hcl:=sY h0;have hcut:=fun W=>CP T' W (by have:=HP1.out.sz;omega);obtain ⟨F,G,is1,hFG⟩:∃F G c,az 10 T'.data.toList=(F,G,c):=⟨_,_,_,rfl⟩
   rw [hFG]at hfo hcs hcl hcut;simp only at hfo hcs hcl hcut;have hF1:=hcs.1.length_le;have hF2:=gC (f:=fZ) hcs.1;have hG2:=gC (f:=fZ) hcs.2;rw [<- Lib.size_eq]at hF1 hcl;have hsz:=HP1.out.sz;have hzs:=HP1.out.zs;obtain ⟨FB,hFB⟩:∃X:ByteArray,(⟨F.toArray⟩:ByteArray)=X:=⟨_,rfl⟩
   obtain ⟨GB,hGB⟩:∃X:ByteArray,(⟨G.toArray⟩:ByteArray)=X:=⟨_,rfl⟩
   have hFl:FB.data.toList=F:=(by rw [<- hFB]);have hGl:GB.data.toList=G:=(by rw [<- hGB]);rw [hFB,hGB]at hcut;have hFs:FB.size=F.length:=(by rw [Lib.size_eq,hFl]);have hGs:GB.size=G.length:=(by rw [Lib.size_eq,hGl]);have hrs:=xm HP1.out.mt F;have hrz:ms fZ F*M <= Z*M:=Nat.mul_le_mul_right _ (by omega);obtain ⟨Q,hQ⟩:∃X:ByteArray,(⟨(aG F st'.atoms).toArray⟩:ByteArray)=X:=⟨_,rfl⟩
   have hQl:Q.data.toList=aG F st'.atoms:=(by rw [<- hQ]);have hQs:Q.size <= 1000000000:=(by rw [Lib.size_eq,hQl];omega);rw [<- hQl]at hfo;have hln:=fun W hW=>BL Q W hW hQs;have hnm:=zJ (l:=Q.data.toList);obtain ⟨d,dis,hd⟩:∃d c,cN Q.data.toList=(d,c):=⟨_,_,rfl⟩
   rw [hd]at hfo hln hnm;simp only at hfo hln hnm;obtain ⟨dn,du,dt,dx,dnote⟩:=d;simp only [cR.val,tU]at hln;simp only at hfo hnm;have HFO:=zh hfo;have HLN:=zh hln;have HNM:=zh hnm;have HCUT:=zh hcut;have HSZ:=zh (And.intro hF1 (And.intro hcl (And.intro hFs (And.intro hGs (And.intro hG2 hGl)))));have HQ:=zh (And.intro hQ hFl);clear hfo hln hnm hcut hcs hcl hF1 hF2 hG2 hsz hzs hFl hGl hFs hGs hrs hrz hQ hQl hFG hFB hGB hd h0;go_wp2_with fail;refine (HCUT.out _).mono ?_;rintro e w2 ⟨rfl,hb2⟩;have hbd2:=HP1.out.bd.below hb2;obtain ⟨aao,acap,hav,har,han,_⟩:=ab hbd2.at';have c1:w2.cell? ⟨b,1,none⟩=some V'.av:=(by rw [cell_of_row w2 b _ _ _ _ hbd2.heap];rfl);rw [hav]at c1;have hvr:=jx FB aao acap st'.atoms w2 (HE.out.below (HP1.out.bk.below.trans (hb2.mono (Nat.le_trans hBw HP1.out.bk.below.size)))).env (fun _=>har) (by have:=HSZ.out;have:=HP1.out.sz;omega) (fun a ha=>Nat.le_trans (HP1.out.mt a ha) hM);rw [HQ.out.2,HQ.out.1]at hvr;obtain ⟨na,hna⟩:∃n,st'.atoms.length=n:=⟨_,rfl⟩
   rw [hna]at c1 hvr;have HVR:=zh hvr;have HB2:=zh hb2;clear hvr hbd2 hav har han hna hb2;go_wp2_with fail;refine HVR.out.mono ?_;rintro e w3 ⟨rfl,hb3⟩;have HB3:=zh (aa HB2.out hb3);clear hb3 c1;go_wp2_with fail;refine (HLN.out _ (HE.out.below (HP1.out.bk.below.trans (HB3.out.mono (Nat.le_trans hBw HP1.out.bk.below.size)))).env).mono ?_;rintro e w4 ⟨rfl,hb4⟩;have HB4:=zh (aa HB3.out hb4);clear hb4 HVR HCUT HLN HB2 HB3;have hbd4:=HP1.out.bd.below HB4.out;have hba:=(Below.refl w4.heap.size w4).alloc (Nat.le_refl _) (.cells #[.string ⟨dn.toArray⟩,.string ⟨du.toArray⟩,.string ⟨dt.toArray⟩,.string ⟨dx.toArray⟩,.bool dnote] 47);have hpx:=heap_alloc_new w4 (.cells #[.string ⟨dn.toArray⟩,.string ⟨du.toArray⟩,.string ⟨dt.toArray⟩,.string ⟨dx.toArray⟩,.bool dnote] 47);have HX4:=zh (And.intro hbd4 (And.intro hba hpx));clear hbd4 hba hpx;cases dis
   ·have hf:=HFO.out;rw [if_pos rfl]at hf;have HR:=zh hf;have HB5:=zh (BK.step HP1.out.bk (HB4.out.mono HP1.out.bk.below.size) hBw);clear hf;go_wp2_with fail;go_ret;rw [<- HR.out];exact ⟨rfl,V',HX4.out.1.below HX4.out.2.1,HB5.out.step (HX4.out.2.1.mono HB5.out.below.size) hBw,HP1.out.nw⟩
   ·have hfo:=HFO.out;rw [if_neg (by simp)]at hfo;have HFO2:=zh hfo;have hnm:=HNM.out rfl;clear hfo HFO HNM;go_upto_region 6 with (fail)
    have hbd5:=HX4.out.1.below HX4.out.2.1;have hadd:=yM V'.bv V'.av V'.dv V'.gv (.pointer (some ⟨sb,0,none⟩)) B b V'.tv st'.tab ⟨dn,du,dt,dx,dnote⟩ _ hbd5.base (hbd5.below (Below.refl _ _).drew).heap (hbd5.below (Below.refl _ _).drew).tb (by have:=HP1.out.nt;omega);have hpd:=HX4.out.2.2;have hs5:w4.heap.size <= (w4.alloc (.cells #[.string ⟨dn.toArray⟩,.string ⟨du.toArray⟩,.string ⟨dt.toArray⟩,.string ⟨dx.toArray⟩,.bool dnote] 47)).heap.size:=(by simp);have HBK5:=zh (((BK.step HP1.out.bk (HB4.out.mono HP1.out.bk.below.size) hBw)).step (HX4.out.2.1.mono (Nat.le_trans HP1.out.bk.below.size HB4.out.size)) hBw);simp only [cR.val,tU]at hadd;generalize w4.alloc (.cells #[.string ⟨dn.toArray⟩,.string ⟨du.toArray⟩,.string ⟨dt.toArray⟩,.string ⟨dx.toArray⟩,.bool dnote] 47)=W5 at hbd5 hadd hpd hs5 HBK5⊢;have hbd5d:=hbd5.below (Below.refl W5.heap.size W5).drew;have s5:W5.drew.cell? ⟨b,5,none⟩=some V'.tv:=(by rw [cell_of_row W5.drew b _ _ _ _ hbd5d.heap];rfl);obtain ⟨pd,hpe⟩:∃n,w4.heap.size=n:=⟨_,rfl⟩
    rw [hpe]at hpd hs5⊢;have hnew:∀k,V'.owns k ->k<pd:=fun k hk=>by rw [<- hpe];exact HX4.out.1.own_lt hk
    have hbp:b<pd:=(by rw [<- hpe];exact HX4.out.1.lt);have hpd':W5.drew.heap[pd]? =_:=hpd;obtain ⟨add,hadd0⟩:∃x,(iU st'.tab ⟨dn,du,dt,dx,dnote⟩).2=x:=⟨_,rfl⟩
    rw [hadd0]at hadd;have HADD:=zh hadd;have HBD5:=zh hbd5d;have HNEW:=zh (And.intro hnew hbp);have HAD0:=zh hadd0;clear hadd hbd5 hbd5d hpe HX4 hnew hbp hadd0;refine aQ (S:=fun j W'=>([3].contains j=true) ->(W'.cell? ⟨b,5,none⟩=some V'.tv∧W'.heap[pd]? =some (.cells #[.string ⟨dn.toArray⟩,.string ⟨du.toArray⟩,.string ⟨dt.toArray⟩,.string ⟨dx.toArray⟩,.bool dnote] 47 (0,0)))) (by kernel_rfl) ?_;refine bC 0 31 ?_;simp only [List.set];refine bC 1 32 ?_;simp only [List.set];refine bC 2 33 ?_;simp only [List.set];refine ga 3 34 ?_ rfl [] (by kernel_rfl) (fun _ _ _ h=>h) (by decide) rfl (Or.inl ⟨by rfl,?_⟩) ⟨s5,hpd'⟩ ?_;rotate_left
    ·rintro w' ⟨s0,s1⟩;obtain ⟨z0,z1,z2,z3,z4⟩:=cG s1;go_simp<;>with_reducible rfl
    simp only [List.set];refine ac (i:=4) (by kernel_rfl) rfl (fun K' hK=>?_);have HKK:=zh hK;clear hK;go_simp
    refine HADD.out.mono ?_;rintro e w6 ⟨rfl,sv',hh6,ho6,hb6,hk6,hat6⟩;have hp6:=HBD5.out.added hh6 ho6 hb6 hk6 hat6;have hpd6:=(hk6 pd (Array.getElem?_eq_some_iff.1 hpd').1 (by have:=HNEW.out.2;omega) (fun e=>by have:=HNEW.out.1 pd (Or.inr (Or.inr (Or.inr (Or.inr e))));omega)).trans hpd';obtain ⟨V6,hbd6,hbk6,hnw6⟩:=hp6;have HP6:=zh (And.intro hbd6 (And.intro hbk6 hnw6));have HPD6:=zh hpd6;clear hh6 ho6 hb6 hk6 hat6 hbd6 hbk6 hnw6 hpd6 hpd' hpd s5 HADD;go_wp2_with fail;refine HKK.out _ _ ⟨fun h=>absurd h (by decide),?_⟩;clear HKK K';try simp only [Act.put,List.setIfInBounds_toArray,List.set_cons_zero,List.set_cons_succ,List.getElem_toArray,List.getElem_cons_zero,List.getElem_cons_succ]
    refine aP (by kernel_rfl) ?_ _;cases hlk:(eg st'.tab dn dnote).isSome
    ·have ha:iU st'.tab ⟨dn,du,dt,dx,dnote⟩=(st'.tab++[⟨dn,du,dt,dx,dnote⟩],true):=(by unfold iU;simp only;rw [hlk];rfl);have hadd:=HAD0.out;rw [ha]at hadd;simp only at hadd;subst hadd;rw [ha]at HP6;have hfo:=HFO2.out;rw [hlk,if_neg (by simp)]at hfo;have HFO3:=zh hfo;clear hfo HFO2;have hbd6:de B b sb w6 V6 {st' with tab:=st'.tab++[⟨dn,du,dt,dx,dnote⟩]}:=HP6.out.1;have hown:=hbd6.df;unfold my at hown;obtain ⟨dao,dcap,hdv,_⟩:=ab hown;have hc2:w6.drew.cell? ⟨b,2,none⟩=some V6.dv:=(by rw [cell_of_row w6.drew b _ _ _ _ hbd6.heap];rfl);obtain ⟨n,hn⟩:∃n,st'.defs.length=n:=⟨_,rfl⟩
     have hnn:n <= 1000000000000:=(by have:=HP1.out.nd;omega);rw [show ({st' with tab:=st'.tab++[⟨dn,du,dt,dx,dnote⟩]}:am).defs=st'.defs from rfl,hn]at hown hdv;rw [hdv]at hc2 hown;have hbn:=(Below.refl (w6).drew.heap.size (w6).drew).alloc (Nat.le_refl _) (.cells ([.string ⟨dn.toArray⟩,.string ⟨du.toArray⟩,.string ⟨dt.toArray⟩,.string ⟨dx.toArray⟩,.bool dnote]).toArray 47);have hrow:=gm (w6).drew [.string ⟨dn.toArray⟩,.string ⟨du.toArray⟩,.string ⟨dt.toArray⟩,.string ⟨dx.toArray⟩,.bool dnote] 47 5 1 (w6).heap.size rfl rfl (by omega);have hownA:=ae (World.ownsRow.drew hown) hbn;have hbdA:=(hbd6).below ((Below.refl (w6).heap.size w6).drew.trans hbn);have c1A:=(hbn.cell (p:=⟨b,2,none⟩) (hbd6).lt).trans hc2;have pxA:=(hbn.block pd (Array.getElem?_eq_some_iff.1 (HPD6).out).1).trans (HPD6).out;have HA:=zh (And.intro hbn (And.intro hrow (And.intro hownA hbdA)));have HCA:=zh (And.intro c1A pxA);clear hbn hrow hownA hbdA c1A pxA hown;have HDV:=zh hdv;have HN:=zh hn;clear hdv hn;go_wp2_with fail;refine aQ (S:=fun j W'=>([5,6,7].contains j=true) ->(W'.cell? ⟨b,2,none⟩=some (.slice dao n dcap)∧W'.heap[pd]? =some (.cells #[.string ⟨dn.toArray⟩,.string ⟨du.toArray⟩,.string ⟨dt.toArray⟩,.string ⟨dx.toArray⟩,.bool dnote] 47 (0,0)))) (by kernel_rfl) ?_;refine bC 0 36 ?_;simp only [List.set];refine bC 1 37 ?_;simp only [List.set];refine bC 2 38 ?_;simp only [List.set];refine bC 3 39 ?_;simp only [List.set];refine bC 4 40 ?_;simp only [List.set];refine ga 6 42 ?_ rfl [5] (by kernel_rfl) (fun _ _ _ h=>h) (by decide) rfl (Or.inl ⟨by rfl,?_⟩) ⟨hc2,HPD6.out⟩ ?_;rotate_left
     ·rintro w' ⟨s0,s1⟩;obtain ⟨z0,z1,z2,z3,z4⟩:=cG s1;go_simp<;>with_reducible rfl
     simp only [List.set];refine ga 5 41 ?_ rfl [7] (by kernel_rfl) (fun _ _ _ h=>h) (by decide) rfl (Or.inl ⟨by rfl,?_⟩) ⟨hc2,HPD6.out⟩ ?_;rotate_left
     ·rintro w' ⟨s0,s1⟩
      skip
      go_simp<;>with_reducible rfl
     simp only [List.set];refine ac (i:=7) (by kernel_rfl) rfl (fun K' hK=>?_);have HKK:=zh hK;clear hK;go_simp
     refine HKK.out _ _ ⟨fun _=>HCA.out,?_⟩;clear HKK K';try simp only [Act.put,List.setIfInBounds_toArray,List.set_cons_zero,List.set_cons_succ,List.getElem_toArray,List.getElem_cons_zero,List.getElem_cons_succ]
     refine ac (i:=8) (by kernel_rfl) rfl (fun K' hK=>?_);have HKK:=zh hK;clear hK;refine bU _ rfl (.tmp 41) (.tmp 43) 30 rfl B 47 idf (.agg #[.string ⟨#[]⟩,.string ⟨#[]⟩,.string ⟨#[]⟩,.string ⟨#[]⟩,.bool false]) 5 72 Tryz.underlying30 hdi hd0 hd1 hd2 rfl (by decide) (.slice dao n dcap) n (ce st'.defs) rfl HA.out.2.2.1 (some ⟨w6.heap.size,0,none⟩) 1 1 [.string ⟨dn.toArray⟩,.string ⟨du.toArray⟩,.string ⟨dt.toArray⟩,.string ⟨dx.toArray⟩,.bool dnote] rfl HA.out.2.1 (fun h=>by cases h) (by intro u hu;simp at hu;rcases hu with rfl|rfl|rfl|rfl|rfl<;>rfl) (by unfold maxLen;omega) (by omega) ?c9 ?_;case c9=>exact Nat.le_trans hbd6.hB (by simp)
     intro v8 w8 hown8 hgrow8 hat8;obtain ⟨ao8,c8,hv8,_⟩:=ab hown8;subst hv8;rw [<- HDV.out]at hgrow8 hat8;have hh8:=(HA.out.2.2.2.kept (by have:=HA.out.2.2.2.df;exact this) hgrow8 (by decide)).trans HA.out.2.2.2.heap;have f8:=frozen_of_row w8 b 2 _ _ hh8;have e8:w8.cell? ⟨b,2,none⟩=some V6.dv:=(by rw [cell_of_row w8 b _ _ _ _ hh8];rfl);have hp8:=HA.out.2.2.2.pushD ⟨dn,du,dt,dx,dnote⟩ (v:=.slice ao8 (n+1) c8) (by
      unfold my;rw [List.length_append,ik];simp only;rw [HN.out];exact hown8) hgrow8 (gO.of hat8 (Nat.le_refl _))
     obtain ⟨V9,r1,r2,r3⟩:=d7.trans (BK.of_below (((Below.refl w6.heap.size w6).drew).trans HA.out.1) hbd6.hB) (V6.newer_refl _) hp8;have HR9:=zh (And.intro r1 (And.intro r2 r3));clear hown8 hgrow8 hat8 hh8 hp8 r1 r2 r3 HA HCA;refine HKK.out _ _ ⟨fun h=>absurd h (by decide),?_⟩;clear HKK K';try simp only [Act.put,List.setIfInBounds_toArray,List.set_cons_zero,List.set_cons_succ,List.getElem_toArray,List.getElem_cons_zero,List.getElem_cons_succ]
     refine bC 9 45 ?_;simp only [List.set];refine bC 10 46 ?_;simp only [List.set];refine bC 11 47 ?_;simp only [List.set];refine ac (i:=12) (by kernel_rfl) rfl (fun K' hK=>?_);have HKK:=zh hK;clear hK;go_simp
     refine HKK.out _ _ ⟨fun h=>absurd h (by decide),?_⟩;clear HKK K';try simp only [Act.put,List.setIfInBounds_toArray,List.set_cons_zero,List.set_cons_succ,List.getElem_toArray,List.getElem_cons_zero,List.getElem_cons_succ]
     refine aP (by kernel_rfl) ?_ _;clear hc2 f8 e8 hbd6;go_wp2_with fail;go_roundw
     case rel=>
      have hp:=HP1.out;obtain ⟨hs1,hs2,hs3,hs4,hs5,hs6⟩:=HSZ.out;obtain ⟨r1,r2,r3⟩:=HR9.out;obtain ⟨hbk6,hn6,hbk7,hn7⟩:=qt HBK5.out hp.nw HP6.out.2.1 HP6.out.2.2 r2 r3 hBw;exact ⟨GB,V9,_,rfl,⟨r1,hbk7,hn7,(by rw [hs6,<- HFO3.out];exact iM _ _ _ _ (by omega) (by omega)),by have:=hp.sz;omega,by rw [hs6];have:=hp.zs;omega,by simp only [List.length_append,List.length_cons,List.length_nil];have:=hp.nd;omega,by simp only [List.length_append,List.length_cons,List.length_nil];have:=hp.nt;omega,by have:=hp.ng;show st'.diags.length+GB.size <= 1000000000000;omega,hp.mt,hp.na⟩⟩
     case measure=>
      obtain ⟨hs1,hs2,hs3,hs4,hs5,hs6⟩:=HSZ.out;simp only [pC];omega
    ·have ha:iU st'.tab ⟨dn,du,dt,dx,dnote⟩=(st'.tab,false):=(by unfold iU;simp only;rw [hlk];rfl);have hadd:=HAD0.out;rw [ha]at hadd;simp only at hadd;subst hadd;rw [ha]at HP6;have hfo:=HFO2.out;rw [hlk,if_pos rfl]at hfo;have hbd6:de B b sb w6 V6 st':=HP6.out.1;have hp:=HP1.out;have n0:w6.cell? ⟨pd,0,none⟩=some (.string ⟨dn.toArray⟩):=(by rw [cell_of_row w6 pd _ _ _ _ HPD6.out];rfl);have n4:w6.cell? ⟨pd,4,none⟩=some (.bool dnote):=(by rw [cell_of_row w6 pd _ _ _ _ HPD6.out];rfl);have hdns:({data:=dn.toArray}:ByteArray).size=dn.length:=(by rw [Lib.size_eq]);cases dnote
     ·have hz1:¬(9223372036854775807:Int)<((⟨#[]⟩:ByteArray).size:Int)+(({data:=dn.toArray}:ByteArray).size:Int):=(by rw [show (⟨#[]⟩:ByteArray).size=0 from rfl];omega);have HD:=zh (mH hbd6 4 ⟨dn.toArray⟩ (by have:=hp.ng;omega) (by decide));have HFO3:=zh (show d6 T'.size (st'.diag 4 dn) G=R from hfo);clear hfo hp hbd6 HFO2;go_wp2_with fail;refine HD.out.mono ?_;rintro e w7 ⟨rfl,hp7⟩;obtain ⟨V7,r1,r2,r3⟩:=hp7;have HR7:=zh (And.intro r1 (And.intro r2 r3));clear r1 r2 r3 HD;go_wp2_with fail;go_roundw
      case rel=>
       have hp:=HP1.out;obtain ⟨hs1,hs2,hs3,hs4,hs5,hs6⟩:=HSZ.out;obtain ⟨r1,r2,r3⟩:=HR7.out;obtain ⟨hbk6,hn6,hbk7,hn7⟩:=qt HBK5.out hp.nw HP6.out.2.1 HP6.out.2.2 r2 r3 hBw;exact ⟨GB,V7,st'.diag 4 (dn),rfl,⟨r1,hbk7,hn7,(by rw [hs6,<- HFO3.out];exact iM _ _ _ _ (by omega) (by omega)),by have:=hp.sz;omega,by rw [hs6];have:=hp.zs;omega,by have:=hp.nd;simp only [am.diag];omega,by have:=hp.nt;simp only [am.diag];omega,by have:=hp.ng;simp only [am.diag,List.length_append,List.length_cons,List.length_nil];omega,hp.mt,hp.na⟩⟩
      case measure=>
       obtain ⟨hs1,hs2,hs3,hs4,hs5,hs6⟩:=HSZ.out;simp only [pC];omega
     ·have hz1:¬(9223372036854775807:Int)<((⟨#[94]⟩:ByteArray).size:Int)+(({data:=dn.toArray}:ByteArray).size:Int):=(by rw [show (⟨#[94]⟩:ByteArray).size=1 from rfl];omega);have HD:=zh (mH hbd6 4 (⟨#[94]⟩++⟨dn.toArray⟩) (by have:=hp.ng;omega) (by decide));have HFO3:=zh (show d6 T'.size (st'.diag 4 (94::dn)) G=R from hfo);clear hfo hp hbd6 HFO2;go_wp2_with fail;refine HD.out.mono ?_;rintro e w7 ⟨rfl,hp7⟩;rw [show ((⟨#[94]⟩:ByteArray)++({data:=dn.toArray}:ByteArray)).data.toList=94::dn by rw [ByteArray.data_append];simp]at hp7;obtain ⟨V7,r1,r2,r3⟩:=hp7;have HR7:=zh (And.intro r1 (And.intro r2 r3));clear r1 r2 r3 HD;go_wp2_with fail;go_roundw
      case rel=>
       have hp:=HP1.out;obtain ⟨hs1,hs2,hs3,hs4,hs5,hs6⟩:=HSZ.out;obtain ⟨r1,r2,r3⟩:=HR7.out;obtain ⟨hbk6,hn6,hbk7,hn7⟩:=qt HBK5.out hp.nw HP6.out.2.1 HP6.out.2.2 r2 r3 hBw;exact ⟨GB,V7,st'.diag 4 (94::dn),rfl,⟨r1,hbk7,hn7,(by rw [hs6,<- HFO3.out];exact iM _ _ _ _ (by omega) (by omega)),by have:=hp.sz;omega,by rw [hs6];have:=hp.zs;omega,by have:=hp.nd;simp only [am.diag];omega,by have:=hp.nt;simp only [am.diag];omega,by have:=hp.ng;simp only [am.diag,List.length_append,List.length_cons,List.length_nil];omega,hp.mt,hp.na⟩⟩
      case measure=>
       obtain ⟨hs1,hs2,hs3,hs4,hs5,hs6⟩:=HSZ.out;simp only [pC];omega
end Go.Proofs.YtcannffahjbjnaaGreatDoor
