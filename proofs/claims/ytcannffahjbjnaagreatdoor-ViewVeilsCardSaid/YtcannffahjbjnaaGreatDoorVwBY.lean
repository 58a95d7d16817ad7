import Derived.Test.YtcannffahjbjnaaGreatDoorVwBX
set_option linter.unusedVariables false
set_option linter.unusedSimpArgs false
set_option maxRecDepth 100000
set_option maxHeartbeats 64000000
namespace Go.Proofs.YtcannffahjbjnaaGreatDoor
open Go.RowKit
structure jz (b sb:Nat) (w:World) (pv:Value) (lp:List aW) (uv:Value) (under:List (List UInt8)) (wr:World) (V':dY) (st':am):Prop where
 bd:de w.heap.size b sb wr V' st'
 bel:Below w.heap.size w wr
 pa:aT w.heap.size wr pv lp
 un:ah 0 wr uv under
 re:wr.heap[w.heap.size]? =some (.cells #[.slice none 0 0,.slice none 0 0,.slice none 0 0,.slice none 0 0] 33 (0,0))
theorem jz.below {b sb:Nat} {w:World} {pv:Value} {lp:List aW} {uv:Value} {under:List (List UInt8)} {wr w2:World} {V':dY} {st':am} (h:jz b sb w pv lp uv under wr V' st') (hb:Below wr.heap.size wr w2):jz b sb w pv lp uv under w2 V' st':=
 ⟨h.bd.below hb,h.bel.trans (hb.mono h.bel.size),h.pa.below hb,ae h.un hb,(hb.block _ (Array.getElem?_eq_some_iff.1 h.re).1).trans h.re⟩
theorem jz.told {b sb:Nat} {w:World} {pv:Value} {lp:List aW} {uv:Value} {under:List (List UInt8)} {wr w2:World} {V':dY} {st' st2:am} (h:jz b sb w pv lp uv under wr V' st') (hp:d7 w.heap.size b sb wr V' st2 w2):∃V2,jz b sb w pv lp uv under w2 V2 st2:=by
 obtain ⟨V2,q1,q2,q3⟩:=hp;refine ⟨V2,q1,h.bel.trans q2.below,⟨q2.own h.bd h.pa.row (by decide) (by decide) (by decide) (by decide) (by decide),fun i x hx=>(h.pa.lines i x hx).bk q2 h.bd,h.pa.apart⟩,h.un.bk q2 h.bd,q2.obj h.bd h.re (fun cs e fz he=>?_)⟩;simp only [Obj.cells.injEq]at he;rw [<- he.2.1];decide
theorem jz.under {b sb:Nat} {w:World} {pv:Value} {lp:List aW} {uv uv2:Value} {under under2:List (List UInt8)} {wr:World} {V':dY} {st':am} (h:jz b sb w pv lp uv under wr V' st') (hu:ah 0 wr uv2 under2):jz b sb w pv lp uv2 under2 wr V' st':=
 ⟨h.bd,h.bel,h.pa,hu,h.re⟩
theorem aY.part {w:World} {g o n:Nat} {l:List aW} (h:aY w 5 (some ⟨g,o,none⟩) n (l.flatMap aq)) (k:Nat) (x:aW) (hk:l[k]? =some x):
  w.cell? ⟨g,o+k*5,none⟩=some (.int .i64 (x.1.depth:Int))∧w.cell? ⟨g,o+k*5+1,none⟩=some (.bool x.1.div)∧w.cell? ⟨g,o+k*5+2,none⟩=some (.string ⟨x.1.label.toArray⟩)∧w.cell? ⟨g,o+k*5+3,none⟩=some (.bool x.1.opn)∧w.cell? ⟨g,o+k*5+4,none⟩=some x.2:=
 ⟨h.cell dr k 0 x _ hk (by omega) rfl,h.cell dr k 1 x _ hk (by omega) rfl,h.cell dr k 2 x _ hk (by omega) rfl,h.cell dr k 3 x _ hk (by omega) rfl,h.cell dr k 4 x _ hk (by omega) rfl⟩
theorem yV {w:World} {sb:Nat} {z:aS} (hS:jL w.heap.size w sb z) (hE:jI w.heap.size w) (doc:ByteArray) (hd:doc.size <= 6000):
  Calls Tryz.prog 7 #[.pointer (some ⟨sb,0,none⟩),.string doc] w fun e w'=>∃(b:Nat) (V:dY),e=.returned (.agg #[V.bv,V.av,V.dv,V.gv])∧de w.heap.size b sb w' V (fG z doc.data.toList)∧Below w.heap.size w w':=by
 obtain ⟨ib,hbi,hb0,hb1,hb2⟩:=info_parts kT;obtain ⟨hok,hll,hlx⟩:=qu doc.data.toList (by rw [<- Lib.size_eq];exact hd);have hbl:fG z doc.data.toList=nC ((bF (aO (aR doc.data.toList))).foldl (cO z) (am.none,[],none)).1:=rfl;have hrp:=fun W=>qA doc W (by omega);have hrl:=mj doc.data.toList;rw [<- Lib.size_eq]at hrl;obtain ⟨X,hX⟩:∃X:ByteArray,(⟨(aR doc.data.toList).toArray⟩:ByteArray)=X:=⟨_,rfl⟩
 have hXl:aR doc.data.toList=X.data.toList:=(by rw [<- hX]);have hXs:X.size <= 24000:=(by rw [Lib.size_eq,<- hXl];omega);rw [hX]at hrp;rw [hXl]at hok hll hlx hbl;have hsp:=fun W hW=>sB X W hW (by omega);obtain ⟨ls,hls⟩:∃l,aO X.data.toList=l:=⟨_,rfl⟩
 rw [hls]at hok hll hlx hbl;simp only [hls]at hsp;obtain ⟨R,hR⟩:∃R,(bF ls).foldl (cO z) (am.none,[],none)=R:=⟨_,rfl⟩
 rw [hR]at hbl;have HRP:=zh hrp;have HSP:=zh hsp;have HPA:=zh (fun ao cap W hW=>oR ao cap ls W hW (by omega) (fun x hx=>by have:=hlx x hx;omega));have HBL:=zh hbl;have HOK:=zh hok;have HF0:=zh (jG.start z hok hR);have HS:=zh hS;have HE:=zh hE;rw [hbl];have hba:=(Below.refl w.heap.size w).alloc (Nat.le_refl _) (.cells #[.slice none 0 0,.slice none 0 0,.slice none 0 0,.slice none 0 0] 33);have hbb:=hba.alloc hba.size (.cells #[.slice none 0 0,.slice none 0 0,.slice none 0 0,.slice none 0 0,.pointer (some ⟨sb,0,none⟩),.slice none 0 0] 60);have hb1':=(Below.refl (w.heap.size+1) (w.alloc (.cells #[.slice none 0 0,.slice none 0 0,.slice none 0 0,.slice none 0 0] 33))).alloc (by simp) (.cells #[.slice none 0 0,.slice none 0 0,.slice none 0 0,.slice none 0 0,.pointer (some ⟨sb,0,none⟩),.slice none 0 0] 60);have hre:=(hb1'.block w.heap.size (by omega)).trans (heap_alloc_new w (.cells #[.slice none 0 0,.slice none 0 0,.slice none 0 0,.slice none 0 0] 33));have hbx:=heap_alloc_new (w.alloc (.cells #[.slice none 0 0,.slice none 0 0,.slice none 0 0,.slice none 0 0] 33)) (.cells #[.slice none 0 0,.slice none 0 0,.slice none 0 0,.slice none 0 0,.pointer (some ⟨sb,0,none⟩),.slice none 0 0] 60);rw [World.size_alloc]at hbx
 have HM0:=zh (show jz (w.heap.size+1) sb w (.slice none 0 0) [] (.slice none 0 0) [] _ ⟨.slice none 0 0,.slice none 0 0,.slice none 0 0,.slice none 0 0,.slice none 0 0⟩ am.none from
  ⟨⟨hbx,World.ownsRow_nil _ _ _ _,World.ownsRow_nil _ _ _ _,World.ownsRow_nil _ _ _ _,World.ownsRow_nil _ _ _ _,World.ownsRow_nil _ _ _ _,Or.inl rfl,by omega⟩,hbb,aT.nil _ _,World.ownsRow_nil _ _ _ _,hre⟩)
 clear hok hll hlx hbl hrp hrl hX hXl hsp hls hR hS hE hba hbb hb1' hre hbx;go_enter Tryz.func7,Tryz.ntmps7
 go_upto_region 6 with (fail)
 generalize (w.alloc (.cells #[.slice none 0 0,.slice none 0 0,.slice none 0 0,.slice none 0 0] 33)).alloc (.cells #[.slice none 0 0,.slice none 0 0,.slice none 0 0,.slice none 0 0,.pointer (some ⟨sb,0,none⟩),.slice none 0 0] 60)=W1 at HM0⊢;obtain ⟨b,hb⟩:∃n,w.heap.size+1=n:=⟨_,rfl⟩
 rw [hb]at HM0⊢;clear hb;go_wp2_with fail;refine (HRP.out _).mono ?_;rintro e w2 ⟨rfl,hb2⟩;have HM2:=zh (HM0.out.below hb2);clear hb2 HM0 HRP;go_wp2_with fail;refine (HSP.out w2 (HE.out.below HM2.out.bel).env).mono ?_;rintro e w3 ⟨c,rfl,hlc,hr3,hb3⟩;have HM3:=zh (HM2.out.below hb3);have HR3:=zh hr3;clear hb3 HM2 HSP hr3;go_wp2_with fail;refine (HPA.out _ c w3 HR3.out).mono ?_;rintro e w4 ⟨pv,lp,rfl,hpa,hmap,hb4⟩;have HM4:=zh (show jz b sb w pv lp (.slice none 0 0) [] w4 _ am.none from by
  have h:=HM3.out.below hb4;exact ⟨h.bd,h.bel,hpa.mono HM3.out.bel.size,h.un,h.re⟩)
 obtain ⟨pao,pcap,hpe,_⟩:=ab hpa.row;subst hpe;rw [<- hmap]at HF0 HOK;have hpl:=HOK.out.len;rw [List.length_map]at hpl;obtain ⟨n,hn⟩:∃n,lp.length=n:=⟨_,rfl⟩
 rw [hn]at HM4 hpl⊢;have HN:=zh hn;clear hpa hb4 HM3 HR3 HPA hmap hn;go_wp2_with fail;go_loopw [6,7,20] (fun u6 u7 u20 wr=>∃(i:Nat) (V':dY) (q:qX),u7=.int .i64 (wH q.2.2)∧u20=.int .i64 (i:Int)∧i <= n∧jz b sb w (.slice pao n pcap) lp u6 q.2.1 wr V' q.1∧jG z (lp.map (·.1)) R i q) (fun _ _ u20 _=>n - (intOf u20).toNat)
 case atStart=>exact ⟨0,_,(am.none,[],none),rfl,by go_num,Nat.zero_le _,HM4.out,HF0.out⟩
 case round=>
  obtain ⟨i,V',q,rfl,rfl,hi,hm,hf⟩:=hrel;have HM:=zh hm;have HF:=zh hf;clear hm hf HM4 HF0;by_cases hlt:i<n
  ·obtain ⟨x,hx⟩:=bG lp i (by rw [HN.out];exact hlt);have hpr:=(bT HM.out.pa.row).2.1;obtain ⟨pg,po,rfl⟩:=hpr.addr (by rw [HN.out];omega);obtain ⟨y0,y1,y2,y3,y4⟩:=hpr.part i x hx;have hln:=HM.out.pa.lines i x hx;have hpx:(lp.map (·.1))[i]? =some x.1:=(by rw [List.getElem?_map,hx];rfl);obtain ⟨p,lv⟩:=x;simp only at y0 y1 y2 y3 y4 hln hpx;obtain ⟨lao,lcap,hle,_⟩:=ab hln;subst hle;have hpm:=List.mem_of_getElem? hpx;have hfn:=HF.out.next HOK.out hpx;have hdp:=fun hs=>HF.out.depth hpx hs;have hul:=HF.out.ul;have hna:=HF.out.na;have hng:=HF.out.ng;have hnb:=HF.out.nb;have hsum:=rC (wP yX 3) _ i p hpx;have hwp:wP yX 3 p=28*el cF p.lines+3:=(by unfold wP;rw [tB]);have hlo:=jj p.lines;have hW:=HOK.out.sW p hpm;have hlb:=HOK.out.lab p hpm;have hba:=(Below.refl wr.heap.size wr).alloc (Nat.le_refl _) (.cells #[.int .i64 (p.depth:Int),.bool p.div,.string ⟨p.label.toArray⟩,.bool p.opn,.slice lao p.lines.length lcap] 65);have hkx:=heap_alloc_new wr (.cells #[.int .i64 (p.depth:Int),.bool p.div,.string ⟨p.label.toArray⟩,.bool p.opn,.slice lao p.lines.length lcap] 65);have HM2:=zh (HM.out.below hba);have HLN:=zh (dQ (ae hln hba) (Nat.zero_le _));have HFN:=zh hfn;obtain ⟨uao,ucap,hue,hur,hun,huc⟩:=ab HM2.out.un;subst hue;obtain ⟨K,hK⟩:∃k,wr.heap.size=k:=⟨_,rfl⟩
   obtain ⟨ll,hll⟩:∃k,p.lines.length=k:=⟨_,rfl⟩
   rw [hll]at y4 hkx HM2 HLN;have HLL:=zh hll;clear hpr hx hln hpm hfn hba hll;go_upto_region 9 with (fail)
   rw [hK]at hkx;generalize wr.alloc (.cells #[.int .i64 (p.depth:Int),.bool p.div,.string ⟨p.label.toArray⟩,.bool p.opn,.slice lao ll lcap] 65)=W2 at hkx HM2 HLN hur⊢;obtain ⟨k0,k1,k2,k3,k4⟩:=cG hkx;have HKX:=zh hkx;obtain ⟨st',under,hd⟩:=q;simp only at hul hna hng hnb hdp hur hun huc HM2 HFN;clear y0 y1 y2 y3 y4 hkx hK HM HF;have hskip:(hd.any fun h=>decide (h<p.depth))=true ->∃h,hd=some h∧h<p.depth:=fun hs=>by
    cases hd with
    |none=>cases hs
    |some h=>exact ⟨h,rfl,by simpa using hs⟩
   cases hs:(hd.any fun h=>decide (h<p.depth))with
   |true=>
    obtain ⟨h',rfl,hlt2⟩:=hskip hs;have e:cO z (st',under,some h') p=(st',under,some h'):=(by unfold cO;rw [if_pos hs]);rw [e]at HFN;have hg1:(0:Int) <= (h':Int):=(by omega);have hg2:(h':Int)<(p.depth:Int):=(by omega);clear hskip hs e hdp hlt2;simp only [wH];go_wp2_with fail;go_roundw;case rel=>exact ⟨i+1,V',(st',under,some h'),rfl,by go_num,by omega,HM2.out,HFN.out⟩
    case measure=>simp [intOf];omega
   |false=>
    have hdu:=hdp hs;have hgd:hd=none∨∃h:Nat,hd=some h∧(0:Int) <= (h:Int)∧¬(h:Int)<(p.depth:Int):=by
     cases hd with
     |none=>exact Or.inl rfl
     |some h=>exact Or.inr ⟨h,rfl,by omega,fun e=>(by simpa using hs:¬h<p.depth) (by omega)⟩
    have hdc:(p.depth:Int) <= (ucap:Int):=(by omega);have hd0:(0:Int) <= (p.depth:Int):=(by omega);have htl:(under.take p.depth).length=p.depth:=(by rw [List.length_take];omega);have HTK:=zh (And.intro htl (show ah 0 W2 (.slice uao p.depth ucap) (under.take p.depth)from by
     have h:=fw HM2.out.un p.depth hdu uao under.length ucap rfl;unfold ah;rw [htl,List.map_take];rw [Nat.mul_one]at h;exact h))
    have HEQ:=zh (show (p.div=false ->cO z (st',under,hd) p=(kx z st' p (under.take p.depth),under.take p.depth,none))∧(p.div=true ->(z.sees (under.take p.depth++[p.label])=false ->cO z (st',under,hd) p=(st',under.take p.depth++[p.label],some p.depth))∧(z.sees (under.take p.depth++[p.label])=true ->cO z (st',under,hd) p=({(if p.opn=true then (st'.label z p.label).diag 2 p.label else st'.label z p.label)with blocks:=(if p.opn=true then (st'.label z p.label).diag 2 p.label else st'.label z p.label).blocks++[⟨9,p.depth,0,false,[],p.label⟩]},under.take p.depth++[p.label],none)))from by
     have h0:¬(hd.any fun h=>decide (h<p.depth))=true:=(by rw [hs];simp);refine ⟨fun h1=>?_,fun h1=>⟨fun h2=>?_,fun h2=>?_⟩⟩
     ·unfold cO;rw [if_neg h0];simp only;rw [if_pos h1]
     ·unfold cO;rw [if_neg h0];simp only;rw [if_neg (by rw [h1];simp),if_pos h2]
     ·unfold cO;rw [if_neg h0];simp only;rw [if_neg (by rw [h1];simp),if_neg (by rw [h2];simp)])
    clear hs hskip hdp hpx htl;rcases hgd with rfl|⟨h',rfl,hg1,hg2⟩
    all_goals
     simp only [wH];cases hdv:p.div with
     |false=>
      have HFN2:=zh (show jG z (lp.map (·.1)) R (i+1) (kx z st' p (under.take p.depth),under.take p.depth,none)from by
       have e:=HEQ.out.1 hdv;have h:=HFN.out;rw [e]at h;exact h)
      have HRU:=zh (A6 HM2.out.bd (HS.out.below HM2.out.bel) (HE.out.below HM2.out.bel) p (lao:=lao) (lcap:=lcap) (uao:=uao) (ucap:=ucap) (under:=under.take p.depth) (by have:=HLN.out;unfold ah;rw [HLL.out];exact this) (by rw [HTK.out.1];exact HTK.out.2) (by rw [HTK.out.1];omega) (by omega) (by omega) (by omega) (by omega) (by omega));rw [hdv,HLL.out,HTK.out.1]at HRU;rw [hdv]at k1 HKX;clear hdc hd0;go_wp2_with fail;refine HRU.out.mono ?_;rintro e w5 ⟨rfl,hp5⟩;obtain ⟨V5,hm5⟩:=HM2.out.told hp5;have hu5:ah 0 w5 (.slice uao p.depth ucap) (under.take p.depth):=by
       obtain ⟨Vx,r1,r2,r3⟩:=hp5;exact ah.bk HTK.out.2 r2 HM2.out.bd
      have HM5:=zh (hm5.under hu5);clear hp5 hm5 hu5 HRU;go_wp2_with fail;go_roundw;case rel=>exact ⟨i+1,V5,(kx z st' p (under.take p.depth),under.take p.depth,none),rfl,by go_num,by omega,HM5.out,HFN2.out⟩
      case measure=>simp [intOf];omega
     |true=>
      have hlb2:=hlb hdv;have hcap:uao=none ->ucap=0:=hun;have HW:=zh (qR (cap:=ucap) ⟨p.label.toArray⟩ (ah.r HTK.out.2).1 hcap (by rw [HTK.out.1];omega));rw [HTK.out.1]at HW;rw [hdv]at k1 HKX;clear hdc hd0 hcap;go_wp2_with fail;refine HW.out.mono ?_;rintro e w5 ⟨v5,rfl,hv5,hb5⟩;replace hv5:ah W2.heap.size w5 v5 (under.take p.depth++[p.label]):=hv5;obtain ⟨ao5,c5,hve,hr5,_,_⟩:=ab hv5;subst hve;have hl5:(under.take p.depth++[p.label]).length=p.depth+1:=(by rw [List.length_append,HTK.out.1];rfl);have HM5:=zh ((HM2.out.below hb5).under (dQ hv5 (Nat.zero_le _)));have HKX5:=zh ((hb5.block K (Array.getElem?_eq_some_iff.1 HKX.out).1).trans HKX.out);have HSE:=zh ((HS.out.below HM5.out.bel).sees (ao:=ao5) (cap:=c5) hr5 (by rw [hl5];omega));obtain ⟨U,hU⟩:∃l,under.take p.depth++[p.label]=l:=⟨_,rfl⟩
      obtain ⟨se,hse⟩:∃x,z.sees U=x:=⟨_,rfl⟩
      have HEQ2:=zh (HEQ.out.2 hdv);rw [hU]at HM5 HSE hl5 HEQ2⊢;rw [hse]at HSE HEQ2;obtain ⟨ul,hul5⟩:∃n,U.length=n:=⟨_,rfl⟩
      rw [hul5]at HM5 HSE hl5⊢;have HL5:=zh hl5;clear hv5 hr5 hb5 hU hse HW HM2 HKX hul5 hl5 k0 k1 k2 k3 k4;go_wp2_with fail;refine HSE.out.mono ?_;rintro e w6 ⟨rfl,hb6⟩;have HM6:=zh (HM5.out.below hb6);have HKX6:=zh ((hb6.block K (Array.getElem?_eq_some_iff.1 HKX5.out).1).trans HKX5.out);clear hb6 HM5 HKX5 HSE;obtain ⟨k0,k1,k2,k3,k4⟩:=cG HKX6.out;cases se
      ·have HFN2:=zh (show jG z (lp.map (·.1)) R (i+1) (st',U,some p.depth)from by
        have e:=HEQ2.out.1 rfl;have h:=HFN.out;rw [e]at h;exact h)
       go_wp2_with fail;go_roundw;case rel=>exact ⟨i+1,V',(st',U,some p.depth),rfl,by go_num,by omega,HM6.out,HFN2.out⟩
       case measure=>simp [intOf];omega
      ·have HLB:=zh (lQ HM6.out.bd (HS.out.below HM6.out.bel) ⟨p.label.toArray⟩ (by omega));rw [show ({data:=p.label.toArray}:ByteArray).data.toList=p.label from rfl]at HLB;have e:=HEQ2.out.2 rfl;have HFN2:=zh (show jG z (lp.map (·.1)) R (i+1) ({(if p.opn=true then (st'.label z p.label).diag 2 p.label else st'.label z p.label)with blocks:=(if p.opn=true then (st'.label z p.label).diag 2 p.label else st'.label z p.label).blocks++[⟨9,p.depth,0,false,[],p.label⟩]},U,none)from by
        have h:=HFN.out;rw [e]at h;exact h)
       obtain ⟨z1,z2,z3,z4,z5⟩:=fS z st' p.label;obtain ⟨st6,hst6⟩:∃x,st'.label z p.label=x:=⟨_,rfl⟩
       rw [hst6]at HLB HFN2 z5;clear e hst6 z1 z2 z3 z4 HEQ2;go_wp2_with fail;refine HLB.out.mono ?_;rintro e w7 ⟨rfl,hp7⟩;obtain ⟨V7,hm7⟩:=HM6.out.told hp7;have hkx7:w7.heap[K]? =some (.cells #[.int .i64 (p.depth:Int),.bool true,.string ⟨p.label.toArray⟩,.bool p.opn,.slice lao ll lcap] 65 (0,0)):=by
        obtain ⟨Vx,r1,r2,r3⟩:=hp7;refine r2.obj HM6.out.bd HKX6.out (fun cs e fz he=>?_);simp only [Obj.cells.injEq]at he;rw [<- he.2.1];decide
       have HM7:=zh hm7;have HKX7:=zh hkx7;clear hp7 hm7 hkx7 HM6 HKX6 HLB k0 k1 k2 k3 k4;obtain ⟨k0,k1,k2,k3,k4⟩:=cG HKX7.out;cases hop:p.opn with
       |false=>
        have HFN3:=zh (show jG z (lp.map (·.1)) R (i+1) ({st6 with blocks:=st6.blocks++[⟨9,p.depth,0,false,[],p.label⟩]},U,none)from by
         have h:=HFN2.out;rw [hop]at h;exact h)
        rw [hop]at k3 HKX7;go_upto_region 20 with (fail)
        have hbd9:=(HM7).out.bd;have hown:=hbd9.bl;unfold cP at hown;obtain ⟨dao,dcap,hdv,_⟩:=ab hown;have hc0:(w7).cell? ⟨b,0,none⟩=some (V7).bv:=(by rw [cell_of_row w7 b _ _ _ _ hbd9.heap];rfl);have hnn:(st6).blocks.length <= 1000000000:=by
         have:=(HFN3).out.nb;simp only [List.length_append,List.length_cons,List.length_nil]at this;omega
        obtain ⟨m,hm⟩:∃n,(st6).blocks.length=n:=⟨_,rfl⟩
        rw [hm]at hown hdv hnn;rw [hdv]at hc0 hown;have hbA:=(Below.refl (w7).heap.size w7).alloc (Nat.le_refl _) (.cells #[.int .i64 9,.int .i64 (p.depth:Int),.int .i64 0,.bool false,.string ⟨#[]⟩,.string ⟨p.label.toArray⟩] 45);have hbdA:=hbd9.below hbA;have HA:=zh (And.intro hbA (And.intro hbdA hown));have HDV:=zh hdv;have HMM:=zh hm;clear hbA hbdA hown hdv hm
        go_wp2_with (first
         |(at_builtin;refine dL _ rfl _ _ 28 rfl w.heap.size 45 ib (.agg #[.int .i64 0,.int .i64 0,.int .i64 0,.bool false,.string ⟨#[]⟩,.string ⟨#[]⟩]) 6 64 Tryz.underlying28 hbi hb0 hb1 hb2 rfl (by decide) _ m _ rfl (World.ownsRow.alloc HA.out.2.2 _) ⟨(w7).heap.size,0,none⟩ 1 1 [.int .i64 9,.int .i64 (p.depth:Int),.int .i64 0,.bool false,.string ⟨#[]⟩,.string ⟨p.label.toArray⟩] rfl rfl ?c1 ?c2 ?c3 ?c4 ?c5 ?_))
        case c1=>exact aL _ _ _ _ rfl
        case c2=>intro u hu;simp at hu;rcases hu with rfl|rfl|rfl|rfl|rfl|rfl<;>rfl
        case c3=>unfold maxLen;omega
        case c4=>omega
        case c5=>have:=hbd9.hB;simp;omega
        intro v9 w9 hown9 honto9 hat9;obtain ⟨ao9,c9,hv9,_⟩:=ab hown9;subst hv9;have hgrow9:=honto9.grown;rw [<- HDV.out]at hgrow9 hat9;have hh9:=(HA.out.2.1.kept (by have:=HA.out.2.1.bl;exact this) hgrow9 (by decide)).trans HA.out.2.1.heap;have f9:=frozen_of_row w9 b 0 _ _ hh9;have e9:w9.cell? ⟨b,0,none⟩=some (V7).bv:=(by rw [cell_of_row w9 b _ _ _ _ hh9];rfl);have hp9:=HA.out.2.1.pushB ⟨9,p.depth,0,false,[],p.label⟩ (v:=.slice ao9 (m+1) c9) (by
         unfold cP;rw [List.length_append,List.flatMap_append,HMM.out];exact hown9) hgrow9 (gO.of hat9 (by simp))
        have hp10:=d7.trans (BK.of_below HA.out.1 hbd9.hB) ((V7).newer_refl _) hp9;obtain ⟨V10,hm10⟩:=(HM7).out.told hp10;have HM10:=zh hm10;clear hown9 honto9 hat9 hgrow9 hh9 hp9 hp10 hm10 hbd9 HA;go_wp2_with fail;go_roundw;case rel=>exact ⟨i+1,V10,_,rfl,by go_num,by omega,HM10.out,(HFN3).out⟩
        case measure=>simp [intOf];omega
       |true=>
        have HFN3:=zh (show jG z (lp.map (·.1)) R (i+1) ({st6.diag 2 p.label with blocks:=(st6.diag 2 p.label).blocks++[⟨9,p.depth,0,false,[],p.label⟩]},U,none)from by
         have h:=HFN2.out;rw [hop]at h;exact h)
        rw [hop]at k3 HKX7;have HDG:=zh (mH HM7.out.bd 2 ⟨p.label.toArray⟩ (by omega) (by decide));rw [show ({data:=p.label.toArray}:ByteArray).data.toList=p.label from rfl]at HDG;go_wp2_with fail;refine HDG.out.mono ?_;rintro e w8 ⟨rfl,hp8⟩;obtain ⟨V8,hm8⟩:=HM7.out.told hp8;have hkx8:w8.heap[K]? =some (.cells #[.int .i64 (p.depth:Int),.bool true,.string ⟨p.label.toArray⟩,.bool true,.slice lao ll lcap] 65 (0,0)):=by
         obtain ⟨Vx,r1,r2,r3⟩:=hp8;refine r2.obj HM7.out.bd HKX7.out (fun cs e fz he=>?_);simp only [Obj.cells.injEq]at he;rw [<- he.2.1];decide
        have HM8:=zh hm8;have HKX8:=zh hkx8;clear hp8 hm8 hkx8 HM7 HKX7 HDG k0 k1 k2 k3 k4;obtain ⟨k0,k1,k2,k3,k4⟩:=cG HKX8.out;go_upto_region 20 with (fail)
        have hbd9:=(HM8).out.bd;have hown:=hbd9.bl;unfold cP at hown;obtain ⟨dao,dcap,hdv,_⟩:=ab hown;have hc0:(w8).cell? ⟨b,0,none⟩=some (V8).bv:=(by rw [cell_of_row w8 b _ _ _ _ hbd9.heap];rfl);have hnn:((st6.diag 2 p.label)).blocks.length <= 1000000000:=by
         have:=(HFN3).out.nb;simp only [List.length_append,List.length_cons,List.length_nil]at this;omega
        obtain ⟨m,hm⟩:∃n,((st6.diag 2 p.label)).blocks.length=n:=⟨_,rfl⟩
        rw [hm]at hown hdv hnn;rw [hdv]at hc0 hown;have hbA:=(Below.refl (w8).heap.size w8).alloc (Nat.le_refl _) (.cells #[.int .i64 9,.int .i64 (p.depth:Int),.int .i64 0,.bool false,.string ⟨#[]⟩,.string ⟨p.label.toArray⟩] 45);have hbdA:=hbd9.below hbA;have HA:=zh (And.intro hbA (And.intro hbdA hown));have HDV:=zh hdv;have HMM:=zh hm;clear hbA hbdA hown hdv hm
        go_wp2_with (first
         |(at_builtin;refine dL _ rfl _ _ 28 rfl w.heap.size 45 ib (.agg #[.int .i64 0,.int .i64 0,.int .i64 0,.bool false,.string ⟨#[]⟩,.string ⟨#[]⟩]) 6 64 Tryz.underlying28 hbi hb0 hb1 hb2 rfl (by decide) _ m _ rfl (World.ownsRow.alloc HA.out.2.2 _) ⟨(w8).heap.size,0,none⟩ 1 1 [.int .i64 9,.int .i64 (p.depth:Int),.int .i64 0,.bool false,.string ⟨#[]⟩,.string ⟨p.label.toArray⟩] rfl rfl ?c1 ?c2 ?c3 ?c4 ?c5 ?_))
        case c1=>exact aL _ _ _ _ rfl
        case c2=>intro u hu;simp at hu;rcases hu with rfl|rfl|rfl|rfl|rfl|rfl<;>rfl
        case c3=>unfold maxLen;omega
        case c4=>omega
        case c5=>have:=hbd9.hB;simp;omega
        intro v9 w9 hown9 honto9 hat9;obtain ⟨ao9,c9,hv9,_⟩:=ab hown9;subst hv9;have hgrow9:=honto9.grown;rw [<- HDV.out]at hgrow9 hat9;have hh9:=(HA.out.2.1.kept (by have:=HA.out.2.1.bl;exact this) hgrow9 (by decide)).trans HA.out.2.1.heap;have f9:=frozen_of_row w9 b 0 _ _ hh9;have e9:w9.cell? ⟨b,0,none⟩=some (V8).bv:=(by rw [cell_of_row w9 b _ _ _ _ hh9];rfl);have hp9:=HA.out.2.1.pushB ⟨9,p.depth,0,false,[],p.label⟩ (v:=.slice ao9 (m+1) c9) (by
         unfold cP;rw [List.length_append,List.flatMap_append,HMM.out];exact hown9) hgrow9 (gO.of hat9 (by simp))
        have hp10:=d7.trans (BK.of_below HA.out.1 hbd9.hB) ((V8).newer_refl _) hp9;obtain ⟨V10,hm10⟩:=(HM8).out.told hp10;have HM10:=zh hm10;clear hown9 honto9 hat9 hgrow9 hh9 hp9 hp10 hm10 hbd9 HA;go_wp2_with fail;go_roundw;case rel=>exact ⟨i+1,V10,_,rfl,by go_num,by omega,HM10.out,(HFN3).out⟩
        case measure=>simp [intOf];omega
  ·obtain rfl:i=n:=(by omega);have hfo:=HF.out.fo;rw [<- HN.out,show lp.length=(lp.map (·.1)).length by rw [List.length_map],List.drop_length]at hfo;simp only [List.foldl_nil]at hfo;subst hfo;obtain ⟨st',under,hd'⟩:=q;have h1:=HF.out;have nb:=h1.nb;have ng:=h1.ng;have na:=h1.na;have hdf:=h1.df;have htb:=h1.tb;simp only at nb ng na hdf htb HM;have hmul:st'.blocks.length*500000 <= 1000000*500000:=Nat.mul_le_mul_right _ (by omega);have HTI:=zh (yU (M:=24001) (Z:=24001) (Tx:=500000) HM.out.bd (HE.out.below HM.out.bel) (by omega) (by omega) (by omega) h1.bt h1.mt (by omega) (by omega) (by rw [hdf];simp;omega) (by rw [htb];simp;omega) (by omega));clear h1 nb ng na hdf htb hmul;go_wp2_with fail;refine HTI.out.mono ?_;rintro e w5 ⟨rfl,hp5⟩;obtain ⟨V5,hm5⟩:=HM.out.told hp5;have HM5:=zh hm5;have f0:w5.cell? ⟨b,0,none⟩=some V5.bv:=(by rw [cell_of_row w5 b _ _ _ _ hm5.bd.heap];rfl);have f1:w5.cell? ⟨b,1,none⟩=some V5.av:=(by rw [cell_of_row w5 b _ _ _ _ hm5.bd.heap];rfl);have f2:w5.cell? ⟨b,2,none⟩=some V5.dv:=(by rw [cell_of_row w5 b _ _ _ _ hm5.bd.heap];rfl);have f3:w5.cell? ⟨b,3,none⟩=some V5.gv:=(by rw [cell_of_row w5 b _ _ _ _ hm5.bd.heap];rfl);have g0:w5.cell? ⟨w.heap.size,0,none⟩=some (.slice none 0 0):=(by rw [cell_of_row w5 w.heap.size _ _ _ _ hm5.re];rfl);have g1:w5.cell? ⟨w.heap.size,1,none⟩=some (.slice none 0 0):=(by rw [cell_of_row w5 w.heap.size _ _ _ _ hm5.re];rfl);have g2:w5.cell? ⟨w.heap.size,2,none⟩=some (.slice none 0 0):=(by rw [cell_of_row w5 w.heap.size _ _ _ _ hm5.re];rfl);have g3:w5.cell? ⟨w.heap.size,3,none⟩=some (.slice none 0 0):=(by rw [cell_of_row w5 w.heap.size _ _ _ _ hm5.re];rfl);have z0:=frozen_of_row w5 w.heap.size 0 _ _ hm5.re;have z1:=frozen_of_row w5 w.heap.size 1 _ _ hm5.re;have z2:=frozen_of_row w5 w.heap.size 2 _ _ hm5.re;have z3:=frozen_of_row w5 w.heap.size 3 _ _ hm5.re;obtain ⟨o0,d0,e0,_⟩:=ab hm5.bd.bl;obtain ⟨o1,d1,e1,_⟩:=ab hm5.bd.at';obtain ⟨o2,d2,e2,_⟩:=ab hm5.bd.df;obtain ⟨o3,d3,e3,_⟩:=ab hm5.bd.dg;obtain ⟨n0,hn0⟩:∃n,(nC st').blocks.length=n:=⟨_,rfl⟩
   obtain ⟨n1,hn1⟩:∃n,(nC st').atoms.length=n:=⟨_,rfl⟩
   obtain ⟨n2,hn2⟩:∃n,(nC st').defs.length=n:=⟨_,rfl⟩
   obtain ⟨n3,hn3⟩:∃n,(nC st').diags.length=n:=⟨_,rfl⟩
   rw [hn0]at e0;rw [hn1]at e1;rw [hn2]at e2;rw [hn3]at e3;rw [e0]at f0;rw [e1]at f1;rw [e2]at f2;rw [e3]at f3;have HEV:=zh (And.intro e0 (And.intro e1 (And.intro e2 e3)));clear hp5 hm5 HTI HM e0 e1 e2 e3 hn0 hn1 hn2 hn3;go_wp2_with fail;refine bodyPost_ret (v:=.agg #[.slice o0 n0 d0,.slice o1 n1 d1,.slice o2 n2 d2,.slice o3 n3 d3]) (by simp [results,Tryz.results7,go_sem,g0,g1,g2,g3,z0,z1,z2,z3]) rfl ⟨b,V5,by rw [HEV.out.1,HEV.out.2.1,HEV.out.2.2.1,HEV.out.2.2.2],?_,?_⟩
   ·skip
    refine HM5.out.bd.heap' fun k hk=>?_;have hne:k≠w.heap.size:=by
     intro e;rcases hk with e2|e2
     ·have h1:=HM5.out.bd.heap;rw [<- e2,e,HM5.out.re]at h1;simp only [Option.some.injEq,Obj.cells.injEq]at h1;exact absurd h1.2.1 (by decide)
     ·obtain ⟨cs,e3,h1,h2⟩:=HM5.out.bd.kind e2;rw [e,HM5.out.re]at h1;simp only [Option.some.injEq,Obj.cells.injEq]at h1;rw [<- h1.2.1]at h2;rcases h2 with h|h|h|h<;>exact absurd h (by decide)
    rw [Below.heap_setCell _ _ _ _ hne,Below.heap_setCell _ _ _ _ hne,Below.heap_setCell _ _ _ _ hne,Below.heap_setCell _ _ _ _ hne]
   ·exact (((HM5.out.bel.setCell (p:=⟨w.heap.size,0,none⟩) (Nat.le_refl _) _).setCell (p:=⟨w.heap.size,1,none⟩) (Nat.le_refl _) _).setCell (p:=⟨w.heap.size,2,none⟩) (Nat.le_refl _) _).setCell (p:=⟨w.heap.size,3,none⟩) (Nat.le_refl _) _
end Go.Proofs.YtcannffahjbjnaaGreatDoor
