import Derived.Test.YtcannffahjbjnaaGreatDoorVwBZe
set_option linter.unusedVariables false
set_option linter.unusedSimpArgs false
set_option maxRecDepth 100000
set_option maxHeartbeats 64000000
namespace Go.Proofs.YtcannffahjbjnaaGreatDoor
open Go.RowKit
structure eQ (BP:Nat) (w:World) (pv:Value) (L:List aW) (ov:Value) (O:List aW) (uv:Value) (under:List (List UInt8)) (i:Nat) (wr:World):Prop where
 bel:Below w.heap.size w wr
 pa:aT w.heap.size wr pv L
 lo:(∀j,pv.ownBlock=some j ->j<BP)∧∀x∈L,∀j,x.2.ownBlock=some j ->j<BP
 out:wr.ownsRow BP 65 5 ov O.length (O.flatMap aq)
 mem:∀x∈O,∃j,j<i∧L[j]? =some x
 un:ah BP wr uv under
 sz:BP <= wr.heap.size
 wB:w.heap.size <= BP
theorem eQ.below {BP:Nat} {w:World} {pv:Value} {L:List aW} {ov:Value} {O:List aW} {uv:Value} {under:List (List UInt8)} {i:Nat} {wr w2:World} (h:eQ BP w pv L ov O uv under i wr) (hb:Below wr.heap.size wr w2):eQ BP w pv L ov O uv under i w2:=
 ⟨aa h.bel hb,h.pa.below hb,h.lo,ae h.out hb,h.mem,ae h.un hb,Nat.le_trans h.sz hb.size,h.wB⟩
theorem eQ.under {BP:Nat} {w:World} {pv:Value} {L:List aW} {ov:Value} {O:List aW} {uv uv2:Value} {under under2:List (List UInt8)} {i:Nat} {wr:World} (h:eQ BP w pv L ov O uv under i wr) (hu:ah BP wr uv2 under2):eQ BP w pv L ov O uv2 under2 i wr:=
 ⟨h.bel,h.pa,h.lo,h.out,h.mem,hu,h.sz,h.wB⟩
theorem eQ.skip {BP:Nat} {w:World} {pv:Value} {L:List aW} {ov:Value} {O:List aW} {uv:Value} {under:List (List UInt8)} {i:Nat} {wr:World} (h:eQ BP w pv L ov O uv under i wr):eQ BP w pv L ov O uv under (i+1) wr:=
 ⟨h.bel,h.pa,h.lo,h.out,fun x hx=>by obtain ⟨j,h1,h2⟩:=h.mem x hx;exact ⟨j,by omega,h2⟩,h.un,h.sz,h.wB⟩
theorem eQ.line {BP:Nat} {w:World} {pv:Value} {L:List aW} {ov:Value} {O:List aW} {uv:Value} {under:List (List UInt8)} {i:Nat} {wr:World} (h:eQ BP w pv L ov O uv under i wr) {p:af} {lg n lc:Nat} (hx:L[i]? =some (p,.slice (some ⟨lg,0,none⟩) n lc)) (hn:n=p.lines.length) (j:Nat) (s:List UInt8):
  eQ BP w pv (L.set i ({p with lines:=p.lines.set j s},.slice (some ⟨lg,0,none⟩) n lc)) ov O uv under i (wr.setCell ⟨lg,j,none⟩ (fV s)):=by
 subst hn;have hlb:lg<BP:=h.lo.2 _ (List.mem_of_getElem? hx) lg rfl;have hl2:wr.ownsRow w.heap.size 9 1 (.slice (some ⟨lg,0,none⟩) p.lines.length lc) p.lines.length (p.lines.map fV):=h.pa.lines i _ hx;have hst:=(World.ownsRow.stored hl2 j (fV s)).2;have hfar:∀{e:TypeId} {z m:Nat} {v:Value} {xs:List Value},wr.ownsRow BP e z v m xs ->v.ownBlock=none∨v.ownBlock≠some lg:=fun hr=>by
  refine Or.inr fun e=>?_;have:=(World.ownsRow.lt hr lg e).1;omega
 refine ⟨h.bel.setCell (World.ownsRow.lt hl2 lg rfl).1 _,h.pa.line hx rfl j s,⟨h.lo.1,fun x hm=>?_⟩,World.ownsRow.kept h.out hst (hfar h.out),fun x hm=>?_,World.ownsRow.kept h.un hst (hfar h.un),by rw [World.size_setCell];exact h.sz,h.wB⟩
 ·rcases List.mem_or_eq_of_mem_set hm with h1|rfl
  ·exact h.lo.2 x h1
  ·have h1:=h.lo.2 _ (List.mem_of_getElem? hx);exact h1
 ·obtain ⟨j',h1,h2⟩:=h.mem x hm;exact ⟨j',h1,by rw [List.getElem?_set_ne (by omega)];exact h2⟩
theorem eQ.push {BP:Nat} {w:World} {pv:Value} {L:List aW} {ov v':Value} {O:List aW} {uv:Value} {under:List (List UInt8)} {i:Nat} {wr w4:World} (h:eQ BP w pv L ov O uv under i wr) {x:aW} (hx:L[i]? =some x) (hg:wr.grownBy w4 ov.ownBlock) (hown:w4.ownsRow BP 65 5 v' (O.length+1) (O.flatMap aq++aq x)):
  eQ BP w pv L v' (O++[x]) uv under (i+1) w4:=by
 have hw:w.heap.size <= wr.heap.size:=h.bel.size;have hBP:∀j,ov.ownBlock=some j ->BP <= j:=fun j hj=>(World.ownsRow.lt h.out j hj).1;have hne:∀v:Value,(∀j,v.ownBlock=some j ->j<BP) ->v.ownBlock=none∨v.ownBlock≠ov.ownBlock:=fun v hv=>by
  rcases hb:v.ownBlock with _|k
  ·exact Or.inl rfl
  ·refine Or.inr fun e=>?_;have h1:=hv k hb;have h2:=hBP k e.symm;omega
 refine ⟨?_,⟨World.ownsRow.kept h.pa.row hg (hne _ h.lo.1),fun k y hy=>World.ownsRow.kept (h.pa.lines k y hy) hg (hne _ (h.lo.2 y (List.mem_of_getElem? hy))),h.pa.apart⟩,h.lo,?_,fun y hy=>?_,World.ownsRow.kept h.un hg (aZ h.un h.out (by decide)),Nat.le_trans h.sz hg.size,h.wB⟩
 ·exact h.bel.grown hg hw (fun j hj=>Nat.le_trans h.wB (hBP j hj))
 ·rw [List.length_append,List.flatMap_append,List.flatMap_cons,List.flatMap_nil,List.append_nil];exact hown
 ·rcases List.mem_append.1 hy with hy|hy
  ·obtain ⟨j',h1,h2⟩:=h.mem y hy;exact ⟨j',by omega,h2⟩
  ·rw [List.mem_singleton.1 hy];exact ⟨i,Nat.lt_succ_self _,hx⟩
theorem xI (z:aS) (doc:List UInt8) (h:doc.length <= 6000):lN [] false (bE z (bF (aO (aR doc))))∧(cY (cX [] (bE z (bF (aO (aR doc)))))).length <= 18001∧(cX [] (bE z (bF (aO (aR doc))))).length <= 18001∧
  ∀p∈bE z (bF (aO (aR doc))),(∀s∈p.lines,(10:UInt8)∉s∧s.length <= 1000000)∧p.lines.length <= 1000000∧p.label.length <= 1000000:=by
 have w1:=(qO z (aO (aR doc))).1;have hg:=gL z _ [] none (qa (mg _ _ (Nat.le_refl _) (kv doc)));have h1:=vC z doc;unfold lL at h1;have h6:=mZ cF (cX [] (bE z (bF (aO (aR doc)))));rw [di]at h6;have h5:=oq (bE z (bF (aO (aR doc)))) [];have h7:=jj (cX [] (bE z (bF (aO (aR doc)))));have hg':∀p∈bE z (bF (aO (aR doc))),ro p:=hg;obtain ⟨ps,hps⟩:∃ps,bE z (bF (aO (aR doc)))=ps:=⟨_,rfl⟩
 rw [hps]at w1 h1 h6 h5 h7 hg'⊢;refine ⟨w1,by omega,by omega,fun p hp=>?_⟩;have hwt:=qI (g:=fX) hp;obtain ⟨i,hi⟩:=List.getElem?_of_mem hp;have hok:=(vD w1 hi).1.2.2;by_cases hd:p.div=true
 ·rw [if_pos hd]at hok;rw [hok.2.1];have:=(kh hok.1).2;exact ⟨fun s hs=>(by cases hs),by simp,by omega⟩
 ·rw [if_neg hd]at hok;have hw2:fX p=el cF p.lines:=(by unfold fX;rw [if_neg hd]);have hl:=jj p.lines;refine ⟨fun s hs=>⟨((hg' p hp).2 s hs).2,?_⟩,by omega,by rw [hok.1];simp⟩;have:=kY hs;omega
theorem CQ {w:World} {sb:Nat} {z:aS} (hS:jL w.heap.size w sb z) (hE:jI w.heap.size w) (doc:ByteArray) (hd:doc.size <= 6000):
  Calls Tryz.prog 10 #[.pointer (some ⟨sb,0,none⟩),.string doc] w fun e w'=>e=.returned (.string ⟨(lL z doc.data.toList).toArray⟩)∧Below w.heap.size w w':=by
 obtain ⟨ip,hpi,hp0,hp1,hp2⟩:=info_parts mU;obtain ⟨hok,hll,hlx⟩:=qu doc.data.toList (by rw [<- Lib.size_eq];exact hd);obtain ⟨hwf,hz1,hz2,hz3⟩:=xI z doc.data.toList (by rw [<- Lib.size_eq];exact hd);have hvl:lL z doc.data.toList=cY (cX [] (bE z (bF (aO (aR doc.data.toList))))):=rfl;have hrp:=fun W=>qA doc W (by omega);have hrl:=mj doc.data.toList;rw [<- Lib.size_eq]at hrl;obtain ⟨X,hX⟩:∃X:ByteArray,(⟨(aR doc.data.toList).toArray⟩:ByteArray)=X:=⟨_,rfl⟩
 have hXl:aR doc.data.toList=X.data.toList:=(by rw [<- hX]);have hXs:X.size <= 24000:=(by rw [Lib.size_eq,<- hXl];omega);rw [hX]at hrp;rw [hXl]at hok hll hlx hvl hwf hz1 hz2 hz3;have hsp:=fun W hW=>sB X W hW (by omega);obtain ⟨ls,hls⟩:∃l,aO X.data.toList=l:=⟨_,rfl⟩
 rw [hls]at hok hll hlx hvl hwf hz1 hz2 hz3;simp only [hls]at hsp;have hch:=hok.ch;have hf0:=sP.start z hch;obtain ⟨R,hR⟩:∃R,bE z (bF ls)=R:=⟨_,rfl⟩
 rw [hR]at hvl hf0 hwf hz1 hz2 hz3;have HRP:=zh hrp;have HSP:=zh hsp;have HPA:=zh (fun ao cap W hW=>oR ao cap ls W hW (by omega) (fun x hx=>by have:=hlx x hx;omega));have HVL:=zh hvl;have HOK:=zh hok;have HF0:=zh hf0;have HWF:=zh (And.intro hwf (And.intro hz1 (And.intro hz2 hz3)));have HS:=zh hS;have HE:=zh hE;rw [hvl];clear hok hll hlx hvl hrp hrl hX hXl hsp hls hR hS hE hch hf0 hwf hz1 hz2 hz3;go_enter Tryz.func10,Tryz.ntmps10
 go_wp2_with fail;refine (HRP.out _).mono ?_;rintro e w2 ⟨rfl,hb2⟩;have HB2:=zh hb2;clear hb2 HRP;go_wp2_with fail;refine (HSP.out w2 (HE.out.below HB2.out).env).mono ?_;rintro e w3 ⟨c,rfl,hlc,hr3,hb3⟩;have HB3:=zh (aa HB2.out hb3);have HR3:=zh hr3;clear hb3 HSP hr3 HB2;go_wp2_with fail;refine (HPA.out _ c w3 HR3.out).mono ?_;rintro e w4 ⟨pv,lp,rfl,hpa,hmap,hb4⟩
 have HM4:=zh (show eQ w4.heap.size w pv lp (.slice none 0 0) [] (.slice none 0 0) [] 0 w4 from
  ⟨aa HB3.out hb4,hpa.mono HB3.out.size,⟨fun j hj=>(World.ownsRow.lt hpa.row j hj).2,fun x hx j hj=>by
   obtain ⟨k,hk⟩:=List.getElem?_of_mem hx;exact (World.ownsRow.lt (hpa.lines k x hk) j hj).2⟩,World.ownsRow_nil _ _ _ _,fun x hx=>(by cases hx),World.ownsRow_nil _ _ _ _,Nat.le_refl _,(aa HB3.out hb4).size⟩)
 obtain ⟨pao,pcap,hpe,_⟩:=ab hpa.row;subst hpe;rw [<- hmap]at HF0 HOK;have hpl:=HOK.out.len;rw [List.length_map]at hpl;have hchunk:=HOK.out.s1;obtain ⟨n,hn⟩:∃n,lp.length=n:=⟨_,rfl⟩
 rw [hn]at HM4 hpl⊢;have HN:=zh hn;obtain ⟨BP,hBP⟩:∃n,w4.heap.size=n:=⟨_,rfl⟩
 rw [hBP]at HM4;clear hpa hb4 HB3 HR3 HPA hmap hn hBP hlc;go_wp2_with fail;go_loopw [5,6,7,21] (fun u5 u6 u7 u21 wr=>∃(i:Nat) (L O:List aW) (q:C6),u7=.int .i64 (wH q.2.2)∧u21=.int .i64 (i:Int)∧i <= n∧Hid (eQ BP w (.slice pao n pcap) L u5 O u6 q.2.1 i wr)∧Hid (O.map (·.1)=q.1∧L.drop i=lp.drop i∧L.length=n)∧Hid (sP z (lp.map (·.1)) R i q)) (fun _ _ _ u21 _=>n - (intOf u21).toNat)
 case atStart=>exact ⟨0,lp,[],([],[],none),rfl,by go_num,Nat.zero_le _,HM4,zh ⟨rfl,rfl,HN.out⟩,HF0⟩
 case round=>
  obtain ⟨i,L,O,q,rfl,rfl,hi,HM,HL,HF⟩:=hrel;clear HM4 HF0;by_cases hlt:i<n
  ·obtain ⟨x,hx⟩:=bG lp i (by rw [HN.out];exact hlt);have hxL:L[i]? =some x:=by
    have h1:=congrArg (fun l=>l[0]?) HL.out.2.1;simp only [List.getElem?_drop,Nat.add_zero]at h1;rw [h1,hx]
   have hpr:=(bT HM.out.pa.row).2.1;obtain ⟨pg,po,rfl⟩:=hpr.addr (by rw [HL.out.2.2];omega);obtain ⟨y0,y1,y2,y3,y4⟩:=hpr.part i x hxL;have hln:=HM.out.pa.lines i x hxL;have hpx:(lp.map (·.1))[i]? =some x.1:=(by rw [List.getElem?_map,hx];rfl);obtain ⟨p,lv⟩:=x;simp only at y0 y1 y2 y3 y4 hln hpx;obtain ⟨lao,lcap,hle,_⟩:=ab hln;subst hle;have hpm:=List.mem_of_getElem? hpx;have hfn:=HF.out.next hpx;have hdp:=fun hs=>HF.out.depth hpx hs;have hul:=HF.out.ul;have hql:=HF.out.ql;have hlb:=HOK.out.lab p hpm;have hs1:=HOK.out.s1 p hpm;have hlo:=jj p.lines;have hba:=(Below.refl wr.heap.size wr).alloc (Nat.le_refl _) (.cells #[.int .i64 (p.depth:Int),.bool p.div,.string ⟨p.label.toArray⟩,.bool p.opn,.slice lao p.lines.length lcap] 65);have hkx:=heap_alloc_new wr (.cells #[.int .i64 (p.depth:Int),.bool p.div,.string ⟨p.label.toArray⟩,.bool p.opn,.slice lao p.lines.length lcap] 65);have HM2:=zh (HM.out.below hba);have HFN:=zh hfn;have HXL:=zh hxL;obtain ⟨uao,ucap,hue,hur,hun,huc⟩:=ab HM2.out.un;subst hue;obtain ⟨K,hK⟩:∃k,wr.heap.size=k:=⟨_,rfl⟩
   obtain ⟨ll,hll⟩:∃k,p.lines.length=k:=⟨_,rfl⟩
   rw [hll]at y4 hkx HM2 HXL hlo;have HLL:=zh hll;clear hpr hx hxL hln hpm hfn hba hll;go_upto_region 9 with (fail)
   rw [hK]at hkx;generalize wr.alloc (.cells #[.int .i64 (p.depth:Int),.bool p.div,.string ⟨p.label.toArray⟩,.bool p.opn,.slice lao ll lcap] 65)=W2 at hkx HM2 hur⊢;obtain ⟨k0,k1,k2,k3,k4⟩:=cG hkx;have HKX:=zh hkx;obtain ⟨st',under,hd⟩:=q;simp only at hul hql hdp hur hun huc HM2 HFN;clear y0 y1 y2 y3 y4 hkx hK HM HF;have HDR:=zh (show L.drop (i+1)=lp.drop (i+1) by
    have:=congrArg (List.drop 1) HL.out.2.1
    rwa [List.drop_drop,List.drop_drop]at this)
   have hskip:(hd.any fun h=>decide (h<p.depth))=true ->∃h,hd=some h∧h<p.depth:=fun hs=>by
    cases hd with
    |none=>cases hs
    |some h=>exact ⟨h,rfl,by simpa using hs⟩
   cases hs:(hd.any fun h=>decide (h<p.depth))with
   |true=>
    obtain ⟨h',rfl,hlt2⟩:=hskip hs;have e:ar z (st',under,some h') p=(st',under,some h'):=(by unfold ar;rw [if_pos hs]);rw [e]at HFN;have hg1:(0:Int) <= (h':Int):=(by omega);have hg2:(h':Int)<(p.depth:Int):=(by omega);clear hskip hs e hdp hlt2;simp only [wH];go_wp2_with fail;go_roundw;case rel=>exact ⟨i+1,L,O,(st',under,some h'),rfl,by go_num,by omega,zh HM2.out.skip,zh ⟨HL.out.1,HDR.out,HL.out.2.2⟩,HFN⟩
    case measure=>simp [intOf];omega
   |false=>
    have hdu:=hdp hs;have hgd:hd=none∨∃h:Nat,hd=some h∧(0:Int) <= (h:Int)∧¬(h:Int)<(p.depth:Int):=by
     cases hd with
     |none=>exact Or.inl rfl
     |some h=>exact Or.inr ⟨h,rfl,by omega,fun e=>(by simpa using hs:¬h<p.depth) (by omega)⟩
    have hdc:(p.depth:Int) <= (ucap:Int):=(by omega);have hd0:(0:Int) <= (p.depth:Int):=(by omega);have htl:(under.take p.depth).length=p.depth:=(by rw [List.length_take];omega);have HTK:=zh (And.intro htl (show ah BP W2 (.slice uao p.depth ucap) (under.take p.depth)from by
     have h:=fw HM2.out.un p.depth hdu uao under.length ucap rfl;unfold ah;rw [htl,List.map_take];rw [Nat.mul_one]at h;exact h))
    have h0:¬(hd.any fun h=>decide (h<p.depth))=true:=by rw [hs];simp
    have HEQ:=zh (show (p.div=false ->ar z (st',under,hd) p=(st'++[{p with lines:=p.lines.map (au z (under.take p.depth))}],under.take p.depth,none))∧(p.div=true ->ar z (st',under,hd) p=(st'++[{p with lines:=p.lines.map (au z (under.take p.depth++[p.label]))}],under.take p.depth++[p.label],if z.sees (under.take p.depth++[p.label])=false then some p.depth else none))from
     ⟨fun h1=>by unfold ar;rw [if_neg h0,if_pos h1],fun h1=>by unfold ar;rw [if_neg h0,if_neg (by rw [h1];simp)]⟩)
    clear hs hskip hdp hpx htl h0;go_cut [32] (fun u32 wc=>u32=.bool false∧wc=W2)
    case first=>
     rcases hgd with rfl|⟨h',rfl,hg1,hg2⟩
     all_goals
      simp only [wH];go_wp2_with fail
      go_meet
      case rel=>exact ⟨rfl,rfl⟩
    case rest=>
     obtain ⟨rfl,hwc⟩:=hcut;subst hwc;clear hgd
     go_upto_if 38 with (fail)
     go_cut [6,7] (fun u6 u7 wc=>∃(uao2:Option Addr) (ucap2:Nat) (under2:List (List UInt8)) (o2:Option Nat),u6=.slice uao2 under2.length ucap2∧u7=.int .i64 (wH o2)∧Hid (eQ BP w (.slice (some ⟨pg,po,none⟩) n pcap) L u5 O (.slice uao2 under2.length ucap2) under2 i wc)∧Hid (wc.heap[K]? =some (.cells #[.int .i64 (p.depth:Int),.bool p.div,.string ⟨p.label.toArray⟩,.bool p.opn,.slice lao ll lcap] 65 (0,0)))∧Hid (ar z (st',under,hd) p=(st'++[{p with lines:=p.lines.map (au z under2)}],under2,o2))∧under2.length <= i+1)
     case first=>
      cases hdv:p.div with
      |false=>
       rw [hdv]at k1;go_wp2_with fail
       go_meet
       case rel=>exact ⟨uao,ucap,under.take p.depth,none,by rw [HTK.out.1],rfl,zh (by rw [HTK.out.1];exact HM2.out.under HTK.out.2),HKX,zh (HEQ.out.1 hdv),by rw [HTK.out.1];omega⟩
      |true=>
       have hlb2:=hlb hdv;have HW:=zh (ot (cap:=ucap) ⟨p.label.toArray⟩ (ah.r HTK.out.2).1 hun (by rw [HTK.out.1];omega));rw [HTK.out.1]at HW;rw [hdv]at k1;have HDV:=zh hdv;clear hdc hd0 hdv;go_wp2_with fail;refine HW.out.mono ?_;rintro e w5 ⟨v5,rfl,hv5,hb5⟩;replace hv5:ah wc.heap.size w5 v5 (under.take p.depth++[p.label]):=hv5;obtain ⟨ao5,c5,hve,hr5,_,_⟩:=ab hv5;subst hve;have hl5:(under.take p.depth++[p.label]).length=p.depth+1:=(by rw [List.length_append,HTK.out.1];rfl);have HM5:=zh ((HM2.out.below hb5).under (dQ hv5 HM2.out.sz));have HKX5:=zh ((hb5.block K (Array.getElem?_eq_some_iff.1 HKX.out).1).trans HKX.out);have HSE:=zh ((HS.out.below HM5.out.bel).sees (ao:=ao5) (cap:=c5) hr5 (by rw [hl5];omega));have HEQ2:=zh (HEQ.out.2 HDV.out);obtain ⟨U,hU⟩:∃l,under.take p.depth++[p.label]=l:=⟨_,rfl⟩
       obtain ⟨se,hse⟩:∃x,z.sees U=x:=⟨_,rfl⟩
       rw [hU]at HM5 HSE hl5 HEQ2⊢;rw [hse]at HSE HEQ2;obtain ⟨ul,hul5⟩:∃n,U.length=n:=⟨_,rfl⟩
       rw [hul5]at HM5 HSE hl5⊢;have HL5:=zh hl5;have HU5:=zh hul5;clear hv5 hr5 hb5 hU hse HW HM2 HKX hul5 hl5 k0 k1 k2 k3 k4;go_wp2_with fail;refine HSE.out.mono ?_;rintro e w6 ⟨rfl,hb6⟩;have HM6:=zh (HM5.out.below hb6);have HKX6:=zh ((hb6.block K (Array.getElem?_eq_some_iff.1 HKX5.out).1).trans HKX5.out);clear hb6 HM5 HKX5 HSE;obtain ⟨k0,k1,k2,k3,k4⟩:=cG HKX6.out;cases se
       ·have HEQ3:=zh (show ar z (st',under,hd) p=(st'++[{p with lines:=p.lines.map (au z U)}],U,some p.depth) by have:=HEQ2.out;rwa [if_pos rfl]at this);go_wp2_with fail
        go_meet
        case rel=>exact ⟨ao5,c5,U,some p.depth,by rw [HU5.out],rfl,zh (by rw [HU5.out];exact HM6.out),HKX6,HEQ3,by rw [HU5.out,HL5.out];omega⟩
       ·have HEQ3:=zh (show ar z (st',under,hd) p=(st'++[{p with lines:=p.lines.map (au z U)}],U,none) by have:=HEQ2.out;rwa [if_neg (by simp)]at this);go_wp2_with fail
        go_meet
        case rel=>exact ⟨ao5,c5,U,none,by rw [HU5.out],rfl,zh (by rw [HU5.out];exact HM6.out),HKX6,HEQ3,by rw [HU5.out,HL5.out];omega⟩
     case rest=>
      rename World=>wy
      obtain ⟨uao2,ucap2,under2,o2,rfl,rfl,HMc,HKc,HST,hu2⟩:=hcut;rw [HST.out]at HFN;clear k0 k1 k2 k3 k4 HM2 HKX HTK HEQ HST hun huc hur hdu hdc hd0 hul;obtain ⟨k0,k1,k2,k3,k4⟩:=cG HKc.out;have HMi:=zh (show eQ BP w (.slice (some ⟨pg,po,none⟩) n pcap) (L.set i ({p with lines:=(p.lines.take 0).map (au z under2)++p.lines.drop 0},.slice lao ll lcap)) u5 O (.slice uao2 under2.length ucap2) under2 i wy from by
       rw [List.take_zero,List.map_nil,List.nil_append,List.drop_zero];have e:L.set i ({p with lines:=p.lines},.slice lao ll lcap)=L:=by
        obtain ⟨hk,he⟩:=List.getElem?_eq_some_iff.1 HXL.out;rw [show (({p with lines:=p.lines},.slice lao ll lcap):aW)=L[i]from he.symm,List.set_getElem_self]
       rw [e];exact HMc.out)
      clear HMc;go_wp2_with fail;clear k0 k1 k2 k3 k4;go_loopw [52] (fun u52 wr=>∃j:Nat,u52=.int .i64 (j:Int)∧j <= ll∧Hid (eQ BP w (.slice (some ⟨pg,po,none⟩) n pcap) (L.set i ({p with lines:=(p.lines.take j).map (au z under2)++p.lines.drop j},.slice lao ll lcap)) u5 O (.slice uao2 under2.length ucap2) under2 i wr)∧Hid (wr.heap[K]? =some (.cells #[.int .i64 (p.depth:Int),.bool p.div,.string ⟨p.label.toArray⟩,.bool p.opn,.slice lao ll lcap] 65 (0,0)))) (fun u52 _=>ll - (intOf u52).toNat)
      case atStart=>exact ⟨0,by go_num,Nat.zero_le _,HMi,HKc⟩
      case round=>
       rename World=>wx
       obtain ⟨j,rfl,hj,HMj,HKj⟩:=hrel;clear HMi HKc;obtain ⟨k0,k1,k2,k3,k4⟩:=cG HKj.out;have hset:i<L.length:=(by rw [HL.out.2.2];exact hlt);by_cases hjl:j<ll
       ·obtain ⟨s,hs⟩:=bG p.lines j (by rw [HLL.out];exact hjl);obtain ⟨m1,m2,m3,m4⟩:=x9 (au z under2) p.lines j s hs;obtain ⟨M,hM⟩:∃M,(p.lines.take j).map (au z under2)++p.lines.drop j=M:=⟨_,rfl⟩
        rw [hM]at HMj m1 m2 m4;have hLi:(L.set i ({p with lines:=M},.slice lao ll lcap))[i]? =some ({p with lines:=M},.slice lao ll lcap):=(by rw [List.getElem?_set_self hset]);have hown:=HMj.out.pa.lines i _ hLi;have hr:=(bT hown).2.1;simp only at hown hr;obtain ⟨lg,lo,rfl⟩:=hr.addr (by rw [m4,HLL.out];omega);obtain rfl:lo=0:=(fx hown).1;have cj:=bO.at' (l:=M) hr j s m1;rw [Nat.zero_add]at cj;have hsz:s.length <= 24001:=Nat.le_trans (kY (List.mem_of_getElem? hs)) hs1;obtain ⟨S,hS⟩:∃S:ByteArray,(⟨s.toArray⟩:ByteArray)=S:=⟨_,rfl⟩
        have hSl:S.data.toList=s:=(by rw [<- hS]);have hSz:S.size <= 24001:=(by rw [Lib.size_eq,hSl];exact hsz);rw [hS]at cj;have hMd:=HMj.out.below (Below.refl wx.heap.size wx).drew;have HLN:=zh (AA (w:=wx.drew) (sb:=sb) (cap:=ucap2) (HS.out.below hMd.bel) hMd.bel.size (HE.out.below hMd.bel).env S (ah.r hMd.un).1 (ah.r hMd.un).2.1 (by omega) (by omega));rw [hSl]at HLN;have HM2:=zh (And.intro m2 (And.intro m4 hLi));have HMD:=zh hMd;clear m1 m2 m3 m4 hM hLi hown hr hs hsz hS hSl hMd hset;go_upto_region 19 with (fail)
        clear k0 k1 k2 k3 cj;refine aQ (S:=fun j W'=>([1,6].contains j=true) ->W'.cell? ⟨K,4,none⟩=some (.slice (some ⟨lg,0,none⟩) ll lcap)) (by kernel_rfl) ?_;refine bC 0 57 ?_;simp only [List.set];refine bC 2 59 ?_;simp only [List.set];refine bC 3 60 ?_;simp only [List.set];refine bC 4 61 ?_;simp only [List.set];refine bC 5 62 ?_;simp only [List.set];refine ga 1 58 ?_ rfl [6] (by kernel_rfl) (fun _ _ _ h=>h) (by decide) rfl (Or.inl ⟨by rfl,?_⟩) k4 ?_;rotate_left
        ·rintro w' s0;go_simp<;>with_reducible rfl
        simp only [List.set];refine ac (i:=6) (by kernel_rfl) rfl (fun K' hK=>?_);have HKK:=zh hK;clear hK;go_simp
        refine HLN.out.mono ?_;rintro e w6 ⟨rfl,hb6⟩;have HM6:=zh (HMD.out.below hb6);have hkd:wx.drew.heap[K]? =some (.cells #[.int .i64 (p.depth:Int),.bool p.div,.string ⟨p.label.toArray⟩,.bool p.opn,.slice (some ⟨lg,0,none⟩) ll lcap] 65 (0,0)):=HKj.out;have HK6:=zh ((hb6.block K (lt_of_block hkd)).trans hkd);have k46:=(cG HK6.out).2.2.2.2;have hr6:bO w6 (some ⟨lg,0,none⟩) M:=(bT (HM6.out.pa.lines i _ HM2.out.2.2)).2.1;have hown6:w6.ownsRow w.heap.size 9 1 (.slice (some ⟨lg,0,none⟩) ll lcap) ll (M.map fV):=by
         have h:=HM6.out.pa.lines i _ HM2.out.2.2;unfold ah at h;simp only at h;rw [HM2.out.2.1,HLL.out]at h;exact h
        have hm6l:({p with lines:=M}:af).lines.length=ll:=(by simp only;rw [HM2.out.2.1,HLL.out]);have fz6:w6.frozen? ⟨lg,j,none⟩=false:=World.ownsRow.frozenAt hown6 _;have HM7:=zh (HM6.out.line HM2.out.2.2 hm6l.symm j (au z under2 s));have hlgK:K≠lg:=fun e=>by
         have:=jp hown6 HK6.out (by decide);exact this (by rw [e];rfl)
        have HK7:=zh (show (w6.setCell ⟨lg,j,none⟩ (fV (au z under2 s))).heap[K]? =_ from (Below.heap_setCell _ _ _ _ (by exact hlgK)).trans HK6.out);have HCJ:=zh (show∃v,w6.cell? ⟨lg,j,none⟩=some v from by
         have hj3:j<M.length:=(by rw [HM2.out.2.1,HLL.out];exact hjl);have:=bO.at' hr6 j M[j] (List.getElem?_eq_getElem hj3);rw [Nat.zero_add]at this;exact ⟨_,this⟩)
        obtain ⟨vj,cj⟩:=HCJ.out;clear hown6 hr6 hm6l hlgK hkd hb6 HLN HMD k4 HCJ;go_wp2_with fail;refine HKK.out _ _ ⟨fun _=>k46,?_⟩;clear HKK K';try simp only [Act.put,List.setIfInBounds_toArray,List.set_cons_zero,List.set_cons_succ,List.getElem_toArray,List.getElem_cons_zero,List.getElem_cons_succ]
        refine ac (i:=7) (by kernel_rfl) rfl (fun K' hK=>?_);have HKK:=zh hK;clear hK;go_simp
        refine HKK.out _ _ ⟨fun h=>absurd h (by decide),?_⟩;clear HKK K';try simp only [Act.put,List.setIfInBounds_toArray,List.set_cons_zero,List.set_cons_succ,List.getElem_toArray,List.getElem_cons_zero,List.getElem_cons_succ]
        refine ac (i:=8) (by kernel_rfl) rfl (fun K' hK=>?_);have HKK:=zh hK;clear hK;go_simp
        refine HKK.out _ _ ⟨fun h=>absurd h (by decide),?_⟩;clear HKK K';try simp only [Act.put,List.setIfInBounds_toArray,List.set_cons_zero,List.set_cons_succ,List.getElem_toArray,List.getElem_cons_zero,List.getElem_cons_succ]
        refine aP (by kernel_rfl) ?_ _;rw [List.set_set]at HM7;go_wp2_with fail;go_roundw;case rel=>exact ⟨j+1,by go_num,by omega,zh (by rw [<- HM2.out.1];exact HM7.out),HK7⟩
        case measure=>simp [intOf];omega
       ·have hjj:j=ll:=(by omega);have hOl:O.length <= i:=by
         have:=congrArg List.length HL.out.1;rw [List.length_map]at this;omega
        obtain ⟨xs,hxs⟩:∃xs,({p with lines:=p.lines.map (au z under2)}:af)=xs:=⟨_,rfl⟩
        have hcs:aq (xs,.slice lao ll lcap)=[.int .i64 (p.depth:Int),.bool p.div,.string ⟨p.label.toArray⟩,.bool p.opn,.slice lao ll lcap]:=(by rw [<- hxs];rfl);have HMe:=zh (show eQ BP w (.slice (some ⟨pg,po,none⟩) n pcap) (L.set i (xs,.slice lao ll lcap)) u5 O (.slice uao2 under2.length ucap2) under2 i wx from by
         have h:=HMj.out;rw [hjj,List.take_of_length_le (by rw [HLL.out];exact Nat.le_refl _),List.drop_eq_nil_of_le (by rw [HLL.out];exact Nat.le_refl _),List.append_nil,hxs]at h;exact h)
        have hsx:(L.set i (xs,.slice lao ll lcap))[i]? =some (xs,.slice lao ll lcap):=List.getElem?_set_self hset;have hdx:(L.set i (xs,.slice lao ll lcap)).drop (i+1)=lp.drop (i+1):=(by rw [List.drop_set_of_lt (by omega)];exact HDR.out);have hlx:(L.set i (xs,.slice lao ll lcap)).length=n:=(by rw [List.length_set];exact HL.out.2.2);rw [hxs]at HFN;have hmx:(O++[((xs,Value.slice lao ll lcap):aW)]).map (fun x:aW=>x.1)=st'++[xs]:=(by rw [List.map_append,HL.out.1];rfl);have HX:=zh (And.intro hsx (And.intro hdx (And.intro hlx (And.intro hmx hcs))));have oo:=HMe.out.out;obtain ⟨oao,ocap,hov,_⟩:=ab oo;subst hov;have hba:=(Below.refl wx.heap.size wx).alloc (Nat.le_refl _) (.cells #[.int .i64 (p.depth:Int),.bool p.div,.string ⟨p.label.toArray⟩,.bool p.opn,.slice lao ll lcap] 65);have HMA:=zh (HMe.out.below hba);have hjl2:¬(j:Int)<(ll:Int):=(by omega);clear HMj HMe hjj hxs hcs hsx hdx hlx hmx oo hba hset;go_upto_region 21 with (fail)
        go_wp2_with (first
         |(at_builtin;refine wpList_append_own _ rfl _ _ 61 rfl BP 65 ip (.agg #[.int .i64 0,.bool false,.string ⟨#[]⟩,.bool false,.slice none 0 0]) 5 64 Tryz.underlying61 hpi hp0 hp1 hp2 rfl (by decide) _ _ _ rfl HMA.out.out ⟨wx.heap.size,0,none⟩ 1 1 [.int .i64 (p.depth:Int),.bool p.div,.string ⟨p.label.toArray⟩,.bool p.opn,.slice lao ll lcap] rfl rfl (by exact aL _ _ _ _ rfl) (by intro u hu;simp at hu;rcases hu with rfl|rfl|rfl|rfl|rfl<;>rfl) (by unfold maxLen;omega) (by omega) HMA.out.sz ?_))
        intro v4 w4 hown4 hgrow4 _;have HM4:=zh (HMA.out.push (v':=v4) HX.out.1 hgrow4 (by rw [HX.out.2.2.2.2];exact hown4));obtain ⟨vao,vcp,hvv,_⟩:=ab hown4;subst hvv;clear hown4 hgrow4 HMA k0 k1 k2 k3 k4;go_wp2_with fail;go_roundw;case rel=>exact ⟨i+1,L.set i (xs,.slice lao ll lcap),O++[(xs,.slice lao ll lcap)],(st'++[xs],under2,o2),rfl,by go_num,by omega,HM4,zh ⟨HX.out.2.2.2.1,HX.out.2.1,HX.out.2.2.1⟩,HFN⟩
        case measure=>simp [intOf];omega
  ·obtain rfl:i=n:=(by omega);have hfo:=HF.out.fo;have hql:=HF.out.ql;rw [<- HN.out,show lp.length=(lp.map (·.1)).length by rw [List.length_map],List.drop_length]at hfo;simp only [List.foldl_nil]at hfo;obtain ⟨st',under,hd'⟩:=q;simp only at hfo HM hql;have hmO:=HL.out.1;simp only at hmO;rw [hfo]at hmO hql;have oo:=HM.out.out;obtain ⟨oao,ocap,hov,hor,_⟩:=ab oo;subst hov;have hPI:kH wr oao O:=⟨hor,fun x hx=>by
    obtain ⟨j,hj,hLj⟩:=HM.out.mem x hx;have h:=HM.out.pa.lines j x hLj;obtain ⟨lao,lcap,hle,hlr,hlc,_⟩:=ab h;exact ⟨lao,lcap,hle,hlr,hlc⟩⟩
   have hmm:∀x∈O,x.1∈R:=fun x hx=>by rw [<- hmO];exact List.mem_map_of_mem hx
   have hOl:O.length <= i:=by
    have:=congrArg List.length hmO;rw [List.length_map]at this;omega
   have hz1:=HWF.out.2.1;have hz2:=HWF.out.2.2.1;have hWR:=AC (cap:=ocap) hPI (by rw [hmO];exact HWF.out.1) (fun x hx s hs=>(HWF.out.2.2.2 x.1 (hmm x hx)).1 s hs) (by omega) (fun x hx=>⟨(HWF.out.2.2.2 x.1 (hmm x hx)).2.1,(HWF.out.2.2.2 x.1 (hmm x hx)).2.2⟩) (by rw [hmO];omega);rw [hmO]at hWR;have HWR:=zh hWR;have HBL:=zh HM.out.bel;obtain ⟨J,hJ⟩:∃J,cX [] R=J:=⟨_,rfl⟩
   rw [hJ]at HWR hz1 hz2;have HJR:=zh hJ;clear oo hor hPI hmm hWR hfo hmO HM HF HL HWF HVL hJ;go_wp2_with fail;refine HWR.out.mono ?_;rintro e w5 ⟨v5,rfl,hv5,hb5⟩;have hv5':ah wr.heap.size w5 v5 J:=hv5;obtain ⟨ao5,c5,hve,hr5,hc5,_⟩:=ab hv5';subst hve;have HB5:=zh (aa HBL.out hb5);have HJ:=zh (mY ao5 c5 J w5 hr5 (by omega) (by omega));clear hv5 hv5' hr5 hb5 HWR;go_wp2_with fail;refine HJ.out.mono ?_;rintro e w6 ⟨rfl,hb6⟩;have HB6:=zh (aa HB5.out hb6);clear hb6;go_wp2_with fail;go_ret;exact ⟨by rw [HJR.out];rfl,HB6.out⟩
end Go.Proofs.YtcannffahjbjnaaGreatDoor
