import Derived.Test.YtcannffahjbjnaaGreatDoorVwBW
set_option linter.unusedVariables false
set_option linter.unusedSimpArgs false
set_option maxRecDepth 100000
set_option maxHeartbeats 64000000
namespace Go.Proofs.YtcannffahjbjnaaGreatDoor
open Go.RowKit
theorem yU {B b sb:Nat} {w:World} {V:dY} {st:am} {M Z Tx:Nat} (h:de B b sb w V st) (hE:jI B w) (hMZ:1000000+Z*M <= 1000000000) (hM:M <= 1000000) (hTx:Tx <= 1000000)
  (hbl:∀x∈st.blocks,x.text.length <= Tx∧x.info.length <= Tx∧ms fZ x.text <= Z) (hmt:∀a∈st.atoms,a.text.length <= M) (hna:st.atoms.length <= 1000000000) (hnb:st.blocks.length <= 1000000000)
  (hnd:st.defs.length+st.blocks.length*Tx <= 1000000000000) (hnt:st.tab.length+st.blocks.length*Tx <= 1000000000000) (hng:st.diags.length+st.blocks.length*Tx <= 1000000000000):
  Calls Tryz.prog 24 #[.pointer (some ⟨b,0,none⟩)] w fun e w'=>e=.returned (.tuple #[])∧d7 B b sb w V (nC st) w':=by
 obtain ⟨ib,hbi,hb0,hb1,hb2⟩:=info_parts kT;have hBw:=h.hB;obtain ⟨R,hR⟩:∃R,nC st=R:=⟨_,rfl⟩
 rw [hR];obtain ⟨oao,ocap,hov,_⟩:=ab h.bl;have c0:w.cell? ⟨b,0,none⟩=some V.bv:=(by rw [cell_of_row w b _ _ _ _ h.heap];rfl);have f0:w.frozen? ⟨b,0,none⟩=false:=frozen_of_row w b 0 _ _ h.heap;have hoff:DW {V with bv:=.slice none 0 0} b V.bv:=fun k hk=>⟨fun e=>cV h.bl h.heap (by decide) (by rw [<- e];exact hk),fun ho=>by
  have nn:V.bv.ownBlock≠none:=(by rw [<- hk];simp);rcases ho with e|e|e|e|e
  ·cases e
  ·rcases aZ h.bl h.at' (by decide)with q|q
   ·exact nn q
   ·exact q (hk.symm.trans e)
  ·rcases aZ h.bl h.df (by decide)with q|q
   ·exact nn q
   ·exact q (hk.symm.trans e)
  ·rcases aZ h.bl h.dg (by decide)with q|q
   ·exact nn q
   ·exact q (hk.symm.trans e)
  ·rcases aZ h.bl h.tb (by decide)with q|q
   ·exact nn q
   ·exact q (hk.symm.trans e)⟩
 have kp:∀{e2 z2 n2:Nat} {v2:Value} {x2:List Value} {B2:Nat} (_:w.ownsRow B2 e2 z2 v2 n2 x2) (_:e2≠60),(w.setCell ⟨b,0,none⟩ (.slice none 0 0)).ownsRow B2 e2 z2 v2 n2 x2:=fun hr h2=>
  aF (a:=⟨b,0,none⟩) hr h.heap h2 _
 have HM0:=zh (show jM B b sb w V V.bv st.blocks.length st.blocks (w.setCell ⟨b,0,none⟩ (.slice none 0 0)) {V with bv:=.slice none 0 0} {st with blocks:=[]}from
  ⟨⟨heap_setCell_same w b 0 _ _ _ h.heap,World.ownsRow_nil _ _ _ _,kp h.at' (by decide),kp h.df (by decide),kp h.dg (by decide),kp h.tb (by decide),h.ap,h.base⟩,
   ⟨(Below.refl B w).setCell (p:=⟨b,0,none⟩) h.base _,fun k hk hkb _=>Below.heap_setCell _ _ _ _ hkb⟩,fun k hk=>by
    rcases hk with e|e|e|e|e
    ·cases e
    ·exact Or.inl (Or.inr (Or.inl e))
    ·exact Or.inl (Or.inr (Or.inr (Or.inl e)))
    ·exact Or.inl (Or.inr (Or.inr (Or.inr (Or.inl e))))
    ·exact Or.inl (Or.inr (Or.inr (Or.inr (Or.inr e)))),dQ (kp h.bl (by decide)) (Nat.zero_le _),hoff⟩)
 have HF0:=zh (show vP M Z Tx st.blocks.length st.blocks R 0 {st with blocks:=[]}from ⟨by rw [List.drop_zero,<- hR];rfl,Nat.le_refl _,hmt,hna,hnd,hnt,hng⟩);have HBL:=zh hbl;have HE:=zh hE;rw [hov]at c0 HM0;obtain ⟨old,hold⟩:∃l,st.blocks=l:=⟨_,rfl⟩
 rw [hold]at HM0 HF0 HBL c0 hnb;obtain ⟨m,hm⟩:∃n,old.length=n:=⟨_,rfl⟩
 rw [hm]at HM0 HF0 c0 hnb;have HMM:=zh hm;clear h hE hbl hmt hna hnd hnt hng hov hR hoff kp hold hm;go_enter Tryz.func24,Tryz.ntmps24
 go_upto_region 2 with (fail)
 generalize w.setCell ⟨b,0,none⟩ (.slice none 0 0)=W1 at HM0⊢;clear c0 f0;go_wp2_with fail;go_loopw [16] (fun u16 wr=>∃(i:Nat) (V':dY) (st':am),u16=.int .i64 (i:Int)∧i <= m∧jM B b sb w V (.slice oao m ocap) m old wr V' st'∧vP M Z Tx m old R i st') (fun u16 _=>m - (intOf u16).toNat)
 case atStart=>exact ⟨0,_,_,by go_num,Nat.zero_le _,HM0.out,HF0.out⟩
 case round=>
  obtain ⟨i,V',st',rfl,hi,hm1,hf1⟩:=hrel;have HM:=zh hm1;have HF:=zh hf1;clear hm1 hf1 HM0 HF0;by_cases hlt:i<m
  ·obtain ⟨x,hx⟩:=bG old i (by rw [HMM.out];exact hlt);have hbr:=(bT HM.out.ow).2.1;obtain ⟨bg,bo,rfl⟩:=hbr.addr (by omega);obtain ⟨x0,x1,x2,x3,x4,x5⟩:=hbr.blk i x hx;obtain ⟨ht1,ht2,ht3⟩:=HBL.out x (List.mem_of_getElem? hx);obtain ⟨hfn,hnd,hnt,hng⟩:=HF.out.next x hx HMM.out ht1;have hnb2:=HF.out.nb;obtain ⟨xk,xdp,xn,xt,xtx,xin⟩:=x;simp only at x0 x1 x2 x3 x4 x5 ht1 ht2 ht3;have hba:=(Below.refl wr.heap.size wr).alloc (Nat.le_refl _) (.cells #[.int .i64 (xk:Int),.int .i64 (xdp:Int),.int .i64 xn,.bool xt,.string ⟨xtx.toArray⟩,.string ⟨xin.toArray⟩] 45);have hx9:=heap_alloc_new wr (.cells #[.int .i64 (xk:Int),.int .i64 (xdp:Int),.int .i64 xn,.bool xt,.string ⟨xtx.toArray⟩,.string ⟨xin.toArray⟩] 45);have HM2:=zh (HM.out.below hba hBw);have HNEW:=zh (And.intro HM.out.bd.lt (And.intro (fun k hk=>HM.out.bd.own_lt hk:∀k,V'.owns k ->k<wr.heap.size) (And.intro (fun k hk=>(World.ownsRow.lt HM.out.ow k hk.symm).2:∀k,some k=(Value.slice (some ⟨bg,bo,none⟩) m ocap).ownBlock ->k<wr.heap.size) HM.out.bk.below.size)));have htz:({data:=xtx.toArray}:ByteArray).size=xtx.length:=(by rw [Lib.size_eq]);have hiz:({data:=xin.toArray}:ByteArray).size=xin.length:=(by rw [Lib.size_eq]);have HX:=zh hx;clear hbr hx hba;go_upto_region 5 with (fail)
   obtain ⟨K,hK⟩:∃n,wr.heap.size=n:=⟨_,rfl⟩
   rw [hK]at hx9 HNEW⊢;generalize wr.alloc (.cells #[.int .i64 (xk:Int),.int .i64 (xdp:Int),.int .i64 xn,.bool xt,.string ⟨xtx.toArray⟩,.string ⟨xin.toArray⟩] 45)=W2 at hx9 HM2⊢;have HPX:=zh hx9;obtain ⟨k0,k1,k2,k3,k4,k5⟩:=lR hx9;clear x0 x1 x2 x3 x4 x5 hx9 hK HM;by_cases h1:xk=1
   ·have hq1:((xk:Int)==1)=true:=(by simp;omega);rw [Ap (by exact h1)]at hfn;simp only at hfn;have HPA:=zh (yT (M:=M) (Z:=Z) HM2.out.bd (HE.out.below HM2.out.bk.below) ⟨xtx.toArray⟩ (by omega) ht3 hMZ hM (by omega) (by omega) (by omega) HF.out.mt HF.out.na);rw [htz,show ({data:=xtx.toArray}:ByteArray).data.toList=xtx from rfl]at HPA;have hpz:=(pu (xtx.length+1) st' xtx).1.bl;obtain ⟨ptx,st5,hps⟩:∃a c,d6 (xtx.length+1) st' xtx=(a,c):=⟨_,_,rfl⟩
    rw [hps]at HPA hfn hpz;simp only at HPA hfn hpz;have HFN:=zh hfn;have hnn:st5.blocks.length <= 1000000000:=(by rw [hpz];omega);clear hfn hps hpz h1;go_wp2_with fail;refine HPA.out.mono ?_;rintro e w5 ⟨rfl,hp5⟩;obtain ⟨V5,hm5,hnw5,hbk5⟩:=HM2.out.told hp5;obtain ⟨hn1,hn2,hn3,hn4⟩:=HNEW.out;have hKl:=(Array.getElem?_eq_some_iff.1 HPX.out).1;have hpx5:=(hbk5.keep K hKl (by omega) (fun e=>by have:=hn2 K e;omega)).trans HPX.out;have hm6:=hm5.store hBw hn4 (by omega) (fun e=>by
     rcases hnw5 K e with q|q
     ·have:=hn2 K q;omega
     ·omega) (fun e=>by have:=hn3 K e;omega) 4 (.string ⟨ptx.toArray⟩)
    have hpx6:=heap_setCell_same w5 K 4 _ _ (.string ⟨ptx.toArray⟩) hpx5;have l4:w5.cell? ⟨K,4,none⟩=some (.string ⟨xtx.toArray⟩):=(by rw [cell_of_row w5 K _ _ _ _ hpx5];rfl);have f4:w5.frozen? ⟨K,4,none⟩=false:=frozen_of_row w5 K 4 _ _ hpx5;have HM6:=zh hm6;have HPX6:=zh (show (w5.setCell ⟨K,4,none⟩ (.string ⟨ptx.toArray⟩)).heap[K]? =some (.cells #[.int .i64 (xk:Int),.int .i64 (xdp:Int),.int .i64 xn,.bool xt,.string ⟨ptx.toArray⟩,.string ⟨xin.toArray⟩] 45 (0,0))from hpx6);clear hp5 hm5 hnw5 hbk5 hn1 hn2 hn3 hn4 hKl hpx5 hm6 hpx6 HPA HM2 HPX k0 k1 k2 k3 k4 k5;go_upto_region 8 with (fail)
    generalize w5.setCell ⟨K,4,none⟩ (.string ⟨ptx.toArray⟩)=W6 at HM6 HPX6⊢;have k4:W6.cell? ⟨K,4,none⟩=some (.string ⟨ptx.toArray⟩):=(by rw [cell_of_row W6 K _ _ _ _ HPX6.out];rfl);clear l4 f4;by_cases hpe:ptx=[]
    ·have hpe2:ptx.isEmpty=true:=(by rw [hpe];rfl);have HN2:=zh (show vP M Z Tx m old R (i+1) st5 from by
      have:=HFN.out;rw [if_pos hpe]at this;exact this)
     clear hpe;go_wp2_with fail;go_roundw;case rel=>exact ⟨i+1,V5,st5,by go_num,by omega,HM6.out,HN2.out⟩
     case measure=>simp [intOf];omega
    ·have hpe2:ptx.isEmpty=false:=(by cases ptx with|nil=>exact absurd rfl hpe|cons=>rfl);have HN2:=zh (show vP M Z Tx m old R (i+1) {st5 with blocks:=st5.blocks++[⟨xk,xdp,xn,xt,ptx,xin⟩]}from by
      have:=HFN.out;rw [if_neg hpe]at this;exact this)
     clear hpe;go_wp2_with fail;clear k4;have hbd9:=(HM6).out.bd;have hown:=hbd9.bl;unfold cP at hown;obtain ⟨dao,dcap,hdv,_⟩:=ab hown;have hc0:(W6).drew.cell? ⟨b,0,none⟩=some (V5).bv:=(by rw [cell_of_row (W6).drew b _ _ _ _ hbd9.heap];rfl);obtain ⟨n,hn⟩:∃n,(st5).blocks.length=n:=⟨_,rfl⟩
     rw [hn]at hown hdv hnn;rw [hdv]at hc0 hown;have hbn:=(Below.refl (W6).drew.heap.size (W6).drew).alloc (Nat.le_refl _) (.cells ([.int .i64 (xk:Int),.int .i64 (xdp:Int),.int .i64 xn,.bool xt,.string ⟨(ptx).toArray⟩,.string ⟨(xin).toArray⟩]).toArray 45);have hrow:=gm (W6).drew [.int .i64 (xk:Int),.int .i64 (xdp:Int),.int .i64 xn,.bool xt,.string ⟨(ptx).toArray⟩,.string ⟨(xin).toArray⟩] 45 6 1 (W6).heap.size rfl rfl (by omega);have hownA:=ae (World.ownsRow.drew hown) hbn;have hbdA:=(hbd9).below ((Below.refl (W6).heap.size W6).drew.trans hbn);have c1A:=(hbn.cell (p:=⟨b,0,none⟩) (hbd9).lt).trans hc0;have pxA:=(hbn.block K (Array.getElem?_eq_some_iff.1 (HPX6).out).1).trans (HPX6).out;have HA:=zh (And.intro hbn (And.intro hrow (And.intro hownA hbdA)));have HCA:=zh (And.intro c1A pxA);clear hbn hrow hownA hbdA c1A pxA hown;have HDV:=zh hdv;have HN:=zh hn;clear hdv hn;refine aQ (S:=fun j W'=>([5,6,7].contains j=true) ->(W'.cell? ⟨b,0,none⟩=some (.slice dao n dcap)∧W'.heap[K]? =some (.cells #[.int .i64 (xk:Int),.int .i64 (xdp:Int),.int .i64 xn,.bool xt,.string ⟨(ptx).toArray⟩,.string ⟨(xin).toArray⟩] 45 (0,0)))) (by kernel_rfl) ?_;refine bC 0 53 ?_;simp only [List.set];refine bC 1 54 ?_;simp only [List.set];refine bC 2 55 ?_;simp only [List.set];refine bC 3 56 ?_;simp only [List.set];refine bC 4 57 ?_;simp only [List.set];refine ga 6 59 ?_ rfl [5] (by kernel_rfl) (fun _ _ _ h=>h) (by decide) rfl (Or.inl ⟨by rfl,?_⟩) ⟨hc0,(HPX6).out⟩ ?_;rotate_left
     ·rintro w' ⟨s0,s1⟩;obtain ⟨z0,z1,z2,z3,z4,z5⟩:=lR s1;go_simp<;>with_reducible rfl
     simp only [List.set];refine ga 5 58 ?_ rfl [7] (by kernel_rfl) (fun _ _ _ h=>h) (by decide) rfl (Or.inl ⟨by rfl,?_⟩) ⟨hc0,(HPX6).out⟩ ?_;rotate_left
     ·rintro w' ⟨s0,s1⟩
      skip
      go_simp<;>with_reducible rfl
     simp only [List.set];refine ac (i:=7) (by kernel_rfl) rfl (fun K' hK=>?_);have HKK:=zh hK;clear hK;go_simp
     refine HKK.out _ _ ⟨fun _=>HCA.out,?_⟩;clear HKK K';try simp only [Act.put,List.setIfInBounds_toArray,List.set_cons_zero,List.set_cons_succ,List.getElem_toArray,List.getElem_cons_zero,List.getElem_cons_succ]
     refine ac (i:=8) (by kernel_rfl) rfl (fun K' hK=>?_);have HKK:=zh hK;clear hK;refine bU _ rfl (.tmp 58) (.tmp 60) 28 rfl B 45 ib (.agg #[.int .i64 0,.int .i64 0,.int .i64 0,.bool false,.string ⟨#[]⟩,.string ⟨#[]⟩]) 6 64 Tryz.underlying28 hbi hb0 hb1 hb2 rfl (by decide) (.slice dao n dcap) n ((st5).blocks.flatMap bS) rfl HA.out.2.2.1 (some ⟨(W6).heap.size,0,none⟩) 1 1 [.int .i64 (xk:Int),.int .i64 (xdp:Int),.int .i64 xn,.bool xt,.string ⟨(ptx).toArray⟩,.string ⟨(xin).toArray⟩] rfl HA.out.2.1 (fun h=>by cases h) (by intro u hu;simp at hu;rcases hu with rfl|rfl|rfl|rfl|rfl|rfl<;>rfl) (by unfold maxLen;omega) (by omega) ?c9 ?_;case c9=>exact Nat.le_trans hbd9.hB (by simp)
     intro v8 w8 hown8 hgrow8 hat8;obtain ⟨ao8,c8,hv8,_⟩:=ab hown8;subst hv8;rw [<- HDV.out]at hgrow8 hat8;have hh8:=(HA.out.2.2.2.kept (by have:=HA.out.2.2.2.bl;exact this) hgrow8 (by decide)).trans HA.out.2.2.2.heap;have f8:=frozen_of_row w8 b 0 _ _ hh8;have e8:w8.cell? ⟨b,0,none⟩=some (V5).bv:=(by rw [cell_of_row w8 b _ _ _ _ hh8];rfl);have hp8:=HA.out.2.2.2.pushB ⟨xk,xdp,xn,xt,ptx,xin⟩ (v:=.slice ao8 (n+1) c8) (by
      unfold cP;rw [List.length_append,List.flatMap_append,HN.out];exact hown8) hgrow8 (gO.of hat8 (Nat.le_refl _))
     have hp9:=d7.trans (BK.of_below (((Below.refl (W6).heap.size W6).drew).trans HA.out.1) hbd9.hB) ((V5).newer_refl _) hp8;obtain ⟨V9,hm9,_,_⟩:=(HM6).out.told hp9;have HM10:=zh hm9;clear hown8 hgrow8 hat8 hh8 hp8 hp9 hm9 HA HCA hbd9;refine HKK.out _ _ ⟨fun h=>absurd h (by decide),?_⟩;clear HKK K';try simp only [Act.put,List.setIfInBounds_toArray,List.set_cons_zero,List.set_cons_succ,List.getElem_toArray,List.getElem_cons_zero,List.getElem_cons_succ]
     refine bC 9 62 ?_;simp only [List.set];refine bC 10 63 ?_;simp only [List.set];refine bC 11 64 ?_;simp only [List.set];refine ac (i:=12) (by kernel_rfl) rfl (fun K' hK=>?_);have HKK:=zh hK;clear hK;go_simp
     refine HKK.out _ _ ⟨fun h=>absurd h (by decide),?_⟩;clear HKK K';try simp only [Act.put,List.setIfInBounds_toArray,List.set_cons_zero,List.set_cons_succ,List.getElem_toArray,List.getElem_cons_zero,List.getElem_cons_succ]
     refine aP (by kernel_rfl) ?_ _;clear hc0 f8 e8;go_wp2_with fail;go_roundw;case rel=>exact ⟨i+1,V9,_,by go_num,by omega,HM10.out,(HN2).out⟩
     case measure=>simp [intOf];omega
   ·have hq1:((xk:Int)==1)=false:=(by simp;omega);by_cases h68:xk=6∨xk=8
    ·rw [Ao (by exact h1) (by exact h68)]at hfn;have HN2:=zh hfn;have hnn:st'.blocks.length <= 1000000000:=(by omega);have hm2d:=HM2.out.below (Below.refl W2.heap.size W2).drew hBw;obtain ⟨aao,acap,hav,har,_⟩:=ab hm2d.bd.at';have c1:W2.drew.cell? ⟨b,1,none⟩=some V'.av:=(by rw [cell_of_row W2.drew b _ _ _ _ hm2d.bd.heap];rfl);rw [hav]at c1;have hv1:=jx ⟨xtx.toArray⟩ aao acap st'.atoms W2.drew (HE.out.below hm2d.bk.below).env (fun _=>har) (by omega) (fun a ha=>Nat.le_trans (HF.out.mt a ha) hM);have hv2:=fun w3 (hb:Below W2.drew.heap.size W2.drew w3)=>jx ⟨xin.toArray⟩ aao acap st'.atoms w3 (HE.out.below (hm2d.below hb hBw).bk.below).env (fun _=>har.below hb) (by omega) (fun a ha=>Nat.le_trans (HF.out.mt a ha) hM);rw [show ({data:=xtx.toArray}:ByteArray).data.toList=xtx from rfl]at hv1;simp only [show ({data:=xin.toArray}:ByteArray).data.toList=xin from rfl]at hv2;obtain ⟨rtx,hrt⟩:∃l,aG xtx st'.atoms=l:=⟨_,rfl⟩
     obtain ⟨rin,hri⟩:∃l,aG xin st'.atoms=l:=⟨_,rfl⟩
     obtain ⟨na,hna⟩:∃n,st'.atoms.length=n:=⟨_,rfl⟩
     rw [hrt,hna]at hv1;simp only [hri,hna]at hv2;rw [hna]at c1;rw [hrt,hri]at HN2;have HV1:=zh hv1;have HV2:=zh hv2;have HM2d:=zh hm2d;have HPXd:=zh (show W2.drew.heap[K]? =_ from HPX.out);clear hfn hm2d hav har hv1 hv2 hrt hri hna;have hq:((xk:Int)==6||(xk:Int)==8)=true:=by
      rcases h68 with h|h
      ·simp [h]
      ·simp [h]
     have h68':(((xk:Int)==6)=false∧((xk:Int)==8)=true)∨(((xk:Int)==6)=true∧((xk:Int)==8)=((xk:Int)==8)):=by
      cases h6:((xk:Int)==6)
      ·exact Or.inl ⟨rfl,by rw [h6]at hq;simpa using hq⟩
      ·exact Or.inr ⟨rfl,rfl⟩
     clear h68 h1 hq;rcases h68' with ⟨h6,h8⟩|⟨h6,h8⟩
     all_goals
      go_wp2_with fail;refine aQ (S:=fun j W'=>([1,6,7,9,14,15,16].contains j=true) ->(W'.cell? ⟨b,1,none⟩=some (.slice aao na acap)∧W'.heap[K]? =some (.cells #[.int .i64 (xk:Int),.int .i64 (xdp:Int),.int .i64 xn,.bool xt,.string ⟨xtx.toArray⟩,.string ⟨xin.toArray⟩] 45 (0,0)))) (by kernel_rfl) ?_;refine bC 0 35 ?_;simp only [List.set];refine bC 2 37 ?_;simp only [List.set];refine bC 3 38 ?_;simp only [List.set];refine bC 4 39 ?_;simp only [List.set];refine bC 5 40 ?_;simp only [List.set];refine bC 8 43 ?_;simp only [List.set];refine bC 10 45 ?_;simp only [List.set];refine bC 11 46 ?_;simp only [List.set];refine bC 12 47 ?_;simp only [List.set];refine bC 13 48 ?_;simp only [List.set];refine ga 1 36 ?_ rfl [6,9,14] (by kernel_rfl) (fun _ _ _ h=>h) (by decide) rfl (Or.inl ⟨by rfl,?_⟩) ⟨c1,HPXd.out⟩ ?_;rotate_left
      ·rintro w' ⟨s0,s1⟩;obtain ⟨z0,z1,z2,z3,z4,z5⟩:=lR s1;go_simp<;>with_reducible rfl
      simp only [List.set];refine ga 6 41 ?_ rfl [9,14] (by kernel_rfl) (fun _ _ _ h=>h) (by decide) rfl (Or.inl ⟨by rfl,?_⟩) ⟨c1,HPXd.out⟩ ?_;rotate_left
      ·rintro w' ⟨s0,s1⟩
       skip
       go_simp<;>with_reducible rfl
      simp only [List.set];refine ga 9 44 ?_ rfl [7,14,16] (by kernel_rfl) (fun _ _ _ h=>h) (by decide) rfl (Or.inl ⟨by rfl,?_⟩) ⟨c1,HPXd.out⟩ ?_;rotate_left
      ·rintro w' ⟨s0,s1⟩;obtain ⟨z0,z1,z2,z3,z4,z5⟩:=lR s1;go_simp<;>with_reducible rfl
      simp only [List.set];refine ga 14 49 ?_ rfl [7,16] (by kernel_rfl) (fun _ _ _ h=>h) (by decide) rfl (Or.inl ⟨by rfl,?_⟩) ⟨c1,HPXd.out⟩ ?_;rotate_left
      ·rintro w' ⟨s0,s1⟩
       skip
       go_simp<;>with_reducible rfl
      simp only [List.set];refine ac (i:=7) (by kernel_rfl) rfl (fun K' hK=>?_);have HKK:=zh hK;clear hK;go_simp
      refine HV1.out.mono ?_;rintro e w3 ⟨rfl,hb3⟩;have c13:=(hb3.cell (p:=⟨b,1,none⟩) HM2d.out.bd.lt).trans c1;have hpx3:=(hb3.block K (Array.getElem?_eq_some_iff.1 HPXd.out).1).trans HPXd.out;have hv3:=HV2.out w3 hb3;have HV3:=zh hv3;have HM3:=zh (HM2d.out.below hb3 hBw);have HPX3:=zh hpx3;clear hb3 hv3 hpx3 HV1 HV2 c1 HM2d HPXd;go_wp2_with fail;refine HKK.out _ _ ⟨fun _=>⟨c13,HPX3.out⟩,?_⟩;clear HKK K';try simp only [Act.put,List.setIfInBounds_toArray,List.set_cons_zero,List.set_cons_succ,List.getElem_toArray,List.getElem_cons_zero,List.getElem_cons_succ]
      refine ga 16 51 ?_ rfl [15] (by kernel_rfl) (fun _ _ _ h=>h) (by decide) rfl (Or.inl ⟨by rfl,?_⟩) ⟨c13,HPX3.out⟩ ?_;rotate_left
      ·rintro w' ⟨s0,s1⟩
       skip
       go_simp<;>with_reducible rfl
      simp only [List.set];refine ac (i:=15) (by kernel_rfl) rfl (fun K' hK=>?_);have HKK:=zh hK;clear hK;go_simp
      refine HV3.out.mono ?_;rintro e w4 ⟨rfl,hb4⟩;have hm4:=HM3.out.below hb4 hBw;have hpx4:=(hb4.block K (Array.getElem?_eq_some_iff.1 HPX3.out).1).trans HPX3.out;obtain ⟨hn1,hn2,hn3,hn4⟩:=HNEW.out;have hno:¬V'.owns K:=fun e=>by have:=hn2 K e;omega
      have hm5:=hm4.store hBw hn4 (by omega) hno (fun e=>by have:=hn3 K e;omega) 4 (.string ⟨rtx.toArray⟩);have hpx5:=heap_setCell_same w4 K 4 _ _ (.string ⟨rtx.toArray⟩) hpx4;have hm6:=hm5.store hBw hn4 (by omega) hno (fun e=>by have:=hn3 K e;omega) 5 (.string ⟨rin.toArray⟩);have hpx6:=heap_setCell_same (w4.setCell ⟨K,4,none⟩ (.string ⟨rtx.toArray⟩)) K 5 _ _ (.string ⟨rin.toArray⟩) hpx5;have l4:w4.cell? ⟨K,4,none⟩=some (.string ⟨xtx.toArray⟩):=(by rw [cell_of_row w4 K _ _ _ _ hpx4];rfl);have f4:w4.frozen? ⟨K,4,none⟩=false:=frozen_of_row w4 K 4 _ _ hpx4;have l5:(w4.setCell ⟨K,4,none⟩ (.string ⟨rtx.toArray⟩)).cell? ⟨K,5,none⟩=some (.string ⟨xin.toArray⟩):=(by rw [cell_of_row _ K _ _ _ _ hpx5];rfl);have f5:(w4.setCell ⟨K,4,none⟩ (.string ⟨rtx.toArray⟩)).frozen? ⟨K,5,none⟩=false:=frozen_of_row _ K 5 _ _ hpx5;have HM6:=zh hm6;have HPX6:=zh (show ((w4.setCell ⟨K,4,none⟩ (.string ⟨rtx.toArray⟩)).setCell ⟨K,5,none⟩ (.string ⟨rin.toArray⟩)).heap[K]? =some (.cells #[.int .i64 (xk:Int),.int .i64 (xdp:Int),.int .i64 xn,.bool xt,.string ⟨rtx.toArray⟩,.string ⟨rin.toArray⟩] 45 (0,0))from hpx6);have c14:w4.cell? ⟨b,1,none⟩=some (.slice aao na acap):=(hb4.cell (p:=⟨b,1,none⟩) HM3.out.bd.lt).trans c13;clear hb4 hm4 hn1 hn2 hn3 hn4 hno hm5 hpx5 hm6 hpx6 HM3 HPX3 HV3 c13;go_wp2_with fail;refine HKK.out _ _ ⟨fun _=>⟨c14,hpx4⟩,?_⟩;clear HKK K';try simp only [Act.put,List.setIfInBounds_toArray,List.set_cons_zero,List.set_cons_succ,List.getElem_toArray,List.getElem_cons_zero,List.getElem_cons_succ]
      clear c14 hpx4;refine ac (i:=17) (by kernel_rfl) rfl (fun K' hK=>?_);have HKK:=zh hK;clear hK;go_simp
      refine HKK.out _ _ ⟨fun h=>absurd h (by decide),?_⟩;clear HKK K';try simp only [Act.put,List.setIfInBounds_toArray,List.set_cons_zero,List.set_cons_succ,List.getElem_toArray,List.getElem_cons_zero,List.getElem_cons_succ]
      refine bC 18 52 ?_;simp only [List.set];refine ac (i:=19) (by kernel_rfl) rfl (fun K' hK=>?_);have HKK:=zh hK;clear hK;go_simp
      refine HKK.out _ _ ⟨fun h=>absurd h (by decide),?_⟩;clear HKK K';try simp only [Act.put,List.setIfInBounds_toArray,List.set_cons_zero,List.set_cons_succ,List.getElem_toArray,List.getElem_cons_zero,List.getElem_cons_succ]
      refine aP (by kernel_rfl) ?_ _;generalize (w4.setCell ⟨K,4,none⟩ (.string ⟨rtx.toArray⟩)).setCell ⟨K,5,none⟩ (.string ⟨rin.toArray⟩)=W6 at HM6 HPX6⊢;clear l4 f4 l5 f5 k0 k1 k2 k3 k4 k5;go_wp2_with fail;have hbd9:=(HM6).out.bd;have hown:=hbd9.bl;unfold cP at hown;obtain ⟨dao,dcap,hdv,_⟩:=ab hown;have hc0:(W6).drew.cell? ⟨b,0,none⟩=some (V').bv:=(by rw [cell_of_row (W6).drew b _ _ _ _ hbd9.heap];rfl);obtain ⟨n,hn⟩:∃n,(st').blocks.length=n:=⟨_,rfl⟩
      rw [hn]at hown hdv hnn;rw [hdv]at hc0 hown;have hbn:=(Below.refl (W6).drew.heap.size (W6).drew).alloc (Nat.le_refl _) (.cells ([.int .i64 (xk:Int),.int .i64 (xdp:Int),.int .i64 xn,.bool xt,.string ⟨(rtx).toArray⟩,.string ⟨(rin).toArray⟩]).toArray 45);have hrow:=gm (W6).drew [.int .i64 (xk:Int),.int .i64 (xdp:Int),.int .i64 xn,.bool xt,.string ⟨(rtx).toArray⟩,.string ⟨(rin).toArray⟩] 45 6 1 (W6).heap.size rfl rfl (by omega);have hownA:=ae (World.ownsRow.drew hown) hbn;have hbdA:=(hbd9).below ((Below.refl (W6).heap.size W6).drew.trans hbn);have c1A:=(hbn.cell (p:=⟨b,0,none⟩) (hbd9).lt).trans hc0;have pxA:=(hbn.block K (Array.getElem?_eq_some_iff.1 (HPX6).out).1).trans (HPX6).out;have HA:=zh (And.intro hbn (And.intro hrow (And.intro hownA hbdA)));have HCA:=zh (And.intro c1A pxA);clear hbn hrow hownA hbdA c1A pxA hown;have HDV:=zh hdv;have HN:=zh hn;clear hdv hn;refine aQ (S:=fun j W'=>([5,6,7].contains j=true) ->(W'.cell? ⟨b,0,none⟩=some (.slice dao n dcap)∧W'.heap[K]? =some (.cells #[.int .i64 (xk:Int),.int .i64 (xdp:Int),.int .i64 xn,.bool xt,.string ⟨(rtx).toArray⟩,.string ⟨(rin).toArray⟩] 45 (0,0)))) (by kernel_rfl) ?_;refine bC 0 53 ?_;simp only [List.set];refine bC 1 54 ?_;simp only [List.set];refine bC 2 55 ?_;simp only [List.set];refine bC 3 56 ?_;simp only [List.set];refine bC 4 57 ?_;simp only [List.set];refine ga 6 59 ?_ rfl [5] (by kernel_rfl) (fun _ _ _ h=>h) (by decide) rfl (Or.inl ⟨by rfl,?_⟩) ⟨hc0,(HPX6).out⟩ ?_;rotate_left
      ·rintro w' ⟨s0,s1⟩;obtain ⟨z0,z1,z2,z3,z4,z5⟩:=lR s1;go_simp<;>with_reducible rfl
      simp only [List.set];refine ga 5 58 ?_ rfl [7] (by kernel_rfl) (fun _ _ _ h=>h) (by decide) rfl (Or.inl ⟨by rfl,?_⟩) ⟨hc0,(HPX6).out⟩ ?_;rotate_left
      ·rintro w' ⟨s0,s1⟩
       skip
       go_simp<;>with_reducible rfl
      simp only [List.set];refine ac (i:=7) (by kernel_rfl) rfl (fun K' hK=>?_);have HKK:=zh hK;clear hK;go_simp
      refine HKK.out _ _ ⟨fun _=>HCA.out,?_⟩;clear HKK K';try simp only [Act.put,List.setIfInBounds_toArray,List.set_cons_zero,List.set_cons_succ,List.getElem_toArray,List.getElem_cons_zero,List.getElem_cons_succ]
      refine ac (i:=8) (by kernel_rfl) rfl (fun K' hK=>?_);have HKK:=zh hK;clear hK;refine bU _ rfl (.tmp 58) (.tmp 60) 28 rfl B 45 ib (.agg #[.int .i64 0,.int .i64 0,.int .i64 0,.bool false,.string ⟨#[]⟩,.string ⟨#[]⟩]) 6 64 Tryz.underlying28 hbi hb0 hb1 hb2 rfl (by decide) (.slice dao n dcap) n ((st').blocks.flatMap bS) rfl HA.out.2.2.1 (some ⟨(W6).heap.size,0,none⟩) 1 1 [.int .i64 (xk:Int),.int .i64 (xdp:Int),.int .i64 xn,.bool xt,.string ⟨(rtx).toArray⟩,.string ⟨(rin).toArray⟩] rfl HA.out.2.1 (fun h=>by cases h) (by intro u hu;simp at hu;rcases hu with rfl|rfl|rfl|rfl|rfl|rfl<;>rfl) (by unfold maxLen;omega) (by omega) ?c9 ?_;case c9=>exact Nat.le_trans hbd9.hB (by simp)
      intro v8 w8 hown8 hgrow8 hat8;obtain ⟨ao8,c8,hv8,_⟩:=ab hown8;subst hv8;rw [<- HDV.out]at hgrow8 hat8;have hh8:=(HA.out.2.2.2.kept (by have:=HA.out.2.2.2.bl;exact this) hgrow8 (by decide)).trans HA.out.2.2.2.heap;have f8:=frozen_of_row w8 b 0 _ _ hh8;have e8:w8.cell? ⟨b,0,none⟩=some (V').bv:=(by rw [cell_of_row w8 b _ _ _ _ hh8];rfl);have hp8:=HA.out.2.2.2.pushB ⟨xk,xdp,xn,xt,rtx,rin⟩ (v:=.slice ao8 (n+1) c8) (by
       unfold cP;rw [List.length_append,List.flatMap_append,HN.out];exact hown8) hgrow8 (gO.of hat8 (Nat.le_refl _))
      have hp9:=d7.trans (BK.of_below (((Below.refl (W6).heap.size W6).drew).trans HA.out.1) hbd9.hB) ((V').newer_refl _) hp8;obtain ⟨V9,hm9,_,_⟩:=(HM6).out.told hp9;have HM10:=zh hm9;clear hown8 hgrow8 hat8 hh8 hp8 hp9 hm9 HA HCA hbd9;refine HKK.out _ _ ⟨fun h=>absurd h (by decide),?_⟩;clear HKK K';try simp only [Act.put,List.setIfInBounds_toArray,List.set_cons_zero,List.set_cons_succ,List.getElem_toArray,List.getElem_cons_zero,List.getElem_cons_succ]
      refine bC 9 62 ?_;simp only [List.set];refine bC 10 63 ?_;simp only [List.set];refine bC 11 64 ?_;simp only [List.set];refine ac (i:=12) (by kernel_rfl) rfl (fun K' hK=>?_);have HKK:=zh hK;clear hK;go_simp
      refine HKK.out _ _ ⟨fun h=>absurd h (by decide),?_⟩;clear HKK K';try simp only [Act.put,List.setIfInBounds_toArray,List.set_cons_zero,List.set_cons_succ,List.getElem_toArray,List.getElem_cons_zero,List.getElem_cons_succ]
      refine aP (by kernel_rfl) ?_ _;clear hc0 f8 e8;go_wp2_with fail;go_roundw;case rel=>exact ⟨i+1,V9,_,by go_num,by omega,HM10.out,(HN2).out⟩
      case measure=>simp [intOf];omega
    ·have hq6:((xk:Int)==6)=false:=(by simp;omega);have hq8:((xk:Int)==8)=false:=(by simp;omega);rw [xB (by exact h1) (by exact h68)]at hfn;have HN2:=zh hfn;have hnn:st'.blocks.length <= 1000000000:=(by omega);clear hfn h1 h68;go_wp2_with fail;clear k1 k2 k3 k4 k5;have hbd9:=(HM2).out.bd;have hown:=hbd9.bl;unfold cP at hown;obtain ⟨dao,dcap,hdv,_⟩:=ab hown;have hc0:(W2).drew.cell? ⟨b,0,none⟩=some (V').bv:=(by rw [cell_of_row (W2).drew b _ _ _ _ hbd9.heap];rfl);obtain ⟨n,hn⟩:∃n,(st').blocks.length=n:=⟨_,rfl⟩
     rw [hn]at hown hdv hnn;rw [hdv]at hc0 hown;have hbn:=(Below.refl (W2).drew.heap.size (W2).drew).alloc (Nat.le_refl _) (.cells ([.int .i64 (xk:Int),.int .i64 (xdp:Int),.int .i64 xn,.bool xt,.string ⟨(xtx).toArray⟩,.string ⟨(xin).toArray⟩]).toArray 45);have hrow:=gm (W2).drew [.int .i64 (xk:Int),.int .i64 (xdp:Int),.int .i64 xn,.bool xt,.string ⟨(xtx).toArray⟩,.string ⟨(xin).toArray⟩] 45 6 1 (W2).heap.size rfl rfl (by omega);have hownA:=ae (World.ownsRow.drew hown) hbn;have hbdA:=(hbd9).below ((Below.refl (W2).heap.size W2).drew.trans hbn);have c1A:=(hbn.cell (p:=⟨b,0,none⟩) (hbd9).lt).trans hc0;have pxA:=(hbn.block K (Array.getElem?_eq_some_iff.1 (HPX).out).1).trans (HPX).out;have HA:=zh (And.intro hbn (And.intro hrow (And.intro hownA hbdA)));have HCA:=zh (And.intro c1A pxA);clear hbn hrow hownA hbdA c1A pxA hown;have HDV:=zh hdv;have HN:=zh hn;clear hdv hn;refine aQ (S:=fun j W'=>([5,6,7].contains j=true) ->(W'.cell? ⟨b,0,none⟩=some (.slice dao n dcap)∧W'.heap[K]? =some (.cells #[.int .i64 (xk:Int),.int .i64 (xdp:Int),.int .i64 xn,.bool xt,.string ⟨(xtx).toArray⟩,.string ⟨(xin).toArray⟩] 45 (0,0)))) (by kernel_rfl) ?_;refine bC 0 53 ?_;simp only [List.set];refine bC 1 54 ?_;simp only [List.set];refine bC 2 55 ?_;simp only [List.set];refine bC 3 56 ?_;simp only [List.set];refine bC 4 57 ?_;simp only [List.set];refine ga 6 59 ?_ rfl [5] (by kernel_rfl) (fun _ _ _ h=>h) (by decide) rfl (Or.inl ⟨by rfl,?_⟩) ⟨hc0,(HPX).out⟩ ?_;rotate_left
     ·rintro w' ⟨s0,s1⟩;obtain ⟨z0,z1,z2,z3,z4,z5⟩:=lR s1;go_simp<;>with_reducible rfl
     simp only [List.set];refine ga 5 58 ?_ rfl [7] (by kernel_rfl) (fun _ _ _ h=>h) (by decide) rfl (Or.inl ⟨by rfl,?_⟩) ⟨hc0,(HPX).out⟩ ?_;rotate_left
     ·rintro w' ⟨s0,s1⟩
      skip
      go_simp<;>with_reducible rfl
     simp only [List.set];refine ac (i:=7) (by kernel_rfl) rfl (fun K' hK=>?_);have HKK:=zh hK;clear hK;go_simp
     refine HKK.out _ _ ⟨fun _=>HCA.out,?_⟩;clear HKK K';try simp only [Act.put,List.setIfInBounds_toArray,List.set_cons_zero,List.set_cons_succ,List.getElem_toArray,List.getElem_cons_zero,List.getElem_cons_succ]
     refine ac (i:=8) (by kernel_rfl) rfl (fun K' hK=>?_);have HKK:=zh hK;clear hK;refine bU _ rfl (.tmp 58) (.tmp 60) 28 rfl B 45 ib (.agg #[.int .i64 0,.int .i64 0,.int .i64 0,.bool false,.string ⟨#[]⟩,.string ⟨#[]⟩]) 6 64 Tryz.underlying28 hbi hb0 hb1 hb2 rfl (by decide) (.slice dao n dcap) n ((st').blocks.flatMap bS) rfl HA.out.2.2.1 (some ⟨(W2).heap.size,0,none⟩) 1 1 [.int .i64 (xk:Int),.int .i64 (xdp:Int),.int .i64 xn,.bool xt,.string ⟨(xtx).toArray⟩,.string ⟨(xin).toArray⟩] rfl HA.out.2.1 (fun h=>by cases h) (by intro u hu;simp at hu;rcases hu with rfl|rfl|rfl|rfl|rfl|rfl<;>rfl) (by unfold maxLen;omega) (by omega) ?c9 ?_;case c9=>exact Nat.le_trans hbd9.hB (by simp)
     intro v8 w8 hown8 hgrow8 hat8;obtain ⟨ao8,c8,hv8,_⟩:=ab hown8;subst hv8;rw [<- HDV.out]at hgrow8 hat8;have hh8:=(HA.out.2.2.2.kept (by have:=HA.out.2.2.2.bl;exact this) hgrow8 (by decide)).trans HA.out.2.2.2.heap;have f8:=frozen_of_row w8 b 0 _ _ hh8;have e8:w8.cell? ⟨b,0,none⟩=some (V').bv:=(by rw [cell_of_row w8 b _ _ _ _ hh8];rfl);have hp8:=HA.out.2.2.2.pushB ⟨xk,xdp,xn,xt,xtx,xin⟩ (v:=.slice ao8 (n+1) c8) (by
      unfold cP;rw [List.length_append,List.flatMap_append,HN.out];exact hown8) hgrow8 (gO.of hat8 (Nat.le_refl _))
     have hp9:=d7.trans (BK.of_below (((Below.refl (W2).heap.size W2).drew).trans HA.out.1) hbd9.hB) ((V').newer_refl _) hp8;obtain ⟨V9,hm9,_,_⟩:=(HM2).out.told hp9;have HM10:=zh hm9;clear hown8 hgrow8 hat8 hh8 hp8 hp9 hm9 HA HCA hbd9;refine HKK.out _ _ ⟨fun h=>absurd h (by decide),?_⟩;clear HKK K';try simp only [Act.put,List.setIfInBounds_toArray,List.set_cons_zero,List.set_cons_succ,List.getElem_toArray,List.getElem_cons_zero,List.getElem_cons_succ]
     refine bC 9 62 ?_;simp only [List.set];refine bC 10 63 ?_;simp only [List.set];refine bC 11 64 ?_;simp only [List.set];refine ac (i:=12) (by kernel_rfl) rfl (fun K' hK=>?_);have HKK:=zh hK;clear hK;go_simp
     refine HKK.out _ _ ⟨fun h=>absurd h (by decide),?_⟩;clear HKK K';try simp only [Act.put,List.setIfInBounds_toArray,List.set_cons_zero,List.set_cons_succ,List.getElem_toArray,List.getElem_cons_zero,List.getElem_cons_succ]
     refine aP (by kernel_rfl) ?_ _;clear hc0 f8 e8;go_wp2_with fail;go_roundw;case rel=>exact ⟨i+1,V9,_,by go_num,by omega,HM10.out,(HN2).out⟩
     case measure=>simp [intOf];omega
  ·obtain rfl:i=m:=(by omega);have hfo:=HF.out.fo;rw [<- HMM.out,List.drop_length]at hfo;simp only [List.foldl_nil]at hfo;have HR:=zh hfo;clear hfo;go_wp2_with fail
   go_end0
   refine ⟨rfl,V',?_,HM.out.bk,HM.out.nw⟩;rw [<- HR.out];exact HM.out.bd
end Go.Proofs.YtcannffahjbjnaaGreatDoor
