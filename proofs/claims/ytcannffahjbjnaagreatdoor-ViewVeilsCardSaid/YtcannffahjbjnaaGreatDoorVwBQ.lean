import Derived.Test.YtcannffahjbjnaaGreatDoorVwBP
set_option linter.unusedVariables false
set_option linter.unusedSimpArgs false
set_option maxRecDepth 100000
set_option maxHeartbeats 64000000
namespace Go.Proofs.YtcannffahjbjnaaGreatDoor
open Go.RowKit
theorem ED (V:Nat ->List (List UInt8) ->List aI) {B b:Nat} {w:World} {g o:Nat} {lcap:Nat} {ls:List (List UInt8)} {d:Nat} {ov:Value} (h:eF B b w (some ⟨g,o,none⟩) lcap ls 0 d ov [])
  (HW1:d<12 ->fN V (d+1)) (HLC:d<11 ->xL V d) (hv1:d<12 ->VB V (d+1)) (hv2:d<11 ->VB V (d+2)):
  Calls Tryz.prog 96 #[.pointer (some ⟨b,0,none⟩)] w fun e w'=>∃v i,e=.returned v∧LS B b ov w g o lcap ls d w' i v (dO V (ls.length+1) d ls):=by
 obtain ⟨Q,hQ⟩:∃Q,dO V (ls.length+1) d ls=Q:=⟨_,rfl⟩
 rw [hQ];have HQ:=zh hQ;have HL0:=zh (show LS B b ov w g o lcap ls d w 0 ov []from ⟨h,Kp.refl _ _ _ _,Or.inl rfl,h.hB⟩);have hll:=h.ll;have hdp:=h.dp;have HW1:=zh HW1;have HLC:=zh HLC;have HV1:=zh hv1;have HV2:=zh hv2;clear h hQ hv1 hv2;go_enter Tryz.func96,Tryz.ntmps96
 go_wp2_with fail;go_loopw [] (fun wr=>∃(i f:Nat) (ovr:Value) (acc:List aI),LS B b ov w g o lcap ls d wr i ovr acc∧Hid (ls.length<i+f∧acc.length <= 28*min i ls.length∧acc++dO V f d (ls.drop i)=Q)) (fun wr=>ls.length+2 - (intOf ((wr.cell? ⟨b,1,none⟩).getD undef)).toNat)
 case atStart=>exact ⟨0,ls.length+1,ov,[],HL0.out,zh ⟨by omega,Nat.zero_le _,by rw [List.drop_zero,List.nil_append];exact HQ.out⟩⟩
 case round=>
  obtain ⟨i,f,ovr,acc,hls,HF⟩:=hrel;have HLS:=zh hls;have HC1:=zh hls.bin.pr.cells.2.1;have hi1:=hls.bin.ps;clear hls HL0;by_cases hlt:i<ls.length
  ·have hltI:(i:Int)<(ls.length:Int):=(by omega);obtain ⟨f,rfl⟩:∃f',f=f'+1:=⟨f - 1,by have:=HF.out.1;omega⟩
   have hne:ls.drop i≠[]:=fun e=>by have:=congrArg List.length e;simp at this;omega
   have HNB:=zh (oO V d (ls.drop i) hne hdp HV1.out HV2.out);have HAG:=zh (AW (V:=V) (d:=d) (f:=f) hlt);clear hne;obtain ⟨c0,c1,_,_⟩:=(HLS).out.bin.pr.cells;have ne:Nonempty (fF (Below (wr).heap.size wr)):=⟨⟨wr,Below.refl _ _⟩⟩
   have e0:=ay c0;have e1:=ay c1;clear c0 c1;go_wp2_with fail;refine aE (R:=Below (wr).heap.size wr) (by kernel_rfl) (by kernel_rfl) (Below.refl _ _).drew ?_;repeat (go_big_quiet_step (fail))
   refine wpQuiet_nil ?_;rintro wn ⟨nq,hnq⟩;have hbn:Below (wr).heap.size wr wn:=(by rw [hnq];exact nq.h);clear hnq nq;have HL4:=zh (HLS.out.below hbn)
   rename World=>w4
   clear hbn e0 e1 ne HLS;go_wp2_with fail;refine (EI V HL4.out.bin hlt (by have:=HF.out.2.1;omega) HW1.out HLC.out).mono ?_;rintro e w5 ⟨rfl,hp5⟩;have hnb:=HNB.out;rw [List.length_drop]at hnb;have hm:(28 - 2*d)*min (dq V d (ls.drop i)).2 (ls.length - i) <= 28*min (dq V d (ls.drop i)).2 (ls.length - i):=Nat.mul_le_mul_right _ (by omega);have hlen:(acc++(dq V d (ls.drop i)).1).length <= 28*min (i+(dq V d (ls.drop i)).2) ls.length:=by
    rw [List.length_append];have:=HF.out.2.1;omega
   obtain ⟨ov5,hl5⟩:=HL4.out.post hp5 (by omega) (by omega);have HL5:=zh hl5;have HF5:=zh (show ls.length<i+(dq V d (ls.drop i)).2+f∧(acc++(dq V d (ls.drop i)).1).length <= 28*min (i+(dq V d (ls.drop i)).2) ls.length∧(acc++(dq V d (ls.drop i)).1)++dO V f d (ls.drop (i+(dq V d (ls.drop i)).2))=Q by
    refine ⟨by have:=HF.out.1;omega,hlen,?_⟩;have h1:=HF.out.2.2;rw [HAG.out]at h1;rw [List.append_assoc];exact h1)
   have HN1:=zh hnb.1;clear hp5 hnb hm hlen hl5 HNB HAG HL4;go_wp2_with fail;go_roundw;case rel=>exact ⟨i+(dq V d (ls.drop i)).2,f,ov5,_,HL5.out,HF5⟩
   case measure=>
    have h1:=HL5.out.bin.pr.cells.2.1;have h2:=HN1.out;simp only [h1,HC1.out,Option.getD_some,intOf];omega
  ·have hd:¬(i:Int)<(ls.length:Int):=(by omega);have HE:=zh (show acc=Q by have h1:=HF.out.2.2;rw [xR (by omega),List.append_nil]at h1;exact h1);obtain ⟨c0,c1,_,_⟩:=(HLS).out.bin.pr.cells;have ne:Nonempty (fF (Below (wr).heap.size wr)):=⟨⟨wr,Below.refl _ _⟩⟩
   have e0:=ay c0;have e1:=ay c1;clear c0 c1;go_wp2_with fail;refine aE (R:=Below (wr).heap.size wr) (by kernel_rfl) (by kernel_rfl) (Below.refl _ _).drew ?_;repeat (go_big_quiet_step (fail))
   refine wpQuiet_nil ?_;rintro wn ⟨nq,hnq⟩;have hbn:Below (wr).heap.size wr wn:=(by rw [hnq];exact nq.h);clear hnq nq;have HL4:=zh (HLS.out.below hbn)
   rename World=>w4
   clear hbn e0 e1 ne HLS;obtain ⟨_,_,_,c3⟩:=HL4.out.bin.pr.cells;go_wp2_with fail;go_ret;exact ⟨ovr,i,rfl,by rw [<- HE.out];exact HL4.out⟩
theorem A5 (l:List aI):∀u∈l.flatMap bS,u.oneCell'=true:=by
 intro u hu;obtain ⟨x,_,hx⟩:=List.mem_flatMap.1 hu;exact xV x u hx
theorem Da (V:Nat ->List (List UInt8) ->List aI) (d2:Nat) (hd2:d2 <= 12) (HW1:d2<12 ->fN V (d2+1)) (HLC:d2<11 ->xL V d2) (hv1:d2<12 ->VB V (d2+1)) (hv2:d2<11 ->VB V (d2+2)) (hV:∀l,V d2 l=dO V (l.length+1) d2 l) (hvl:VB V d2):fN V d2:=by
 intro B b w lv pos d ov out g o cap l h hol hR hl0 hlc hlt;obtain ⟨ib,hi,hz0,hz1,hz2⟩:=info_parts kT;have hgl:g<w.heap.size:=by
  obtain ⟨x,t,rfl⟩:∃x t,l=x::t:=(by cases l with|nil=>simp at hl0|cons x t=>exact ⟨x,t,rfl⟩);have:=hR.at' 0 x rfl;exact World.block_lt_of_cell? _ _ this
 have hba:=(Below.refl w.heap.size w).alloc (Nat.le_refl _) (.cells #[.slice (some ⟨g,o,none⟩) l.length cap,.int .i64 0,.int .i64 (d2:Int),.slice none 0 0] 163)
 have hbi:eF w.heap.size w.heap.size (w.alloc (.cells #[.slice (some ⟨g,o,none⟩) l.length cap,.int .i64 0,.int .i64 (d2:Int),.slice none 0 0] 163)) (some ⟨g,o,none⟩) cap l 0 d2 (.slice none 0 0) []:=
  ⟨⟨heap_alloc_new w _,World.ownsRow_nil _ _ _ _,Nat.le_refl _⟩,hR.below hba,fun ad had=>by obtain rfl:=Option.some.inj had;exact hgl,hlt,hlc,Nat.zero_le _,hd2,Nat.zero_le _⟩
 have hh1:=h.below hba;obtain ⟨oao,ocap,hov,_⟩:=ab h.own;subst hov;have hln:=hvl l;have hll:l.length <= 1000000:=(by have:=pD l;omega);have hvn:(V d2 l).length <= 28000000:=by
  have:(28 - 2*d2)*l.length <= 28*1000000:=Nat.mul_le_mul (by omega) hll;omega
 have hcb:=ED V (hbi.below (Below.refl _ _).drew) HW1 HLC hv1 hv2;rw [<- hV l]at hcb;have HC:=zh hcb;have hbd:=hba.drew;have hh2:=h.below hbd;obtain ⟨_,_,_,p3⟩:=hh2.cells;have HB1:=zh hbd;have HH:=zh h;have hwB:B <= w.heap.size:=(by have:=h.base;have:=h.lt;omega);have hbl:=h.lt;have hBb:=h.base;clear hcb hbi hh1 hh2 hba hbd h hR hln hgl hV hvl;go_enter Tryz.func194,Tryz.ntmps194
 go_wp2_with fail;refine aQ (S:=fun j W'=>([4,5].contains j=true) ->W'.cell? ⟨b,3,none⟩=some (.slice oao out.length ocap)) (by kernel_rfl) ?_;refine bC 0 10 ?_;simp only [List.set];refine bC 1 11 ?_;simp only [List.set];refine bC 2 12 ?_;simp only [List.set];refine bC 3 13 ?_;simp only [List.set];refine ga 4 14 ?_ rfl [5] (by kernel_rfl) (fun _ _ _ h=>h) (by decide) rfl (Or.inl ⟨by rfl,?_⟩) p3 ?_;rotate_left
 ·rintro w' s0;go_simp<;>with_reducible rfl
 simp only [List.set];refine ac (i:=5) (by kernel_rfl) rfl (fun K' hK=>?_);have HKK:=zh hK;clear hK;go_simp
 refine HC.out.mono ?_;rintro e w2 ⟨v2,i2,rfl,hl2⟩;have hb2:Below w.heap.size w w2:=HB1.out.trans hl2.kp.below;have hh2:=HH.out.below hb2;obtain ⟨_,_,_,c3⟩:=hh2.cells;obtain ⟨vao,vc,hv,hvr,hvn0,hvle⟩:=ab hl2.bin.pr.own;subst hv;have HH2:=zh hh2;have HB2:=zh hb2;have HVR:=zh hvr;have HVN:=zh hvn0;clear hl2 hb2 hh2 hvr hvn0 hvle HC p3;go_wp2_with fail;refine HKK.out _ _ ⟨fun _=>c3,?_⟩;clear HKK K';try simp only [Act.put,List.setIfInBounds_toArray,List.set_cons_zero,List.set_cons_succ,List.getElem_toArray,List.getElem_cons_zero,List.getElem_cons_succ]
 clear c3;refine ac (i:=6) (by kernel_rfl) rfl (fun K' hK=>?_);have HKK:=zh hK;clear hK;refine bU w2 rfl (.tmp 14) (.tmp 15) 28 rfl B 45 ib (.agg #[.int .i64 0,.int .i64 0,.int .i64 0,.bool false,.string ⟨#[]⟩,.string ⟨#[]⟩]) 6 64 Tryz.underlying28 hi hz0 hz1 hz2 rfl (by decide) (.slice oao out.length ocap) out.length (out.flatMap bS) rfl HH2.out.own vao (V d2 l).length vc ((V d2 l).flatMap bS) rfl HVR.out HVN.out (A5 _) (by unfold maxLen;omega) (by omega) (by have:=HB2.out.size;omega) ?_;intro v5 w5 hown5 hgrow5 hat5;obtain ⟨ao5,cc5,hv5,_⟩:=ab hown5;subst hv5;have hob:(some b:Option Nat)≠(Value.slice oao out.length ocap).ownBlock:=cV HH2.out.own HH2.out.heap (by decide);have hh5:=(hgrow5.block b HH2.out.lt hob).trans HH2.out.heap;have f5:=frozen_of_row w5 b 3 _ _ hh5;have c5:w5.cell? ⟨b,3,none⟩=some (.slice oao out.length ocap):=(by rw [cell_of_row w5 b _ _ _ _ hh5];rfl);have HH5:=zh hh5;have HO5:=zh hown5;have HG5:=zh hgrow5;have HA5:=zh hat5;clear hown5 hgrow5 hat5 hh5 hob;refine HKK.out _ _ ⟨fun h=>absurd h (by decide),?_⟩;clear HKK K';try simp only [Act.put,List.setIfInBounds_toArray,List.set_cons_zero,List.set_cons_succ,List.getElem_toArray,List.getElem_cons_zero,List.getElem_cons_succ]
 refine bC 7 17 ?_;simp only [List.set];refine bC 8 18 ?_;simp only [List.set];refine ac (i:=9) (by kernel_rfl) rfl (fun K' hK=>?_);have HKK:=zh hK;clear hK;go_simp
 refine HKK.out _ _ ⟨fun h=>absurd h (by decide),?_⟩;clear HKK K';try simp only [Act.put,List.setIfInBounds_toArray,List.set_cons_zero,List.set_cons_succ,List.getElem_toArray,List.getElem_cons_zero,List.getElem_cons_succ]
 refine aP (by kernel_rfl) ?_ _;go_wp2_with fail
 go_end0
 have hbw:Below B w (w5.setCell ⟨b,3,none⟩ (.slice ao5 (out.length+(V d2 l).length) cc5)):=((HB2.out.mono hwB).grown HG5.out (by have:=HB2.out.size;omega) (fun j hj=>(HH2.out.own.lt j hj).1)).setCell (p:=⟨b,3,none⟩) hBb _;refine ⟨rfl,.slice ao5 (out.length+(V d2 l).length) cc5,⟨heap_setCell_same w5 b 3 _ _ _ HH5.out,?_,hBb⟩,⟨hbw,fun k hk hkb hks=>?_⟩,?_⟩
 ·have h1:=aF (a:=⟨b,3,none⟩) HO5.out HH5.out (by decide) (.slice ao5 (out.length+(V d2 l).length) cc5);unfold cP;rw [List.length_append,List.flatMap_append];exact h1
 ·rw [Below.heap_setCell _ _ _ _ hkb,HG5.out.block k (Nat.lt_of_lt_of_le hk HB2.out.size) hks];exact HB2.out.block k hk
 ·rcases HA5.out with e|e
  ·exact Or.inl e
  ·exact Or.inr ⟨_,e,HB2.out.size⟩
theorem yh {V:Nat ->List (List UInt8) ->List aI} {d:Nat} (hd:d<11) (HW:fN V (d+2)) (hv:VB V (d+2)):xL V d:=by
 intro B b w g o lcap ls pos ov out h hp0 his hol;exact EG V h hp0 his hol HW (fun l=>Nat.le_trans (hv l) (Nat.mul_le_mul_right _ (by omega)))
theorem jy:∀n d,d+n=12 ->fN et d
 |n,d,h=>by
  have w1:d<12 ->fN et (d+1):=fun hd=>jy (n - 1) (d+1) (by omega);have w2:d<11 ->fN et (d+2):=fun hd=>jy (n - 2) (d+2) (by omega);have v1:d<12 ->VB et (d+1):=fun hd=>dE (n - 1) (d+1) (by omega);have v2:d<11 ->VB et (d+2):=fun hd=>dE (n - 2) (d+2) (by omega);exact Da et d (by omega) w1 (fun hd=>yh hd (w2 hd) (v2 hd)) v1 v2 (jS d) (dE n d h)
 termination_by n=>n
theorem A1 {B b:Nat} {w:World} {lao:Option Addr} {lcap d:Nat} {ov:Value} (h:gw B b w (.slice lao 0 lcap) 0 d ov []):
  Calls Tryz.prog 96 #[.pointer (some ⟨b,0,none⟩)] w fun e w'=>e=.returned ov∧Below w.heap.size w w':=by
 have HH:=zh h;clear h;go_enter Tryz.func96,Tryz.ntmps96
 go_wp2_with fail;go_loopw [] (fun wr=>Below w.heap.size w wr) (fun _=>0)
 case atStart=>exact Below.refl _ _
 case round=>
  have HB:=zh hrel;have HR:=zh (HH.out.below hrel);clear hrel;obtain ⟨c0,c1,_,_⟩:=(HR).out.cells;have ne:Nonempty (fF (Below (wr).heap.size wr)):=⟨⟨wr,Below.refl _ _⟩⟩
  have e0:=ay c0;have e1:=ay c1;clear c0 c1;go_wp2_with fail;refine aE (R:=Below (wr).heap.size wr) (by kernel_rfl) (by kernel_rfl) (Below.refl _ _).drew ?_;repeat (go_big_quiet_step (fail))
  refine wpQuiet_nil ?_;rintro wn ⟨nq,hnq⟩;have hbn:Below (wr).heap.size wr wn:=(by rw [hnq];exact nq.h);clear hnq nq;have HB2:=zh (aa HB.out hbn);obtain ⟨_,_,_,c3⟩:=(HR.out.below hbn).cells;clear hbn e0 e1 ne;go_wp2_with fail;go_ret;exact ⟨rfl,HB2.out⟩
theorem D8 {w:World} {ao:Option Addr} {cap:Nat} {l:List (List UInt8)} (hR:bO w ao l) (hlc:l.length <= cap) (hlt:fD l <= 1000000):
  Calls Tryz.prog 56 #[.slice ao l.length cap] w fun e w'=>∃v,e=.returned v∧cP w.heap.size w' v (gh l)∧Below w.heap.size w w':=by
 have hba:=(Below.refl w.heap.size w).alloc (Nat.le_refl _) (.cells #[.slice ao l.length cap,.int .i64 0,.int .i64 0,.slice none 0 0] 163);have hpr:gw w.heap.size w.heap.size (w.alloc (.cells #[.slice ao l.length cap,.int .i64 0,.int .i64 0,.slice none 0 0] 163)) (.slice ao l.length cap) 0 0 (.slice none 0 0) []:=⟨heap_alloc_new w _,World.ownsRow_nil _ _ _ _,Nat.le_refl _⟩
 have hcall:Calls Tryz.prog 96 #[.pointer (some ⟨w.heap.size,0,none⟩)] (w.alloc (.cells #[.slice ao l.length cap,.int .i64 0,.int .i64 0,.slice none 0 0] 163)) fun e w'=>∃v,e=.returned v∧cP w.heap.size w' v (gh l)∧Below w.heap.size w w':=by
  by_cases hl:l=[]
  ·subst hl;refine (A1 hpr).mono ?_;rintro e w2 ⟨rfl,hb⟩;exact ⟨_,rfl,World.ownsRow_nil _ _ _ _,hba.trans (hb.mono hba.size)⟩
  ·have hl0:0<l.length:=List.length_pos_iff.2 hl;obtain ⟨g,o,rfl⟩:=bO.addr hR hl0;have hgl:g<w.heap.size:=by
    obtain ⟨x,t,rfl⟩:∃x t,l=x::t:=(by cases l with|nil=>simp at hl0|cons x t=>exact ⟨x,t,rfl⟩);exact World.block_lt_of_cell? _ _ (hR.at' 0 x rfl)
   refine (ED et (ls:=l) (lcap:=cap) ⟨hpr,hR.below hba,fun ad had=>by obtain rfl:=Option.some.inj had;exact hgl,hlt,hlc,Nat.zero_le _,by omega,Nat.zero_le _⟩ (fun _=>jy 11 1 rfl) (fun _=>yh (by omega) (jy 10 2 rfl) (dE 10 2 rfl)) (fun _=>dE 11 1 rfl) (fun _=>dE 10 2 rfl)).mono ?_;rintro e w2 ⟨v,i,rfl,hls⟩;refine ⟨v,rfl,?_,hba.trans hls.kp.below⟩;have h1:=hls.bin.pr.own;rw [<- jS]at h1;exact h1
 have HC:=zh hcall;clear hcall hpr hba hR;go_enter Tryz.func56,Tryz.ntmps56
 go_wp2_with fail;refine HC.out.mono ?_;rintro e w2 ⟨v,rfl,hp⟩;have HP:=zh hp;clear hp;go_wp2_with fail;go_ret;exact ⟨v,rfl,HP.out⟩
end Go.Proofs.YtcannffahjbjnaaGreatDoor
