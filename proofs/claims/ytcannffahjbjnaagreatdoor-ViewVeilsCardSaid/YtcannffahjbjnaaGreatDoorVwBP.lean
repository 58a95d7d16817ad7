import Derived.Test.YtcannffahjbjnaaGreatDoorVwBO
set_option linter.unusedVariables false
set_option linter.unusedSimpArgs false
set_option maxRecDepth 100000
set_option maxHeartbeats 64000000
namespace Go.Proofs.YtcannffahjbjnaaGreatDoor
open Go.RowKit
theorem EG (V:Nat ->List (List UInt8) ->List aI) {B b:Nat} {w:World} {g o:Nat} {lcap:Nat} {ls:List (List UInt8)} {pos d:Nat} {ov:Value} {out:List aI} (h:eF B b w (some ⟨g,o,none⟩) lcap ls pos d ov out) (hp0:pos<ls.length) (his:(aH (da (ls.drop pos) 0)).2.2.2.2=true) (hol:out.length+30*(ls.length - pos)+30 <= 100000000) (HW:fN V (d+2)) (HVB:∀l,(V (d+2) l).length <= 28*l.length):
  Calls Tryz.prog 163 #[.pointer (some ⟨b,0,none⟩)] w fun e w'=>e=.returned (.tuple #[])∧ct B b w (.slice (some ⟨g,o,none⟩) ls.length lcap) d ov (pos+(bq V d (aH (da (ls.drop pos) 0)).1 (ls.drop pos) ((ls.drop pos).length+1) 0 0).2)
   (out++⟨4,d,(aH (da (ls.drop pos) 0)).2.1,((ls.drop pos).take (bq V d (aH (da (ls.drop pos) 0)).1 (ls.drop pos) ((ls.drop pos).length+1) 0 0).2).all (fun x=> !aJ x),[],[(aH (da (ls.drop pos) 0)).1]⟩::(bq V d (aH (da (ls.drop pos) 0)).1 (ls.drop pos) ((ls.drop pos).length+1) 0 0).1) w':=by
 obtain ⟨ib,hi,hz0,hz1,hz2⟩:=info_parts kT;obtain ⟨X,hx,hcl,hXz⟩:=h.line pos hp0;rw [oL hx]at his⊢;have hit:=fun W=>mW X W hXz;obtain ⟨sg,num,col,R0,is,hie⟩:∃a b c e f,aH X.data.toList=(a,b,c,e,f):=⟨_,_,_,_,_,rfl⟩
 rw [hie]at his hit⊢;simp only at his hit⊢;subst his;obtain ⟨Q,E,hQ⟩:∃Q E,bq V d sg (ls.drop pos) ((ls.drop pos).length+1) 0 0=(Q,E):=⟨_,_,rfl⟩
 rw [hQ];simp only;obtain ⟨TT,hTT⟩:∃t,((ls.drop pos).take E).all (fun x=> !aJ x)=t:=⟨_,rfl⟩
 rw [hTT];have hst:iS V d sg ls pos Q E pos ((ls.drop pos).length+1) 0 0 []:=⟨rfl,Nat.le_refl _,Nat.le_of_lt hp0,by rw [List.length_drop];omega,by simp,by rw [hQ];rfl,by rw [hQ]⟩
 have hdp:=h.dp;have hll:=h.ll;have hlx:=h.lc;have HIT:=zh hit;have HST:=zh hst;have HTT:=zh hTT;have HOL:=zh hol;have HW:=zh HW;have HVB:=zh HVB;have HL0:=zh (show LS B b ov w g o lcap ls d w pos ov out from ⟨h,Kp.refl _ _ _ _,Or.inl rfl,h.hB⟩);obtain ⟨L0,hL0⟩:∃x:aI,(⟨4,d,num,false,[],[sg]⟩:aI)=x:=⟨_,rfl⟩
 have HLT:=zh (show (⟨4,d,num,TT,[],[sg]⟩:aI)={L0 with tight:=TT} by rw [<- hL0]);have HLE:=zh hL0;obtain ⟨c0,c1,_,_⟩:=h.pr.cells;have ne:Nonempty (fF (Below w.heap.size w)):=⟨⟨w,Below.refl _ _⟩⟩
 have e0:=ay c0;have e1:=ay c1;have e2:=ay hcl;clear h hit hst hTT hol hQ hie hx c0 hcl hL0;go_enter Tryz.func163,Tryz.ntmps163
 go_wp2_with fail;refine aE (R:=Below (w).heap.size w) (by kernel_rfl) (by kernel_rfl) (Below.refl _ _).drew ?_;repeat (go_big_quiet_step ((go_at_call 195;exact ek (HIT.out _))))
 refine wpQuiet_nil ?_;rintro wn ⟨nq,hnq⟩;have hbn:Below (w).heap.size w wn:=(by rw [hnq];exact nq.h);clear hnq nq;have HL1:=zh (HL0.out.below hbn)
 rename World=>w1
 clear hbn e0 e1 e2 ne HL0 c1;obtain ⟨oao,ocap,hov,_⟩:=ab HL1.out.bin.pr.own;subst hov;obtain ⟨_,c1,_,c3⟩:=HL1.out.bin.pr.cells;have cvq:=B7 w1 sg w1.heap.size rfl;go_wp2_with fail;have hba:=(Below.refl w1.heap.size w1).alloc (Nat.le_refl _) (.cells #[.int .u8 (sg.toNat:Int)] 5);have HL2:=zh (HL1.out.below hba);clear cvq c1 c3 hba;refine (pR B b (.slice (some ⟨g,o,none⟩) ls.length lcap) (.slice oao out.length ocap) pos d out ⟨4,0,num,false,[],[sg]⟩ _ HL2.out.bin.pr (by have:=HOL.out;omega)).mono ?_;rintro e w3 ⟨rfl,hp3⟩;obtain ⟨ov3,hl3⟩:=HL2.out.post hp3 (by omega) (by rw [List.length_append];simp;have:=HOL.out;omega);change LS _ _ _ _ _ _ _ _ _ _ _ _ (out++[(⟨4,d,num,false,[],[sg]⟩:aI)])at hl3;rw [HLE.out]at hl3;have HL3:=zh hl3;obtain ⟨_,c1,_,_⟩:=hl3.bin.pr.cells;clear hl3 hp3 HL2 HL1;go_wp2_with fail;go_loopw [9] (fun u9 wr=>∃(i f a e en:Nat) (ovr:Value) (acc:List aI),u9=.int .i64 (en:Int)∧Hid (en=pos+e)∧LS B b (.slice oao out.length ocap) w g o lcap ls d wr i ovr (out++L0::acc)∧iS V d sg ls pos Q E i f a e acc) (fun _ wr=>ls.length - (intOf ((wr.cell? ⟨b,1,none⟩).getD undef)).toNat)
 case atStart=>exact ⟨pos,_,0,0,pos,ov3,[],rfl,zh rfl,HL3.out,HST.out⟩
 case round=>
  obtain ⟨i,f,a,e,en,ovr,acc,rfl,HEN,hls,hia⟩:=hrel;clear c1;have HLS:=zh hls;have HIA:=zh hia;have hil:=hia.il;have hpi:pos <= i:=(by rw [hia.ia];omega);have HC1:=zh hls.bin.pr.cells.2.1;clear hls hia HL3;by_cases hlt:i<ls.length
  ·have hltI:(i:Int)<(ls.length:Int):=(by omega);obtain ⟨XX,hx,_,hXXz⟩:=HLS.out.bin.line i hlt;have hit:=fun W=>mW XX W hXXz;obtain ⟨c,num2,col2,R,is,hie⟩:∃a b c e f,aH XX.data.toList=(a,b,c,e,f):=⟨_,_,_,_,_,rfl⟩
   obtain ⟨RB,hRB⟩:∃Y:ByteArray,(⟨R.toArray⟩:ByteArray)=Y:=⟨_,rfl⟩
   have hRl:R=RB.data.toList:=(by rw [<- hRB]);rw [hie]at hit;simp only at hit;rw [hRB]at hit;have hcb:col2 <= 1000000000:=(by have:=wJ XX.data.toList;rw [hie]at this;rw [Lib.size_eq]at hXXz;simp only at this;omega);have hrw:wt R <= wt XX.data.toList:=(by have:=oJ XX.data.toList;rw [hie]at this;exact this);have HIT2:=zh hit;have HIE:=zh hie;have HX:=zh hx;have HRL:=zh hRl;have HRW:=zh hrw;clear hit hie hx hRB hRl hrw HIT;obtain ⟨c0,c1,_,_⟩:=(HLS).out.bin.pr.cells;have ne:Nonempty (fF (Below (wr).heap.size wr)):=⟨⟨wr,Below.refl _ _⟩⟩
   have e0:=ay c0;have e1:=ay c1;clear c0 c1;go_wp2_with fail;refine aE (R:=Below (wr).heap.size wr) (by kernel_rfl) (by kernel_rfl) (Below.refl _ _).drew ?_;repeat (go_big_quiet_step (fail))
   refine wpQuiet_nil ?_;rintro wn ⟨nq,hnq⟩;have hbn:Below (wr).heap.size wr wn:=(by rw [hnq];exact nq.h);clear hnq nq;have HL4:=zh (HLS.out.below hbn)
   rename World=>w4
   clear hbn e0 e1 ne HLS;obtain ⟨X',hx',hcl,_⟩:=HL4.out.bin.line i hlt;have hX':X'=XX:=iC (Option.some.inj (hx'.symm.trans HX.out));rw [hX']at hcl;have e2:=ay hcl;obtain ⟨c0,c1,_,_⟩:=(HL4).out.bin.pr.cells;have ne:Nonempty (fF (Below (w4).heap.size w4)):=⟨⟨w4,Below.refl _ _⟩⟩
   have e0:=ay c0;have e1:=ay c1;clear c0 c1;clear hx' hX' hcl;go_wp2_with fail;refine aE (R:=Below (w4).heap.size w4) (by kernel_rfl) (by kernel_rfl) (Below.refl _ _).drew ?_;repeat (go_big_quiet_step ((go_at_call 195;exact ek (HIT2.out _))))
   refine wpQuiet_nil ?_;rintro wn ⟨nq,hnq⟩;have hbn:Below (w4).heap.size w4 wn:=(by rw [hnq];exact nq.h);clear hnq nq;have HL5:=zh (HL4.out.below hbn)
   rename World=>w5
   clear hbn e0 e1 e2 ne HL4;cases is
   ·have HAQ:=zh (HIA.out.stop (qg (by rw [<- HIA.out.ia];exact HX.out) (Or.inl (by rw [HIE.out]))));clear hltI hcb hXXz;have hen:en <= ls.length:=(by have:=HEN.out;have:=HIA.out.ea;have:=HIA.out.ia;omega);have hpe:pos <= en:=(by have:=HEN.out;omega);have k1:en <= lcap:=(by omega);have k2:¬lcap=pos:=(by omega);obtain ⟨c0,c1,_,_⟩:=(HL5).out.bin.pr.cells;have f1:=(HL5).out.bin.pr.frozen 1;have HLW:=zh ((HL5).out.setPos en (.int .i64 (en:Int)) rfl (by omega));obtain ⟨WS,hWS⟩:∃x,(w5).setCell ⟨b,1,none⟩ (.int .i64 (en:Int))=x:=⟨_,rfl⟩
    rw [hWS]at HLW;obtain ⟨d0,_,_,_⟩:=HLW.out.bin.pr.cells;have HENE:=zh (show en=pos+E by rw [HEN.out,HAQ.out.2]);obtain ⟨OUT,hOUT⟩:∃x,out++L0::acc=x:=⟨_,rfl⟩
    rw [hOUT]at HLW;have HOUT:=zh hOUT;clear hOUT;clear HL5;go_wp2_with fail;clear c0 c1 f1 hWS;try clear hn1
    go_loopw [15,161] (fun u15 u161 wr=>∃(k:Nat) (t:Bool),u15=.bool t∧u161=.int .i64 (k:Int)∧k <= en - pos∧LS B b (.slice oao out.length ocap) w g o lcap ls d wr en ovr OUT∧Hid ((t&&(((ls.drop pos).take E).drop k).all (fun x=> !aJ x))=TT)) (fun _ u161 _=>en - pos - (intOf u161).toNat)
    case atStart=>exact ⟨0,true,rfl,by go_num,Nat.zero_le _,HLW.out,zh (by rw [List.drop_zero,HTT.out];rfl)⟩
    case round=>
     rename World=>wt
     obtain ⟨k,t,rfl,rfl,hke,hlt,HTK⟩:=hrel;have HLK:=zh hlt;clear hlt d0 HLW;by_cases hkl:k<en - pos
     ·have hk1:(k:Int)<((en - pos:Nat):Int):=(by omega);have hk2:(k:Int)<(en:Int) - (pos:Int):=(by omega);have hk0:(0:Int) <= (k:Int):=(by omega);obtain ⟨XX,hx,hcl,hXXz⟩:=HLK.out.bin.line (pos+k) (by omega);rw [<- Nat.add_assoc]at hcl;have hbl:=fun W=>dZ XX W (by omega);obtain ⟨bv,hbv⟩:∃b,aJ XX.data.toList=b:=⟨_,rfl⟩
      rw [hbv]at hbl;have HBL:=zh hbl;have hxe:((ls.drop pos).take E)[k]? =some XX.data.toList:=by
       rw [List.getElem?_take,if_pos (by have:=HENE.out;omega),List.getElem?_drop,hx]
      have hstep:=pL hxe (fun x=> !aJ x);rw [hbv]at hstep;have HSP:=zh hstep;clear hbl hbv hx hxe hstep;cases t
      ·have HT2:=zh (show (false&&(((ls.drop pos).take E).drop (k+1)).all (fun x=> !aJ x))=TT by have:=HTK.out;simpa using this);clear HTK HSP HBL;go_wp2_with fail;go_roundw;case rel=>exact ⟨k+1,false,rfl,by go_num,by omega,HLK.out,HT2⟩
       case measure=>simp [intOf];omega
      ·go_wp2_with fail;refine (HBL.out _).mono ?_;rintro e2 wu ⟨rfl,bb⟩;have HLU:=zh (HLK.out.below bb);have HT2:=zh (show ((!bv)&&(((ls.drop pos).take E).drop (k+1)).all (fun x=> !aJ x))=TT by have:=HTK.out;rw [HSP.out]at this;simpa using this);clear bb HTK HSP HBL hcl;cases bv
       ·go_wp2_with fail;go_roundw;case rel=>exact ⟨k+1,true,rfl,by go_num,by omega,HLU.out,HT2⟩
        case measure=>simp [intOf];omega
       ·go_wp2_with fail;go_roundw;case rel=>exact ⟨k+1,false,rfl,by go_num,by omega,HLU.out,HT2⟩
        case measure=>simp [intOf];omega
     ·have hk1:¬(k:Int)<((en - pos:Nat):Int):=(by omega);have hk2:¬(k:Int)<(en:Int) - (pos:Int):=(by omega);have HTE:=zh (show t=TT by
       have:=HTK.out;rw [List.drop_eq_nil_of_le (by rw [List.length_take];have:=HENE.out;omega)]at this;simpa using this)
      have hxo:OUT[out.length]? =some L0:=(by rw [<- HOUT.out,List.getElem?_append_right (Nat.le_refl _)];simp);have hol2:=(List.getElem?_eq_some_iff.1 hxo).1;obtain ⟨q,cap2,hq2⟩:∃q c,ovr=.slice (some ⟨q,0,none⟩) OUT.length c:=by
       rcases HLK.out.bin.pr.own.2 with ⟨_,h⟩|⟨g,c,cur,h,_⟩
       ·omega
       ·exact ⟨g,c,h⟩
      subst hq2;have hor:=(bT HLK.out.bin.pr.own).2.1;have hco:=aY.cell (f:=bS) (k:=6) hor pp out.length 3 L0 _ hxo (by omega) rfl;simp only [Nat.zero_add]at hco;have hfz:=World.ownsRow.frozenAt HLK.out.bin.pr.own (out.length*6+3);obtain ⟨_,_,_,d3⟩:=HLK.out.bin.pr.cells;have hk3:(0:Int) <= (out.length:Int):=(by omega);have hk4:(out.length:Int)<(OUT.length:Int):=(by omega);have HXO:=zh hxo;clear hxo hor hol2;go_wp2_with fail
      go_end0
      refine ⟨rfl,?_⟩;have hp:=HLK.out.tight out.length L0 HXO.out t;rw [HTE.out]at hp⊢;rw [HLT.out,<- HENE.out,<- HAQ.out.1];rw [<- HOUT.out,List.set_append_right _ _ (Nat.le_refl _),Nat.sub_self,List.set_cons_zero]at hp;exact hp
   ·by_cases hc:c=sg
    ·subst hc;obtain ⟨P,N,hq⟩:∃P N,bI col2 (ls.drop (i+1)) 1 1=(P,N):=⟨_,_,rfl⟩
     obtain ⟨hn1,hn2,hn3,hn4,f2,hia2⟩:=HIA.out.next HX.out HIE.out hq HVB.out;have hst:=te HX.out HRW.out hq;have hltt:=HL5.out.bin.lt;obtain ⟨S,hS⟩:∃S,(R::P).take N=S:=⟨_,rfl⟩
     rw [hS]at hn3 hn4 hia2 hst;have HSQ:=zh (And.intro hq hS);have HIAA:=zh HIA.out.ia;have HN4:=zh (And.intro hn3 (And.intro hn4 (show fD S <= 1000000 by omega)));have HIA2:=zh hia2;obtain ⟨OUT,hOUT⟩:∃x,out++L0::acc=x:=⟨_,rfl⟩
     rw [hOUT]at HL5;have HOUT:=zh hOUT;have HOB:=zh (show OUT.length+1+(V (d+2) S).length <= 100000000 by
      rw [<- hOUT,List.length_append,List.length_cons];rw [List.length_append,List.length_cons]at hn4;have:=HOL.out;omega)
     clear hq hst hltt hS hn3 hn4 hia2 hOUT HIA;obtain ⟨sao,scap,hsv,_⟩:=ab HL5.out.bin.pr.own;subst hsv;have holb:=HL5.out.bin.ol;have hbl2:b<w5.heap.size:=HL5.out.bin.pr.lt;have hBb:=HL5.out.bin.pr.base;obtain ⟨_,_,p2,p0⟩:=HL5.out.bin.pr.cells;have hwr:IntKind.i64.wrap ((d:Int)+1)=(d:Int)+1:=IntWalk.i64_in _ (by omega);have b2a:=(Below.refl w5.heap.size w5).alloc (Nat.le_refl _) (.cells #[.int .i64 5,.int .i64 ((d:Int)+1),.int .i64 0,.bool false,.string ⟨#[]⟩,.string ⟨#[]⟩] 45);have p0a:=(b2a.cell (p:=⟨b,3,none⟩) hbl2).trans p0;have hAA:=HL5.out.bin.pr.below b2a;have hnews:=aL w5 [.int .i64 5,.int .i64 ((d:Int)+1),.int .i64 0,.bool false,.string ⟨#[]⟩,.string ⟨#[]⟩] 45 w5.heap.size rfl;have hob:(some b:Option Nat)≠(Value.slice sao OUT.length scap).ownBlock:=cV hAA.own hAA.heap (by decide);have hone:∀u∈[Value.int .i64 5,.int .i64 ((d:Int)+1),.int .i64 0,.bool false,.string ⟨#[]⟩,.string ⟨#[]⟩],u.oneCell'=true:=by
      intro u hu;simp only [List.mem_cons,List.not_mem_nil,or_false]at hu;rcases hu with rfl|rfl|rfl|rfl|rfl|rfl<;>rfl
     have hbA:∀k,k<w5.heap.size ->(w5.alloc (.cells #[.int .i64 5,.int .i64 ((d:Int)+1),.int .i64 0,.bool false,.string ⟨#[]⟩,.string ⟨#[]⟩] 45)).heap[k]? =w5.heap[k]? :=fun k hk=>b2a.block k hk;have hlA:w5.heap.size<(w5.alloc (.cells #[.int .i64 5,.int .i64 ((d:Int)+1),.int .i64 0,.bool false,.string ⟨#[]⟩,.string ⟨#[]⟩] 45)).heap.size:=(by simp);have HA2:=zh (And.intro hAA.own (And.intro hAA.heap (And.intro hnews (And.intro hob (And.intro hbA (And.intro b2a hone))))));clear hAA hnews hob hbA b2a hone;go_wp2_with fail
     go_region_law
      ((
       refine step_append_lies _ rfl (.tmp 93) (.tmp 100) 28 rfl B 45 ib (.agg #[.int .i64 0,.int .i64 0,.int .i64 0,.bool false,.string ⟨#[]⟩,.string ⟨#[]⟩]) 6 64 Tryz.underlying28 hi hz0 hz1 hz2 rfl (by decide) (.slice sao OUT.length scap) OUT.length (OUT.flatMap bS) rfl HA2.out.1 ⟨w5.heap.size,0,none⟩ 1 1 [.int .i64 5,.int .i64 ((d:Int)+1),.int .i64 0,.bool false,.string ⟨#[]⟩,.string ⟨#[]⟩] rfl rfl HA2.out.2.2.1 HA2.out.2.2.2.2.2.2 (by decide) (by unfold maxLen;omega) (by omega) ?_ _ rfl ?_
       ·exact Nat.le_of_lt (Nat.lt_of_le_of_lt (show B <= w5.heap.size by omega) hlA)
       intro g6 cap6 w6 hown6 hgrow6 hat6 hlt6;have hh6:=(hgrow6.block b (Nat.lt_trans hbl2 hlA) HA2.out.2.2.2.1).trans HA2.out.2.1;have p6:w6.cell? ⟨b,3,none⟩=some (.slice sao OUT.length scap):=(by rw [cell_of_row w6 b _ _ _ _ hh6];rfl);have f6:=frozen_of_row w6 b 3 _ _ hh6))
     all_goals
      have hB5:B <= w5.heap.size:=(by omega);have hpp:ct B b w5 (.slice (some ⟨g,o,none⟩) ls.length lcap) d (.slice sao OUT.length scap) i (OUT++[⟨5,d+1,0,false,[],[]⟩]) (w6.setCell ⟨b,3,none⟩ (.slice (some ⟨g6,0,none⟩) (OUT.length+1) cap6)):=by
       have hbw:Below B w5 (w6.setCell ⟨b,3,none⟩ (.slice (some ⟨g6,0,none⟩) (OUT.length+1) cap6)):=((HA2.out.2.2.2.2.2.1.mono hB5).drew.grown hgrow6 (Nat.le_of_lt (Nat.lt_of_le_of_lt hB5 hlA)) (fun j hj=>(HA2.out.1.lt j hj).1)).setCell (p:=⟨b,3,none⟩) hBb _;refine ⟨.slice (some ⟨g6,0,none⟩) (OUT.length+1) cap6,⟨heap_setCell_same w6 b 3 _ _ _ hh6,?_,hBb⟩,⟨hbw,fun k hk hkb hks=>?_⟩,?_⟩
       ·exact rx (p:=⟨5,d+1,0,false,[],[]⟩) (aF (a:=⟨b,3,none⟩) hown6 hh6 (by decide) _) rfl
       ·rw [Below.heap_setCell _ _ _ _ hkb,hgrow6.block k (Nat.lt_trans hk hlA) hks];exact HA2.out.2.2.2.2.1 k hk
       ·rcases hat6 with h|h
        ·exact Or.inl (by rw [h];rfl)
        ·refine Or.inr ⟨g6,rfl,?_⟩;have h3:(w5.alloc (.cells #[.int .i64 5,.int .i64 ((d:Int)+1),.int .i64 0,.bool false,.string ⟨#[]⟩,.string ⟨#[]⟩] 45)).drew.heap.size=g6:=h.symm;have h4:(w5.alloc (.cells #[.int .i64 5,.int .i64 ((d:Int)+1),.int .i64 0,.bool false,.string ⟨#[]⟩,.string ⟨#[]⟩] 45)).drew.heap.size=w5.heap.size+1:=(by simp);omega
      obtain ⟨W6,hW6⟩:∃W,w6.setCell ⟨b,3,none⟩ (.slice (some ⟨g6,0,none⟩) (OUT.length+1) cap6)=W:=⟨_,rfl⟩
      rw [hW6]at hpp⊢;obtain ⟨ov6,hl6⟩:=HL5.out.post hpp (by omega) (by have:=HOB.out;rw [List.length_append];simp;omega);have HL6:=zh (hl6.below (Below.refl _ _).drew);clear hW6 hpp hl6 hh6 p6 f6 hown6 hgrow6 hat6 hlt6 HA2 hlA hbl2 hwr HL5;have hwr2:IntKind.i64.wrap ((d:Int)+2)=(d:Int)+2:=IntWalk.i64_in _ (by omega);have d2:=HL6.out.bin.pr.cells.2.2.1;have hit9:=EF RB col2 HL6.out.bin hlt hcb;rw [HSQ.out.1,<- HRL.out]at hit9;simp only at hit9;rw [HSQ.out.2]at hit9;have HIT9:=zh hit9;clear hit9;go_wp2_with fail;refine aQ (S:=fun j W'=>([4,9].contains j=true) ->W'.cell? ⟨b,2,none⟩=some (.int .i64 (d:Int))) (by kernel_rfl) ?_;refine bC 0 104 ?_;simp only [List.set];refine bC 1 105 ?_;simp only [List.set];refine bC 2 106 ?_;simp only [List.set];refine bC 3 107 ?_;simp only [List.set];refine bC 6 110 ?_;simp only [List.set];refine bC 7 111 ?_;simp only [List.set];refine bC 8 112 ?_;simp only [List.set];refine ga 4 108 ?_ rfl [9] (by kernel_rfl) (fun _ _ _ h=>h) (by decide) rfl (Or.inl ⟨by rfl,?_⟩) d2 ?_;rotate_left
      ·rintro w' s0;go_simp<;>with_reducible rfl
      simp only [List.set];refine bC 5 109 ?_;simp only [List.set];refine ac (i:=9) (by kernel_rfl) rfl (fun K' hK=>?_);have HKK:=zh hK;clear hK;go_simp
      refine HIT9.out.mono ?_;rintro e7 w7 ⟨v7,rfl,hown7,hin7,hkp7⟩;have HL7:=zh (HL6.out.item hin7 hkp7);obtain ⟨vao,vc,hv,hvr,_,hvle⟩:=ab hown7;obtain ⟨g2,o2,hg2⟩:=hvr.addr HN4.out.1;subst hg2;subst hv;have hcw:=HW.out B b w7 (.slice (some ⟨g,o,none⟩) ls.length lcap) (i+N) d ov6 (OUT++[⟨5,d+1,0,false,[],[]⟩]) g2 o2 vc S HL7.out.bin.pr (by have:=HOB.out;rw [List.length_append];simp;omega) (bT hown7).2.1 HN4.out.1 hvle HN4.out.2.2;rw [show (((d+2:Nat)):Int)=(d:Int)+2 by omega]at hcw;have HCW:=zh hcw;have c2:=HL7.out.bin.pr.cells.2.2.1;clear hcw hown7 hin7 hkp7 hvr hvle HL6 HIT9 d2;go_wp2_with fail;refine HKK.out _ _ ⟨fun _=>c2,?_⟩;clear HKK K';try simp only [Act.put,List.setIfInBounds_toArray,List.set_cons_zero,List.set_cons_succ,List.getElem_toArray,List.getElem_cons_zero,List.getElem_cons_succ]
      refine ac (i:=10) (by kernel_rfl) rfl (fun K' hK=>?_);have HKK:=zh hK;clear hK;go_simp
      refine HCW.out.mono ?_;rintro e8 w8 ⟨rfl,hp8⟩;obtain ⟨ov8,hl8⟩:=HL7.out.post hp8 (by omega) (by have:=HOB.out;rw [List.length_append,List.length_append];simp;omega);obtain ⟨OU8,hOU8⟩:∃x,OUT++[⟨5,d+1,0,false,[],[]⟩]++V (d+2) S=x:=⟨_,rfl⟩
      rw [hOU8]at hl8;have HEQ:=zh (show OU8=out++L0::(acc++⟨5,d+1,0,false,[],[]⟩::V (d+2) S) by rw [<- hOU8,<- HOUT.out];simp);have HL8:=zh hl8;clear hl8 hp8 hOU8 HL7 HCW c2 hwr2;go_wp2_with fail;refine HKK.out _ _ ⟨fun h=>absurd h (by decide),?_⟩;clear HKK K';try simp only [Act.put,List.setIfInBounds_toArray,List.set_cons_zero,List.set_cons_succ,List.getElem_toArray,List.getElem_cons_zero,List.getElem_cons_succ]
      refine aP (by kernel_rfl) ?_ _;have c1:=HL8.out.bin.pr.cells.2.1;go_wp2_with fail;go_loopw [] (fun wr=>∃j:Nat,i+N <= j∧j <= ls.length∧LS B b (.slice oao out.length ocap) w g o lcap ls d wr j ov8 OU8∧Hid (j+tH (ls.drop j)=i+N+tH (ls.drop (i+N)))) (fun wr=>ls.length - (intOf ((wr.cell? ⟨b,1,none⟩).getD undef)).toNat)
      case atStart=>exact ⟨i+N,Nat.le_refl _,hn2,HL8.out,zh rfl⟩
      case round=>
       rename World=>wi
       obtain ⟨j,hj1,hj2,hlj,HJ⟩:=hrel;clear c1 HL8;have HLJ:=zh hlj;have HCJ:=zh hlj.bin.pr.cells.2.1;clear hlj;by_cases hjl:j<ls.length
       ·have hjlI:(j:Int)<(ls.length:Int):=(by omega);have hdj:decide ((j:Int)<(ls.length:Int))=true:=decide_eq_true hjlI;obtain ⟨XB,hxb,hclb,hXBz⟩:=HLJ.out.bin.line j hjl;have hbl:=fun W=>dZ XB W (by omega);obtain ⟨bv,hbv⟩:∃b,aJ XB.data.toList=b:=⟨_,rfl⟩
        rw [hbv]at hbl;have HBL:=zh hbl;have HXB:=zh (And.intro hxb hbv);have e2:=ay hclb;clear hbl hbv hxb hclb;obtain ⟨c0,c1,_,_⟩:=(HLJ).out.bin.pr.cells;have ne:Nonempty (fF (Below (wi).heap.size wi)):=⟨⟨wi,Below.refl _ _⟩⟩
        have e0:=ay c0;have e1:=ay c1;clear c0 c1;cases bv
        ·go_wp2_with fail;refine aE (R:=Below (wi).heap.size wi) (by kernel_rfl) (by kernel_rfl) (Below.refl _ _).drew ?_;repeat (go_big_quiet_step ((go_at_call 154;exact ek (HBL.out _))))
         refine wpQuiet_nil ?_;rintro wn ⟨nq,hnq⟩;have hbn:Below (wi).heap.size wi wn:=(by rw [hnq];exact nq.h);clear hnq nq;have HLN:=zh (HLJ.out.below hbn);clear hbn e0 e1 e2 ne;have HJE:=zh (show j=i+N+tH (ls.drop (i+N)) by have:=HJ.out;rw [BV HXB.out.1 HXB.out.2]at this;exact this);go_wp2_with fail;go_roundw;case rel=>exact ⟨j,f2,_,a+N,i+N,ov8,_,by go_num,zh (by have:=HIAA.out;omega),by have h:=HLN.out;rw [HEQ.out]at h;exact h,by have h:=HIA2.out;rw [<- HJE.out]at h;exact h⟩
         case measure=>
          have h1:=HLN.out.bin.pr.cells.2.1;simp only [h1,HC1.out,Option.getD_some,intOf];omega
        ·go_wp2_with fail;refine aE (R:=Below (wi).heap.size wi) (by kernel_rfl) (by kernel_rfl) (Below.refl _ _).drew ?_;repeat (go_big_quiet_step ((go_at_call 154;exact ek (HBL.out _))))
         refine wpQuiet_nil ?_;rintro wn ⟨nq,hnq⟩;have hbn:Below (wi).heap.size wi wn:=(by rw [hnq];exact nq.h);clear hnq nq;have HLN:=zh (HLJ.out.below hbn);clear hbn e0 e1 e2 ne;have HJ2:=zh (show j+1+tH (ls.drop (j+1))=i+N+tH (ls.drop (i+N)) by have:=HJ.out;rw [Ei HXB.out.1 HXB.out.2]at this;omega);have c1:=HLN.out.bin.pr.cells.2.1;have f1:=HLN.out.bin.pr.frozen 1;go_wp2_with fail;go_roundw;case rel=>exact ⟨j+1,by omega,by omega,HLN.out.setPos (j+1) _ (by go_num) (by omega),HJ2⟩
         case measure=>
          have h1:=(HLN.out.setPos (j+1) (.int .i64 ((j:Int)+1)) (by go_num) (by omega)).bin.pr.cells.2.1;simp only [h1,HCJ.out,Option.getD_some,intOf];omega
       ·have hdj:decide ((j:Int)<(ls.length:Int))=false:=decide_eq_false (by omega);have HJE:=zh (show j=i+N+tH (ls.drop (i+N)) by
         have h1:=HJ.out;have h2:j=ls.length:=(by omega);rw [h2,DC]at h1;omega)
        obtain ⟨c0,c1,_,_⟩:=(HLJ).out.bin.pr.cells;have ne:Nonempty (fF (Below (wi).heap.size wi)):=⟨⟨wi,Below.refl _ _⟩⟩
        have e0:=ay c0;have e1:=ay c1;clear c0 c1;go_wp2_with fail;refine aE (R:=Below (wi).heap.size wi) (by kernel_rfl) (by kernel_rfl) (Below.refl _ _).drew ?_;repeat (go_big_quiet_step (fail))
        refine wpQuiet_nil ?_;rintro wn ⟨nq,hnq⟩;have hbn:Below (wi).heap.size wi wn:=(by rw [hnq];exact nq.h);clear hnq nq;have HLN:=zh (HLJ.out.below hbn);clear hbn e0 e1 ne;go_wp2_with fail;go_roundw;case rel=>exact ⟨j,f2,_,a+N,i+N,ov8,_,by go_num,zh (by have:=HIAA.out;omega),by have h:=HLN.out;rw [HEQ.out]at h;exact h,by have h:=HIA2.out;rw [<- HJE.out]at h;exact h⟩
        case measure=>
         have h1:=HLN.out.bin.pr.cells.2.1;simp only [h1,HC1.out,Option.getD_some,intOf];omega
    ·have hn1:((c.toNat:Int) !=(sg.toNat:Int))=true:=by
      have:c.toNat≠sg.toNat:=fun e=>hc (UInt8.toNat_inj.1 e);simp;omega
     have HAQ:=zh (HIA.out.stop (qg (by rw [<- HIA.out.ia];exact HX.out) (Or.inr (by rw [HIE.out];exact hc))));clear hltI hcb hXXz hc;have hen:en <= ls.length:=(by have:=HEN.out;have:=HIA.out.ea;have:=HIA.out.ia;omega);have hpe:pos <= en:=(by have:=HEN.out;omega);have k1:en <= lcap:=(by omega);have k2:¬lcap=pos:=(by omega);obtain ⟨c0,c1,_,_⟩:=(HL5).out.bin.pr.cells;have f1:=(HL5).out.bin.pr.frozen 1;have HLW:=zh ((HL5).out.setPos en (.int .i64 (en:Int)) rfl (by omega));obtain ⟨WS,hWS⟩:∃x,(w5).setCell ⟨b,1,none⟩ (.int .i64 (en:Int))=x:=⟨_,rfl⟩
     rw [hWS]at HLW;obtain ⟨d0,_,_,_⟩:=HLW.out.bin.pr.cells;have HENE:=zh (show en=pos+E by rw [HEN.out,HAQ.out.2]);obtain ⟨OUT,hOUT⟩:∃x,out++L0::acc=x:=⟨_,rfl⟩
     rw [hOUT]at HLW;have HOUT:=zh hOUT;clear hOUT;clear HL5;go_wp2_with fail;clear c0 c1 f1 hWS;try clear hn1
     go_loopw [15,161] (fun u15 u161 wr=>∃(k:Nat) (t:Bool),u15=.bool t∧u161=.int .i64 (k:Int)∧k <= en - pos∧LS B b (.slice oao out.length ocap) w g o lcap ls d wr en ovr OUT∧Hid ((t&&(((ls.drop pos).take E).drop k).all (fun x=> !aJ x))=TT)) (fun _ u161 _=>en - pos - (intOf u161).toNat)
     case atStart=>exact ⟨0,true,rfl,by go_num,Nat.zero_le _,HLW.out,zh (by rw [List.drop_zero,HTT.out];rfl)⟩
     case round=>
      rename World=>wt
      obtain ⟨k,t,rfl,rfl,hke,hlt,HTK⟩:=hrel;have HLK:=zh hlt;clear hlt d0 HLW;by_cases hkl:k<en - pos
      ·have hk1:(k:Int)<((en - pos:Nat):Int):=(by omega);have hk2:(k:Int)<(en:Int) - (pos:Int):=(by omega);have hk0:(0:Int) <= (k:Int):=(by omega);obtain ⟨XX,hx,hcl,hXXz⟩:=HLK.out.bin.line (pos+k) (by omega);rw [<- Nat.add_assoc]at hcl;have hbl:=fun W=>dZ XX W (by omega);obtain ⟨bv,hbv⟩:∃b,aJ XX.data.toList=b:=⟨_,rfl⟩
       rw [hbv]at hbl;have HBL:=zh hbl;have hxe:((ls.drop pos).take E)[k]? =some XX.data.toList:=by
        rw [List.getElem?_take,if_pos (by have:=HENE.out;omega),List.getElem?_drop,hx]
       have hstep:=pL hxe (fun x=> !aJ x);rw [hbv]at hstep;have HSP:=zh hstep;clear hbl hbv hx hxe hstep;cases t
       ·have HT2:=zh (show (false&&(((ls.drop pos).take E).drop (k+1)).all (fun x=> !aJ x))=TT by have:=HTK.out;simpa using this);clear HTK HSP HBL;go_wp2_with fail;go_roundw;case rel=>exact ⟨k+1,false,rfl,by go_num,by omega,HLK.out,HT2⟩
        case measure=>simp [intOf];omega
       ·go_wp2_with fail;refine (HBL.out _).mono ?_;rintro e2 wu ⟨rfl,bb⟩;have HLU:=zh (HLK.out.below bb);have HT2:=zh (show ((!bv)&&(((ls.drop pos).take E).drop (k+1)).all (fun x=> !aJ x))=TT by have:=HTK.out;rw [HSP.out]at this;simpa using this);clear bb HTK HSP HBL hcl;cases bv
        ·go_wp2_with fail;go_roundw;case rel=>exact ⟨k+1,true,rfl,by go_num,by omega,HLU.out,HT2⟩
         case measure=>simp [intOf];omega
        ·go_wp2_with fail;go_roundw;case rel=>exact ⟨k+1,false,rfl,by go_num,by omega,HLU.out,HT2⟩
         case measure=>simp [intOf];omega
      ·have hk1:¬(k:Int)<((en - pos:Nat):Int):=(by omega);have hk2:¬(k:Int)<(en:Int) - (pos:Int):=(by omega);have HTE:=zh (show t=TT by
        have:=HTK.out;rw [List.drop_eq_nil_of_le (by rw [List.length_take];have:=HENE.out;omega)]at this;simpa using this)
       have hxo:OUT[out.length]? =some L0:=(by rw [<- HOUT.out,List.getElem?_append_right (Nat.le_refl _)];simp);have hol2:=(List.getElem?_eq_some_iff.1 hxo).1;obtain ⟨q,cap2,hq2⟩:∃q c,ovr=.slice (some ⟨q,0,none⟩) OUT.length c:=by
        rcases HLK.out.bin.pr.own.2 with ⟨_,h⟩|⟨g,c,cur,h,_⟩
        ·omega
        ·exact ⟨g,c,h⟩
       subst hq2;have hor:=(bT HLK.out.bin.pr.own).2.1;have hco:=aY.cell (f:=bS) (k:=6) hor pp out.length 3 L0 _ hxo (by omega) rfl;simp only [Nat.zero_add]at hco;have hfz:=World.ownsRow.frozenAt HLK.out.bin.pr.own (out.length*6+3);obtain ⟨_,_,_,d3⟩:=HLK.out.bin.pr.cells;have hk3:(0:Int) <= (out.length:Int):=(by omega);have hk4:(out.length:Int)<(OUT.length:Int):=(by omega);have HXO:=zh hxo;clear hxo hor hol2;go_wp2_with fail
       go_end0
       refine ⟨rfl,?_⟩;have hp:=HLK.out.tight out.length L0 HXO.out t;rw [HTE.out]at hp⊢;rw [HLT.out,<- HENE.out,<- HAQ.out.1];rw [<- HOUT.out,List.set_append_right _ _ (Nat.le_refl _),Nat.sub_self,List.set_cons_zero]at hp;exact hp
  ·have hd:¬(i:Int)<(ls.length:Int):=(by omega);have HAQ:=zh (HIA.out.stop (zE (by rw [<- HIA.out.ia];omega)));obtain ⟨c0,c1,_,_⟩:=(HLS).out.bin.pr.cells;have ne:Nonempty (fF (Below (wr).heap.size wr)):=⟨⟨wr,Below.refl _ _⟩⟩
   have e0:=ay c0;have e1:=ay c1;clear c0 c1;go_wp2_with fail;refine aE (R:=Below (wr).heap.size wr) (by kernel_rfl) (by kernel_rfl) (Below.refl _ _).drew ?_;repeat (go_big_quiet_step (fail))
   refine wpQuiet_nil ?_;rintro wn ⟨nq,hnq⟩;have hbn:Below (wr).heap.size wr wn:=(by rw [hnq];exact nq.h);clear hnq nq;have HL4:=zh (HLS.out.below hbn)
   rename World=>w4
   clear hbn e0 e1 ne HLS;have hen:en <= ls.length:=(by have:=HEN.out;have:=HIA.out.ea;have:=HIA.out.ia;omega);have hpe:pos <= en:=(by have:=HEN.out;omega);have k1:en <= lcap:=(by omega);have k2:¬lcap=pos:=(by omega);obtain ⟨c0,c1,_,_⟩:=(HL4).out.bin.pr.cells;have f1:=(HL4).out.bin.pr.frozen 1;have HLW:=zh ((HL4).out.setPos en (.int .i64 (en:Int)) rfl (by omega));obtain ⟨WS,hWS⟩:∃x,(w4).setCell ⟨b,1,none⟩ (.int .i64 (en:Int))=x:=⟨_,rfl⟩
   rw [hWS]at HLW;obtain ⟨d0,_,_,_⟩:=HLW.out.bin.pr.cells;have HENE:=zh (show en=pos+E by rw [HEN.out,HAQ.out.2]);obtain ⟨OUT,hOUT⟩:∃x,out++L0::acc=x:=⟨_,rfl⟩
   rw [hOUT]at HLW;have HOUT:=zh hOUT;clear hOUT;clear HL4;go_wp2_with fail;clear c0 c1 f1 hWS;try clear hn1
   go_loopw [15,161] (fun u15 u161 wr=>∃(k:Nat) (t:Bool),u15=.bool t∧u161=.int .i64 (k:Int)∧k <= en - pos∧LS B b (.slice oao out.length ocap) w g o lcap ls d wr en ovr OUT∧Hid ((t&&(((ls.drop pos).take E).drop k).all (fun x=> !aJ x))=TT)) (fun _ u161 _=>en - pos - (intOf u161).toNat)
   case atStart=>exact ⟨0,true,rfl,by go_num,Nat.zero_le _,HLW.out,zh (by rw [List.drop_zero,HTT.out];rfl)⟩
   case round=>
    rename World=>wt
    obtain ⟨k,t,rfl,rfl,hke,hlt,HTK⟩:=hrel;have HLK:=zh hlt;clear hlt d0 HLW;by_cases hkl:k<en - pos
    ·have hk1:(k:Int)<((en - pos:Nat):Int):=(by omega);have hk2:(k:Int)<(en:Int) - (pos:Int):=(by omega);have hk0:(0:Int) <= (k:Int):=(by omega);obtain ⟨XX,hx,hcl,hXXz⟩:=HLK.out.bin.line (pos+k) (by omega);rw [<- Nat.add_assoc]at hcl;have hbl:=fun W=>dZ XX W (by omega);obtain ⟨bv,hbv⟩:∃b,aJ XX.data.toList=b:=⟨_,rfl⟩
     rw [hbv]at hbl;have HBL:=zh hbl;have hxe:((ls.drop pos).take E)[k]? =some XX.data.toList:=by
      rw [List.getElem?_take,if_pos (by have:=HENE.out;omega),List.getElem?_drop,hx]
     have hstep:=pL hxe (fun x=> !aJ x);rw [hbv]at hstep;have HSP:=zh hstep;clear hbl hbv hx hxe hstep;cases t
     ·have HT2:=zh (show (false&&(((ls.drop pos).take E).drop (k+1)).all (fun x=> !aJ x))=TT by have:=HTK.out;simpa using this);clear HTK HSP HBL;go_wp2_with fail;go_roundw;case rel=>exact ⟨k+1,false,rfl,by go_num,by omega,HLK.out,HT2⟩
      case measure=>simp [intOf];omega
     ·go_wp2_with fail;refine (HBL.out _).mono ?_;rintro e2 wu ⟨rfl,bb⟩;have HLU:=zh (HLK.out.below bb);have HT2:=zh (show ((!bv)&&(((ls.drop pos).take E).drop (k+1)).all (fun x=> !aJ x))=TT by have:=HTK.out;rw [HSP.out]at this;simpa using this);clear bb HTK HSP HBL hcl;cases bv
      ·go_wp2_with fail;go_roundw;case rel=>exact ⟨k+1,true,rfl,by go_num,by omega,HLU.out,HT2⟩
       case measure=>simp [intOf];omega
      ·go_wp2_with fail;go_roundw;case rel=>exact ⟨k+1,false,rfl,by go_num,by omega,HLU.out,HT2⟩
       case measure=>simp [intOf];omega
    ·have hk1:¬(k:Int)<((en - pos:Nat):Int):=(by omega);have hk2:¬(k:Int)<(en:Int) - (pos:Int):=(by omega);have HTE:=zh (show t=TT by
      have:=HTK.out;rw [List.drop_eq_nil_of_le (by rw [List.length_take];have:=HENE.out;omega)]at this;simpa using this)
     have hxo:OUT[out.length]? =some L0:=(by rw [<- HOUT.out,List.getElem?_append_right (Nat.le_refl _)];simp);have hol2:=(List.getElem?_eq_some_iff.1 hxo).1;obtain ⟨q,cap2,hq2⟩:∃q c,ovr=.slice (some ⟨q,0,none⟩) OUT.length c:=by
      rcases HLK.out.bin.pr.own.2 with ⟨_,h⟩|⟨g,c,cur,h,_⟩
      ·omega
      ·exact ⟨g,c,h⟩
     subst hq2;have hor:=(bT HLK.out.bin.pr.own).2.1;have hco:=aY.cell (f:=bS) (k:=6) hor pp out.length 3 L0 _ hxo (by omega) rfl;simp only [Nat.zero_add]at hco;have hfz:=World.ownsRow.frozenAt HLK.out.bin.pr.own (out.length*6+3);obtain ⟨_,_,_,d3⟩:=HLK.out.bin.pr.cells;have hk3:(0:Int) <= (out.length:Int):=(by omega);have hk4:(out.length:Int)<(OUT.length:Int):=(by omega);have HXO:=zh hxo;clear hxo hor hol2;go_wp2_with fail
     go_end0
     refine ⟨rfl,?_⟩;have hp:=HLK.out.tight out.length L0 HXO.out t;rw [HTE.out]at hp⊢;rw [HLT.out,<- HENE.out,<- HAQ.out.1];rw [<- HOUT.out,List.set_append_right _ _ (Nat.le_refl _),Nat.sub_self,List.set_cons_zero]at hp;exact hp
end Go.Proofs.YtcannffahjbjnaaGreatDoor
