import Derived.Test.YtcannffahjbjnaaGreatDoorVwBZe
set_option linter.unusedVariables false
set_option linter.unusedSimpArgs false
set_option maxRecDepth 100000
set_option maxHeartbeats 64000000
namespace Go.Proofs.YtcannffahjbjnaaGreatDoor
open Go.RowKit
structure oy (col:Nat) (ls:List (List UInt8)) (i:Nat) (P:List (List UInt8)) (N j k:Nat):Prop where
 ij:i+1 <= j
 jk:j <= k
 kl:k <= ls.length
 go:aW col (ls.drop k) (k - i) (j - i)=(P.drop (k - i - 1),N)
 pl:k - i - 1 <= P.length
theorem oy.start {col:Nat} {ls:List (List UInt8)} {i:Nat} {P:List (List UInt8)} {N:Nat} (h:aW col (ls.drop (i+1)) 1 1=(P,N)) (hi:i<ls.length):oy col ls i P N (i+1) (i+1):=
 ⟨Nat.le_refl _,Nat.le_refl _,hi,by rw [show i+1 - i=1 by omega,h];rfl,by omega⟩
theorem oy.blank {col:Nat} {ls:List (List UInt8)} {i:Nat} {P:List (List UInt8)} {N j k:Nat} {s:List UInt8} (h:oy col ls i P N j k) (hs:ls[k]? =some s) (hb:af s=true):oy col ls i P N j (k+1):=by
 obtain ⟨a,b,c,d,e⟩:=h;have hk:=(List.getElem?_eq_some_iff.1 hs).1;rw [pt hs hb]at d;obtain ⟨d1,d2⟩:=Prod.mk.inj d;have hl:=congrArg List.length d1;rw [List.length_cons,List.length_drop]at hl;have hd:P.drop (k+1 - i - 1)=(aW col (ls.drop (k+1)) (k - i+1) (j - i)).1:=by
  have:=congrArg List.tail d1;rw [List.tail_cons,List.tail_drop]at this;rw [this];congr 1;omega
 exact ⟨a,by omega,hk,by rw [hd,<- d2,show k+1 - i=k - i+1 by omega],by omega⟩
theorem oy.more {col:Nat} {ls:List (List UInt8)} {i:Nat} {P:List (List UInt8)} {N j k:Nat} {s:List UInt8} (h:oy col ls i P N j k) (hs:ls[k]? =some s) (hb:af s=false) (hc:col <= aw s):oy col ls i P N (k+1) (k+1)∧k - i - 1<P.length:=by
 obtain ⟨a,b,c,d,e⟩:=h;have hk:=(List.getElem?_eq_some_iff.1 hs).1;rw [rb hs hb hc]at d;obtain ⟨d1,d2⟩:=Prod.mk.inj d;have hl:=congrArg List.length d1;rw [List.length_cons,List.length_drop]at hl;have hd:P.drop (k+1 - i - 1)=(aW col (ls.drop (k+1)) (k - i+1) (k - i+1)).1:=by
  have:=congrArg List.tail d1;rw [List.tail_cons,List.tail_drop]at this;rw [this];congr 1;omega
 exact ⟨⟨by omega,Nat.le_refl _,hk,by rw [hd,<- d2,show k+1 - i=k - i+1 by omega],by omega⟩,by omega⟩
theorem oy.stop {col:Nat} {ls:List (List UInt8)} {i:Nat} {P:List (List UInt8)} {N j k:Nat} (h:oy col ls i P N j k) (hs:k=ls.length∨∃s,ls[k]? =some s∧af s=false∧¬col <= aw s):j=i+N:=by
 obtain ⟨a,b,c,d,e⟩:=h;rcases hs with rfl|⟨s,hs,hb,hc⟩
 ·rw [List.drop_length,aW]at d;have:=(Prod.mk.inj d).2;omega
 ·rw [rf hs hb hc]at d;have:=(Prod.mk.inj d).2;omega
theorem qx {α:Type} {R x:α} {P:List α} {n:Nat} (hn:1 <= n) (h:P[n - 1]? =some x):(R::P).take (n+1)=(R::P).take n++[x]:=by
 refine iB _ _ _ ?_;obtain ⟨m,rfl⟩:∃m,n=m+1:=⟨n - 1,by omega⟩
 rw [List.getElem?_cons_succ];exact h
theorem zE {d:Nat} (hd:d<11) (HW:vr (d+2)) {w:World} {ao:Option Addr} {cap:Nat} {ls:List (List UInt8)} (h:jp w ao cap ls) (h0:0<ls.length) (his:(aj (bS ls 0)).2.2.2.2=true):
  Calls Tryz.prog 35 #[.slice ao ls.length cap,.int .i64 (d:Int)] w fun e w'=>∃v,e=.returned (.tuple #[v,.int .i64 ((aJ am d (aj (bS ls 0)).1 ls (ls.length+1) 0 0).2:Int)])∧
   aD w.heap.size w' v (⟨4,d,(aj (bS ls 0)).2.1,(ls.take (aJ am d (aj (bS ls 0)).1 ls (ls.length+1) 0 0).2).all (fun x=> !af x),[],[(aj (bS ls 0)).1]⟩::(aJ am d (aj (bS ls 0)).1 ls (ls.length+1) 0 0).1)∧Below w.heap.size w w':=by
 obtain ⟨ib,hi,hz0,hz1,hz2⟩:=info_parts gD;obtain ⟨is,hsi,hs0,hs1,hs2⟩:=info_parts eZ;obtain ⟨g,o,rfl⟩:=h.addr h0;obtain ⟨X,hx,hcl,hXz,hX9,_⟩:=h.line 0 h0;have hx0:bS ls 0=X.data.toList:=(by have:=ct hx;rwa [List.drop_zero]at this);rw [hx0]at his⊢;have hit:=kN X hX9 hXz;obtain ⟨sg,num,col,R0,is0,hie⟩:∃a b c e f,aj X.data.toList=(a,b,c,e,f):=⟨_,_,_,_,_,rfl⟩
 rw [hie]at his hit⊢;simp only at his hit⊢;subst his;obtain ⟨Q,E,hQ⟩:∃Q E,aJ am d sg ls (ls.length+1) 0 0=(Q,E):=⟨_,_,rfl⟩
 rw [hQ];simp only;obtain ⟨TT,hTT⟩:∃t,(ls.take E).all (fun x=> !af x)=t:=⟨_,rfl⟩
 rw [hTT];have hst:fO am d sg ls 0 Q E 0 (ls.length+1) 0 0 []:=⟨rfl,Nat.le_refl _,Nat.zero_le _,by omega,by simp,by rw [List.drop_zero,hQ];rfl,by rw [List.drop_zero,hQ]⟩
 have hll:=h.ll;have HIT:=zh hit;have HST:=zh hst;have HTT:=zh hTT;have HH:=zh h;have HVB:=zh (show∀l,(am (d+2) l).length <= 28*l.length from fun l=>Nat.le_trans (bQ (10 - d) (d+2) (by omega) l) (Nat.mul_le_mul_right _ (by omega)));have HW:=zh HW;obtain ⟨L0,hL0⟩:∃x:ak,(⟨4,d,num,false,[],[sg]⟩:ak)=x:=⟨_,rfl⟩
 have HLT:=zh (show (⟨4,d,num,TT,[],[sg]⟩:ak)={L0 with tight:=TT} by rw [<- hL0]);have HLE:=zh hL0;have h0I:(0:Int)<(ls.length:Int):=(by omega);rw [Nat.add_zero]at hcl;clear h hit hst hTT hQ hie hx hL0 hX9 hx0;go_enter Tryz.func35,Tryz.ntmps35
 go_wp2_with fail;refine (HIT.out _).mono ?_;rintro e w0 ⟨rfl,b0⟩;have cvq:=uu w0 sg w0.heap.size rfl;go_wp2_with fail;have hb1:=b0.alloc b0.size (.cells #[.int .u8 (sg.toNat:Int)] 5);obtain ⟨w1,hw1⟩:∃x,w0.alloc (.cells #[.int .u8 (sg.toNat:Int)] 5)=x:=⟨_,rfl⟩
 have hsz:w1.heap.size=w0.heap.size+1:=(by rw [<- hw1];simp);rw [hw1]at hb1⊢;have hb2:=hb1.alloc hb1.size (.cells #[.int .i64 4,.int .i64 (d:Int),.int .i64 num,.bool false,.string ⟨#[]⟩,.string ⟨#[sg]⟩] 45);have hown2:aD w.heap.size (w1.alloc (.cells #[.int .i64 4,.int .i64 (d:Int),.int .i64 num,.bool false,.string ⟨#[]⟩,.string ⟨#[sg]⟩] 45)) (.slice (some ⟨w0.heap.size+1,0,none⟩) 1 1) [L0]:=by
  have:=World.ownsRow_lit (base:=w.heap.size) (e:=45) (size:=6) w1 #[.int .i64 4,.int .i64 (d:Int),.int .i64 num,.bool false,.string ⟨#[]⟩,.string ⟨#[sg]⟩] 1 hb1.size (by unfold maxLen;decide) rfl;rw [hsz]at this;rw [<- HLE.out];exact this
 obtain ⟨w2,hw2⟩:∃x,w1.alloc (.cells #[.int .i64 4,.int .i64 (d:Int),.int .i64 num,.bool false,.string ⟨#[]⟩,.string ⟨#[sg]⟩] 45)=x:=⟨_,rfl⟩
 rw [hw2]at hb2 hown2⊢;have HOW0:=zh hown2;have HBW0:=zh hb2;clear hw1 hw2 hb1 hb2 hown2 cvq hcl b0 hsz;go_loopw [11,12,13] (fun u11 u12 u13 wr=>∃(i f e1:Nat) (acc:List ak),u12=.int .i64 (e1:Int)∧u13=.int .i64 (i:Int)∧aD w.heap.size wr u11 (L0::acc)∧Below w.heap.size w wr∧fO am d sg ls 0 Q E i f i e1 acc) (fun _ _ u13 _=>ls.length - (intOf u13).toNat)
 case atStart=>exact ⟨0,_,0,[],rfl,rfl,HOW0.out,HBW0.out,HST.out⟩
 case round=>
  rename World=>wx
  obtain ⟨i,f,e1,acc,rfl,rfl,how,hbw,hia⟩:=hrel;clear HOW0 HBW0 HST;have HOW:=zh how;have HBW:=zh hbw;have HIA:=zh hia;have hil:=hia.il;clear how hia;by_cases hlt:i<ls.length
  ·have hltI:(i:Int)<(ls.length:Int):=(by omega);obtain ⟨XX,hx,hcl,hXXz,hXX9,_⟩:=(HH.out.below hbw).line i hlt;have hit:=kN XX hXX9 hXXz;obtain ⟨c,num2,col2,R,is2,hie⟩:∃a b c e f,aj XX.data.toList=(a,b,c,e,f):=⟨_,_,_,_,_,rfl⟩
   obtain ⟨RB,hRB⟩:∃Y:ByteArray,(⟨R.toArray⟩:ByteArray)=Y:=⟨_,rfl⟩
   have hRl:R=RB.data.toList:=(by rw [<- hRB]);rw [hie]at hit;simp only at hit;rw [hRB]at hit;have hcb:col2 <= 1000000000:=(by have:=pq XX.data.toList;rw [hie]at this;rw [Lib.size_eq]at hXXz;simp only at this;omega);have hrw:wt R <= wt XX.data.toList:=(by have:=gE XX.data.toList;rw [hie]at this;exact this);have hr9:(9:UInt8)∉R:=(by have:=AG hXX9;rw [hie]at this;exact this);have HIT2:=zh hit;have HIE:=zh hie;have HX:=zh hx;have HRL:=zh hRl;have HRW:=zh hrw;have HR9:=zh hr9;clear hit hie hx hRB hRl hrw HIT hbw hr9 hXX9;go_wp2_with fail;refine (HIT2.out _).mono ?_;rintro e wx ⟨rfl,bb⟩;have HOW2:=zh (cY HOW.out bb);have HBW2:=zh (aa HBW.out bb);clear bb HOW HBW hcl;have HOW:=HOW2;have HBW:=HBW2;clear HOW2 HBW2;cases is2
   ·have HAQ:=zh (HIA.out.stop (iV (by rw [<- HIA.out.ia];exact HX.out) (Or.inl (by rw [HIE.out]))));clear hcb hXXz;obtain ⟨q,qc,rfl⟩:=m8 HOW.out;have hlo:=HOW.out;obtain ⟨on,hon⟩:∃n,(L0::acc).length=n:=⟨_,rfl⟩
    have hon0:(0:Int)<(on:Int):=(by rw [<- hon,List.length_cons];omega);rw [hon]at hlo⊢;obtain ⟨hst,hqb,hfz,hco⟩:=fh hlo true;have HS0:=zh (And.intro hst (And.intro (HBW.out.setCell (p:=⟨q,3,none⟩) hqb (.bool true)) hqb));have HACC:=zh (And.intro HAQ.out.1 HAQ.out.2);have hel:E <= ls.length:=(by have:=HAQ.out.2;have:=HIA.out.ea;have:=HIA.out.il;have:=HIA.out.ia;omega);have heq:e1=E:=HAQ.out.2;clear hst hlo HOW hqb hon;go_wp2_with fail;obtain ⟨ws,hws⟩:∃x,wx.setCell ⟨q,3,none⟩ (.bool true)=x:=⟨_,rfl⟩
    rw [hws]at HS0⊢;clear hws hfz hco;subst heq;go_loopw [21] (fun u21 wr=>∃(k:Nat) (t:Bool),u21=.int .i64 (k:Int)∧k <= e1∧aD w.heap.size wr (.slice (some ⟨q,0,none⟩) on qc) ({L0 with tight:=t}::acc)∧Below w.heap.size w wr∧Hid ((t&&((ls.take e1).drop k).all (fun x=> !af x))=TT)) (fun u21 _=>e1 - (intOf u21).toNat)
    case atStart=>exact ⟨0,true,rfl,Nat.zero_le _,HS0.out.1,HS0.out.2.1,zh (by rw [List.drop_zero,HTT.out];rfl)⟩
    case round=>
     rename World=>wt
     obtain ⟨k,t,rfl,hke,hown,hbw,HTK⟩:=hrel;by_cases hkl:k<e1
     ·have hk1:(k:Int)<(e1:Int):=(by omega);obtain ⟨XX,hx,hcl,hXXz,hXX9,_⟩:=(HH.out.below hbw).line k (by omega);have hkl2:(k:Int)<(ls.length:Int):=(by omega);have hbl:=cS XX (by omega);obtain ⟨bv,hbv⟩:∃b,af XX.data.toList=b:=⟨_,rfl⟩
      rw [hbv]at hbl;have HBL:=zh hbl;have hxe:(ls.take e1)[k]? =some XX.data.toList:=(by rw [List.getElem?_take,if_pos hkl,hx]);have hstep:=g9 hxe (fun x=> !af x);rw [hbv]at hstep;obtain ⟨hst,hqb,hfz,hco⟩:=fh hown false;have HST:=zh (And.intro hst (hbw.setCell (p:=⟨q,3,none⟩) hqb (.bool false)));have HOK:=zh (And.intro hown hbw);have HT2:=zh (show ((t&& !bv)&&((ls.take e1).drop (k+1)).all (fun x=> !af x))=TT by rw [<- HTK.out,hstep,Bool.and_assoc]);clear hbl hbv hx hxe hstep HTK hown hbw hst hqb hXX9;cases bv
      ·clear HST;go_wp2_with fail;refine (HBL.out _).mono ?_;rintro e w' ⟨rfl,hw'⟩;obtain rfl:=hw'.symm;clear hw';go_wp2_with fail;go_roundw;case rel=>exact ⟨k+1,t,by go_num,by omega,HOK.out.1,HOK.out.2,zh (by have:=HT2.out;simpa using this)⟩
       case measure=>simp [intOf];omega
      ·clear HOK;go_wp2_with fail;refine (HBL.out _).mono ?_;rintro e w' ⟨rfl,hw'⟩;obtain rfl:=hw'.symm;clear hw';go_wp2_with fail;go_roundw;case rel=>exact ⟨k+1,false,by go_num,by omega,HST.out.1,HST.out.2,zh (by have:=HT2.out;simpa using this)⟩
       case measure=>simp [intOf];omega
     ·have hk1:¬(k:Int)<(e1:Int):=(by omega);have HTE:=zh (show t=TT by
       have:=HTK.out;rw [List.drop_eq_nil_of_le (by rw [List.length_take];omega)]at this;simpa using this)
      have HOK:=zh (And.intro hown hbw);clear hown hbw HTK;go_wp2_with fail
      go_ret2
      refine ⟨.slice (some ⟨q,0,none⟩) on qc,rfl,?_,HOK.out.2⟩;have h1:=HOK.out.1;rw [HTE.out,HACC.out.1]at h1;rw [HLT.out];exact h1
   ·by_cases hc:c=sg
    ·subst hc;obtain ⟨P,N,hq⟩:∃P N,aW col2 (ls.drop (i+1)) 1 1=(P,N):=⟨_,_,rfl⟩
     obtain ⟨hn1,hn2,hn3,hn4,f2,hia2⟩:=HIA.out.next HX.out HIE.out hq HVB.out;have hst:=mo HX.out HRW.out hq;have hltt:=HH.out.lt;have HGET:=zh (show∀m x,P[m]? =some x ->∃s,ls[i+1+m]? =some s∧x=aO s col2 from fun m x hm=>by
      have h1:=lF col2 (ls.drop (i+1)) 1 1 m x (by rw [hq];exact hm);rw [List.getElem?_drop]at h1;exact h1)
     have HS9:=zh (show∀x∈(R::P).take N,(9:UInt8)∉x from fun x hx=>by
      rcases List.mem_cons.1 ((List.take_sublist _ _).subset hx)with rfl|hx
      ·exact HR9.out
      ·have:=vU (col:=col2) (i:=1) (m:=1) (l:=ls.drop (i+1)) (fun s hs=>HH.out.n9 s ((List.drop_sublist _ _).subset hs)) x;rw [hq]at this;exact this hx)
     have HIT0:=zh (oy.start hq hlt);obtain ⟨S,hS⟩:∃S,(R::P).take N=S:=⟨_,rfl⟩
     rw [hS]at hn3 hn4 hia2 hst;have HS:=zh hS;have HSB:=zh (And.intro hn3 (And.intro hn4 (show tot S <= 1000000 by omega)));have HIA2:=zh hia2;clear hq hst hltt hS hn3 hn4 hia2;go_wp2_with fail;have hbA:=(Below.refl wx.heap.size wx).alloc (Nat.le_refl _) (.cells #[.string RB] 9);have hinA:al w.heap.size (wx.alloc (.cells #[.string RB] 9)) (.slice (some ⟨wx.heap.size,0,none⟩) 1 1) ((R::P).take 1):=by
      have:=World.ownsRow_lit (base:=w.heap.size) (e:=9) (size:=1) wx #[.string RB] 1 HBW.out.size (by unfold maxLen;decide) rfl;unfold al;rw [List.take_succ_cons,List.take_zero,List.map_cons,List.map_nil,HRL.out];unfold j9;rw [Lib.mk_data];exact this
     have HA:=zh (And.intro (cY HOW.out hbA) (And.intro hinA (aa HBW.out hbA)));obtain ⟨wa,hwa⟩:∃x,wx.alloc (.cells #[.string RB] 9)=x:=⟨_,rfl⟩
     rw [hwa]at HA⊢;clear hwa hbA hinA HOW HBW;go_loopw [12,13,19,20] (fun u12 u13 u19 u20 wr=>∃j k:Nat,u12=.int .i64 (j:Int)∧u13=.int .i64 (j:Int)∧u20=.int .i64 (k:Int)∧aD w.heap.size wr u11 (L0::acc)∧al w.heap.size wr u19 ((R::P).take (j - i))∧Below w.heap.size w wr∧oy col2 ls i P N j k) (fun _ _ _ u20 _=>ls.length - (intOf u20).toNat)
     case atStart=>exact ⟨i+1,i+1,by go_num,by go_num,by go_num,HA.out.1,by rw [show i+1 - i=1 by omega];exact HA.out.2.1,HA.out.2.2,HIT0.out⟩
     case round=>
      rename World=>wb
      obtain ⟨j,k,rfl,rfl,rfl,ho,hs,hb,hit⟩:=hrel;have hkl:=hit.kl;have hjk:=hit.jk;have hij:=hit.ij;have HB:=zh (And.intro ho (And.intro hs hb));have HIT1:=zh hit;clear ho hs hit HIT0 HA;by_cases hk:k<ls.length
      ·have hkI:(k:Int)<(ls.length:Int):=(by omega);obtain ⟨XX,hx,hcl,hXXz,hXX9,_⟩:=(HH.out.below hb).line k hk;have hbl:=cS XX (by omega);have hin:=eV XX hXX9 (by omega);rw [<- cE hXX9]at hin;obtain ⟨bv,hbv⟩:∃b,af XX.data.toList=b:=⟨_,rfl⟩
       obtain ⟨I,hI⟩:∃I,aw XX.data.toList=I:=⟨_,rfl⟩
       rw [hbv]at hbl;rw [hI]at hin;have HBL:=zh hbl;have HIN:=zh hin;have HXX:=zh (And.intro hx (And.intro hbv hI));clear hbl hin hbv hI hx hXX9 hb;cases bv
       ·by_cases hc:col2 <= I
        ·have hcI:(col2:Int) <= (I:Int):=(by omega);obtain ⟨hm1,hm2⟩:=HIT1.out.more HXX.out.1 HXX.out.2.1 (by rw [HXX.out.2.2];exact hc);have HM:=zh hm1;have hm2':=hm2;clear hm1 hm2 hc;go_wp2_with fail;refine (HBL.out _).mono ?_;rintro e w' ⟨rfl,hw'⟩;obtain rfl:=hw'.symm;clear hw';go_wp2_with fail;refine (HIN.out _).mono ?_;rintro e w' ⟨rfl,hw'⟩;obtain rfl:=hw'.symm;clear hw';go_wp2_with fail;refine (HBL.out _).mono ?_;rintro e w' ⟨rfl,hw'⟩;obtain rfl:=hw'.symm;clear hw';go_wp2_with fail;clear hcl;go_loopw [13,19] (fun u13 u19 wr=>∃j2:Nat,j <= j2∧j2 <= k+1∧u13=.int .i64 (j2:Int)∧aD w.heap.size wr u11 (L0::acc)∧al w.heap.size wr u19 ((R::P).take (j2 - i))∧Below w.heap.size w wr) (fun u13 _ _=>k+1 - (intOf u13).toNat)
         case atStart=>exact ⟨j,Nat.le_refl _,by omega,rfl,HB.out.1,HB.out.2.1,HB.out.2.2⟩
         case round=>
          rename World=>wc
          obtain ⟨j2,hj1,hj2,rfl,ho,hs,hb⟩:=hrel;clear HB;by_cases hjk2:j2 <= k
          ·have hjkI:(j2:Int) <= (k:Int):=(by omega);have hjlI:(j2:Int)<(ls.length:Int):=(by omega);obtain ⟨Y,hy,hcy,hYz,hY9,_⟩:=(HH.out.below hb).line j2 (by omega);have hst:=lS Y col2 hY9 hYz hcb;obtain ⟨Z,hZ⟩:∃Z:ByteArray,(⟨(aO Y.data.toList col2).toArray⟩:ByteArray)=Z:=⟨_,rfl⟩
           have hZl:Z.data.toList=aO Y.data.toList col2:=(by rw [<- hZ]);rw [hZ]at hst;have HST:=zh hst;have hsn:(R::P).take (j2 - i+1)=(R::P).take (j2 - i)++[Z.data.toList]:=by
            obtain ⟨x,hx2⟩:∃x,P[j2 - i - 1]? =some x:=⟨_,List.getElem?_eq_getElem (by omega)⟩
            obtain ⟨s,g1,g2⟩:=HGET.out _ _ hx2;rw [show i+1+(j2 - i - 1)=j2 by omega,hy]at g1;have g3:=Option.some.inj g1;refine qx (by omega) ?_;rw [hx2,g2,<- g3,hZl]
           have hlen:((R::P).take (j2 - i)).length=j2 - i:=(by rw [List.length_take,List.length_cons];omega);obtain ⟨T,hT⟩:∃T,(R::P).take (j2 - i)=T:=⟨_,rfl⟩
           rw [hT]at hs hlen hsn;have HSN:=zh hsn;have HLEN:=zh hlen;have HO2:=zh hs;have HBO:=zh ho;have HB2:=zh hb;clear hst hZ hZl hsn hlen hs ho hb hy hY9;go_wp2_with fail;refine (HST.out _).mono ?_;rintro e w' ⟨rfl,hw'⟩;obtain rfl:=hw'.symm;clear hw'
           go_wp2_with (first
            |(at_builtin;refine wpList_append_own _ rfl _ _ 22 rfl w.heap.size 9 is (.string ⟨#[]⟩) 1 16 Tryz.underlying22 hsi hs0 hs1 hs2 rfl (by decide) _ _ _ rfl (World.ownsRow.alloc HO2.out _) ⟨wc.heap.size,0,none⟩ 1 1 [.string Z] rfl rfl ?c1 ?c2 ?c3 ?c4 ?c5 ?_))
           case c1=>exact ar _ _ _ _ rfl
           case c2=>intro u hu;simp at hu;rcases hu with rfl;rfl
           case c3=>rw [HLEN.out];unfold maxLen;omega
           case c4=>rw [HLEN.out];omega
           case c5=>have:=HB2.out.size;simp;omega
           intro v4 w4 hown4 hgrow _;have hg1:=(World.grownBy_alloc wc (.cells #[.string Z] 9) u19.ownBlock).trans hgrow;have hO4:=al.snoc hown4 rfl;have hB4:=HB2.out.grown hg1 HB2.out.size (fun j hj=>(World.ownsRow.lt HO2.out j hj).1);have hBo4:=qE HBO.out HO2.out hg1;have H4:=zh (And.intro hO4 (And.intro hB4 hBo4));clear hgrow hg1 hO4 hB4 hown4 hBo4;go_wp2_with fail;go_roundw;case rel=>exact ⟨j2+1,by omega,by omega,by go_num,H4.out.2.2,by rw [show j2+1 - i=j2 - i+1 by omega,HSN.out];exact H4.out.1,H4.out.2.1⟩
           case measure=>simp [intOf];omega
          ·have hjkI:¬(j2:Int) <= (k:Int):=(by omega);obtain rfl:j2=k+1:=(by omega);have HO2:=zh (And.intro ho (And.intro hs hb));clear ho hs hb;go_wp2_with fail;go_roundw;case rel=>exact ⟨k+1,k+1,by go_num,by go_num,by go_num,HO2.out.1,HO2.out.2.1,HO2.out.2.2,HM.out⟩
           case measure=>simp [intOf];omega
        ·have hcI:¬(col2:Int) <= (I:Int):=(by omega);have HJN:=zh (HIT1.out.stop (Or.inr ⟨_,HXX.out.1,HXX.out.2.1,by rw [HXX.out.2.2];exact hc⟩));clear hc HIT1;go_wp2_with fail;refine (HBL.out _).mono ?_;rintro e w' ⟨rfl,hw'⟩;obtain rfl:=hw'.symm;clear hw';go_wp2_with fail;refine (HIN.out _).mono ?_;rintro e w' ⟨rfl,hw'⟩;obtain rfl:=hw'.symm;clear hw';clear hcl;have hjn:j=i+N:=HJN.out;subst hjn;have hin:al w.heap.size wb u19 S:=by
          have:=HB.out.2.1;rw [show i+N - i=N by omega,HS.out]at this;exact this
         have HO:=zh HB.out.1;have HI:=zh hin;have HBW:=zh HB.out.2.2;have hob:acc.length+1+1+(am (d+2) S).length <= 100000000:=by
          have:=HSB.out.2.1;rw [List.length_append,List.length_cons]at this;omega
         clear hin HB HJN;go_upto_region 19 with (fail)
         go_wp2_with (first
          |(at_builtin;refine wpList_append_own _ rfl _ _ 28 rfl w.heap.size 45 ib (.agg #[.int .i64 0,.int .i64 0,.int .i64 0,.bool false,.string ⟨#[]⟩,.string ⟨#[]⟩]) 6 64 Tryz.underlying28 hi hz0 hz1 hz2 rfl (by decide) _ _ _ rfl (World.ownsRow.alloc HO.out _) ⟨wb.heap.size,0,none⟩ 1 1 [.int .i64 5,.int .i64 ((d:Int)+1),.int .i64 0,.bool false,.string ⟨#[]⟩,.string ⟨#[]⟩] rfl rfl (ar _ _ _ _ rfl) (fun u hu=>by simp only [List.mem_cons,List.not_mem_nil,or_false]at hu;rcases hu with rfl|rfl|rfl|rfl|rfl|rfl<;>rfl) (by simp only [List.length_cons];unfold maxLen;omega) (by simp only [List.length_cons];omega) (by have:=HBW.out.size;simp;omega) ?_))
         intro v4 w4 hown4 hgrow _;have hg1:=(World.grownBy_alloc wb (.cells #[.int .i64 5,.int .i64 ((d:Int)+1),.int .i64 0,.bool false,.string ⟨#[]⟩,.string ⟨#[]⟩] 45) u11.ownBlock).trans hgrow;have hO4:=dA (l:=L0::acc) (p:=⟨5,d+1,0,false,[],[]⟩) hown4 rfl;have hB4:=HBW.out.grown hg1 HBW.out.size (fun j hj=>(World.ownsRow.lt HO.out j hj).1);have hI4:=nC HI.out HO.out hg1;obtain ⟨iao,ic,hiv,hil⟩:=nD hI4 HSB.out.2.2 (fun x hx=>HS9.out x (by rw [HS.out];exact hx));subst hiv;have hcall:=HW.out w4 iao ic S hil;rw [show (((d+2:Nat)):Int)=(d:Int)+2 by omega]at hcall;have HC:=zh hcall;have HO4:=zh hO4;have HB4:=zh hB4;clear hgrow hg1 hO4 hB4 hown4 hI4 hil hcall HO HI HBW;go_wp2_with fail;refine HC.out.mono ?_;rintro e w5 ⟨v5,rfl,hv5,b5⟩;have HO5:=zh (cY HO4.out b5);have HB5:=zh (aa HB4.out b5);obtain ⟨bao,bc,hbv,hbr,hbn,_⟩:=ac hv5;subst hbv;have HBR:=zh (And.intro hbr hbn);clear hv5 b5 hbr hbn HO4 HB4 HC
         go_wp2_with (first
          |(at_builtin;refine c6 w5 rfl _ _ 28 rfl w.heap.size 45 ib (.agg #[.int .i64 0,.int .i64 0,.int .i64 0,.bool false,.string ⟨#[]⟩,.string ⟨#[]⟩]) 6 64 Tryz.underlying28 hi hz0 hz1 hz2 rfl (by decide) _ _ _ rfl HO5.out bao (am (d+2) S).length bc ((am (d+2) S).flatMap aL) rfl HBR.out.1 HBR.out.2 (jA _) (by simp only [List.length_append,List.length_cons,List.length_nil];unfold maxLen;omega) (by simp only [List.length_append,List.length_cons,List.length_nil];omega) HB5.out.size ?_))
         intro v6 w6 hown6 hgrow;have hB6:=HB5.out.grown hgrow HB5.out.size (fun j hj=>(World.ownsRow.lt HO5.out j hj).1);have HO6:=zh (show aD w.heap.size w6 v6 (L0::(acc++⟨5,d+1,0,false,[],[]⟩::am (d+2) S)) by
          have h6:w6.ownsRow w.heap.size 45 6 v6 (L0::(acc++(⟨5,d+1,0,false,[],[]⟩:ak)::am (d+2) S)).length ((L0::(acc++(⟨5,d+1,0,false,[],[]⟩:ak)::am (d+2) S)).flatMap aL):=by
           simp only [List.length_cons,List.length_append,List.flatMap_cons,List.flatMap_append]at hown6⊢;have e:acc.length+1+1+(am (d+2) S).length=acc.length+((am (d+2) S).length+1)+1:=(by omega);rw [<- e];simpa [List.append_assoc]using hown6
          exact h6)
         have HB6:=zh hB6;clear hgrow hown6 hB6 HO5 HB5 HBR hob;go_wp2_with fail;go_loop [13] (fun u13=>∃j:Nat,i+N <= j∧j <= ls.length∧u13=.int .i64 (j:Int)∧Hid (j+lW (ls.drop j)=i+N+lW (ls.drop (i+N)))) (fun u13=>ls.length - (intOf u13).toNat)
         case atStart=>exact ⟨i+N,Nat.le_refl _,hn2,rfl,zh rfl⟩
         case round=>
          obtain ⟨j,hj1,hj2,rfl,HJ⟩:=hrel;by_cases hjl:j<ls.length
          ·have hjlI:(j:Int)<(ls.length:Int):=(by omega);obtain ⟨XB,hxb,hclb,hXBz,_,_⟩:=(HH.out.below HB6.out).line j hjl;have hbl:=cS XB (by omega);obtain ⟨bv,hbv⟩:∃b,af XB.data.toList=b:=⟨_,rfl⟩
           rw [hbv]at hbl;have HBL:=zh hbl;have HXB:=zh (And.intro hxb hbv);clear hbl hbv hxb;cases bv
           ·have HJE:=zh (show j=i+N+lW (ls.drop (i+N)) by have:=HJ.out;rw [pC HXB.out.1 HXB.out.2]at this;exact this);go_wp2_with fail;refine (HBL.out _).mono ?_;rintro e w' ⟨rfl,hw'⟩;obtain rfl:=hw'.symm;clear hw';go_wp2_with fail;go_roundw;case rel=>exact ⟨j,f2,i+N,_,by go_num,by go_num,HO6.out,HB6.out,by rw [HJE.out];exact HIA2.out⟩
            case measure=>simp [intOf];omega
           ·have HJ2:=zh (show j+1+lW (ls.drop (j+1))=i+N+lW (ls.drop (i+N)) by have:=HJ.out;rw [wl HXB.out.1 HXB.out.2]at this;omega);go_wp2_with fail;refine (HBL.out _).mono ?_;rintro e w' ⟨rfl,hw'⟩;obtain rfl:=hw'.symm;clear hw';go_wp2_with fail;go_round;case rel=>exact ⟨j+1,by omega,by omega,by go_num,HJ2⟩
            case measure=>simp [intOf];omega
          ·have hjlI:¬(j:Int)<(ls.length:Int):=(by omega);have HJE:=zh (show j=i+N+lW (ls.drop (i+N)) by
            have h1:=HJ.out;have h2:j=ls.length:=(by omega);rw [h2,sE]at h1;omega)
           go_wp2_with fail;go_roundw;case rel=>exact ⟨j,f2,i+N,_,by go_num,by go_num,HO6.out,HB6.out,by rw [HJE.out];exact HIA2.out⟩
           case measure=>simp [intOf];omega
       ·have HM:=zh (HIT1.out.blank HXX.out.1 HXX.out.2.1);clear HIT1;go_wp2_with fail;refine (HBL.out _).mono ?_;rintro e w' ⟨rfl,hw'⟩;obtain rfl:=hw'.symm;clear hw';go_wp2_with fail;refine (HBL.out _).mono ?_;rintro e w' ⟨rfl,hw'⟩;obtain rfl:=hw'.symm;clear hw';go_wp2_with fail;go_roundw;case rel=>exact ⟨j,k+1,rfl,rfl,by go_num,HB.out.1,HB.out.2.1,HB.out.2.2,HM.out⟩
        case measure=>simp [intOf];omega
      ·have hkI:¬(k:Int)<(ls.length:Int):=(by omega);have HJN:=zh (HIT1.out.stop (Or.inl (by omega)));clear HIT1 hb;have hjn:j=i+N:=HJN.out;subst hjn;have hin:al w.heap.size wb u19 S:=by
        have:=HB.out.2.1;rw [show i+N - i=N by omega,HS.out]at this;exact this
       have HO:=zh HB.out.1;have HI:=zh hin;have HBW:=zh HB.out.2.2;have hob:acc.length+1+1+(am (d+2) S).length <= 100000000:=by
        have:=HSB.out.2.1;rw [List.length_append,List.length_cons]at this;omega
       clear hin HB HJN;go_upto_region 19 with (fail)
       go_wp2_with (first
        |(at_builtin;refine wpList_append_own _ rfl _ _ 28 rfl w.heap.size 45 ib (.agg #[.int .i64 0,.int .i64 0,.int .i64 0,.bool false,.string ⟨#[]⟩,.string ⟨#[]⟩]) 6 64 Tryz.underlying28 hi hz0 hz1 hz2 rfl (by decide) _ _ _ rfl (World.ownsRow.alloc HO.out _) ⟨wb.heap.size,0,none⟩ 1 1 [.int .i64 5,.int .i64 ((d:Int)+1),.int .i64 0,.bool false,.string ⟨#[]⟩,.string ⟨#[]⟩] rfl rfl (ar _ _ _ _ rfl) (fun u hu=>by simp only [List.mem_cons,List.not_mem_nil,or_false]at hu;rcases hu with rfl|rfl|rfl|rfl|rfl|rfl<;>rfl) (by simp only [List.length_cons];unfold maxLen;omega) (by simp only [List.length_cons];omega) (by have:=HBW.out.size;simp;omega) ?_))
       intro v4 w4 hown4 hgrow _;have hg1:=(World.grownBy_alloc wb (.cells #[.int .i64 5,.int .i64 ((d:Int)+1),.int .i64 0,.bool false,.string ⟨#[]⟩,.string ⟨#[]⟩] 45) u11.ownBlock).trans hgrow;have hO4:=dA (l:=L0::acc) (p:=⟨5,d+1,0,false,[],[]⟩) hown4 rfl;have hB4:=HBW.out.grown hg1 HBW.out.size (fun j hj=>(World.ownsRow.lt HO.out j hj).1);have hI4:=nC HI.out HO.out hg1;obtain ⟨iao,ic,hiv,hil⟩:=nD hI4 HSB.out.2.2 (fun x hx=>HS9.out x (by rw [HS.out];exact hx));subst hiv;have hcall:=HW.out w4 iao ic S hil;rw [show (((d+2:Nat)):Int)=(d:Int)+2 by omega]at hcall;have HC:=zh hcall;have HO4:=zh hO4;have HB4:=zh hB4;clear hgrow hg1 hO4 hB4 hown4 hI4 hil hcall HO HI HBW;go_wp2_with fail;refine HC.out.mono ?_;rintro e w5 ⟨v5,rfl,hv5,b5⟩;have HO5:=zh (cY HO4.out b5);have HB5:=zh (aa HB4.out b5);obtain ⟨bao,bc,hbv,hbr,hbn,_⟩:=ac hv5;subst hbv;have HBR:=zh (And.intro hbr hbn);clear hv5 b5 hbr hbn HO4 HB4 HC
       go_wp2_with (first
        |(at_builtin;refine c6 w5 rfl _ _ 28 rfl w.heap.size 45 ib (.agg #[.int .i64 0,.int .i64 0,.int .i64 0,.bool false,.string ⟨#[]⟩,.string ⟨#[]⟩]) 6 64 Tryz.underlying28 hi hz0 hz1 hz2 rfl (by decide) _ _ _ rfl HO5.out bao (am (d+2) S).length bc ((am (d+2) S).flatMap aL) rfl HBR.out.1 HBR.out.2 (jA _) (by simp only [List.length_append,List.length_cons,List.length_nil];unfold maxLen;omega) (by simp only [List.length_append,List.length_cons,List.length_nil];omega) HB5.out.size ?_))
       intro v6 w6 hown6 hgrow;have hB6:=HB5.out.grown hgrow HB5.out.size (fun j hj=>(World.ownsRow.lt HO5.out j hj).1);have HO6:=zh (show aD w.heap.size w6 v6 (L0::(acc++⟨5,d+1,0,false,[],[]⟩::am (d+2) S)) by
        have h6:w6.ownsRow w.heap.size 45 6 v6 (L0::(acc++(⟨5,d+1,0,false,[],[]⟩:ak)::am (d+2) S)).length ((L0::(acc++(⟨5,d+1,0,false,[],[]⟩:ak)::am (d+2) S)).flatMap aL):=by
         simp only [List.length_cons,List.length_append,List.flatMap_cons,List.flatMap_append]at hown6⊢;have e:acc.length+1+1+(am (d+2) S).length=acc.length+((am (d+2) S).length+1)+1:=(by omega);rw [<- e];simpa [List.append_assoc]using hown6
        exact h6)
       have HB6:=zh hB6;clear hgrow hown6 hB6 HO5 HB5 HBR hob;go_wp2_with fail;go_loop [13] (fun u13=>∃j:Nat,i+N <= j∧j <= ls.length∧u13=.int .i64 (j:Int)∧Hid (j+lW (ls.drop j)=i+N+lW (ls.drop (i+N)))) (fun u13=>ls.length - (intOf u13).toNat)
       case atStart=>exact ⟨i+N,Nat.le_refl _,hn2,rfl,zh rfl⟩
       case round=>
        obtain ⟨j,hj1,hj2,rfl,HJ⟩:=hrel;by_cases hjl:j<ls.length
        ·have hjlI:(j:Int)<(ls.length:Int):=(by omega);obtain ⟨XB,hxb,hclb,hXBz,_,_⟩:=(HH.out.below HB6.out).line j hjl;have hbl:=cS XB (by omega);obtain ⟨bv,hbv⟩:∃b,af XB.data.toList=b:=⟨_,rfl⟩
         rw [hbv]at hbl;have HBL:=zh hbl;have HXB:=zh (And.intro hxb hbv);clear hbl hbv hxb;cases bv
         ·have HJE:=zh (show j=i+N+lW (ls.drop (i+N)) by have:=HJ.out;rw [pC HXB.out.1 HXB.out.2]at this;exact this);go_wp2_with fail;refine (HBL.out _).mono ?_;rintro e w' ⟨rfl,hw'⟩;obtain rfl:=hw'.symm;clear hw';go_wp2_with fail;go_roundw;case rel=>exact ⟨j,f2,i+N,_,by go_num,by go_num,HO6.out,HB6.out,by rw [HJE.out];exact HIA2.out⟩
          case measure=>simp [intOf];omega
         ·have HJ2:=zh (show j+1+lW (ls.drop (j+1))=i+N+lW (ls.drop (i+N)) by have:=HJ.out;rw [wl HXB.out.1 HXB.out.2]at this;omega);go_wp2_with fail;refine (HBL.out _).mono ?_;rintro e w' ⟨rfl,hw'⟩;obtain rfl:=hw'.symm;clear hw';go_wp2_with fail;go_round;case rel=>exact ⟨j+1,by omega,by omega,by go_num,HJ2⟩
          case measure=>simp [intOf];omega
        ·have hjlI:¬(j:Int)<(ls.length:Int):=(by omega);have HJE:=zh (show j=i+N+lW (ls.drop (i+N)) by
          have h1:=HJ.out;have h2:j=ls.length:=(by omega);rw [h2,sE]at h1;omega)
         go_wp2_with fail;go_roundw;case rel=>exact ⟨j,f2,i+N,_,by go_num,by go_num,HO6.out,HB6.out,by rw [HJE.out];exact HIA2.out⟩
         case measure=>simp [intOf];omega
    ·have hn1:((c.toNat:Int) !=(sg.toNat:Int))=true:=by
      have:c.toNat≠sg.toNat:=fun e=>hc (UInt8.toNat_inj.1 e);simp;omega
     have HAQ:=zh (HIA.out.stop (iV (by rw [<- HIA.out.ia];exact HX.out) (Or.inr (by rw [HIE.out];exact hc))));clear hcb hXXz hc;obtain ⟨q,qc,rfl⟩:=m8 HOW.out;have hlo:=HOW.out;obtain ⟨on,hon⟩:∃n,(L0::acc).length=n:=⟨_,rfl⟩
     have hon0:(0:Int)<(on:Int):=(by rw [<- hon,List.length_cons];omega);rw [hon]at hlo⊢;obtain ⟨hst,hqb,hfz,hco⟩:=fh hlo true;have HS0:=zh (And.intro hst (And.intro (HBW.out.setCell (p:=⟨q,3,none⟩) hqb (.bool true)) hqb));have HACC:=zh (And.intro HAQ.out.1 HAQ.out.2);have hel:E <= ls.length:=(by have:=HAQ.out.2;have:=HIA.out.ea;have:=HIA.out.il;have:=HIA.out.ia;omega);have heq:e1=E:=HAQ.out.2;clear hst hlo HOW hqb hon;go_wp2_with fail;obtain ⟨ws,hws⟩:∃x,wx.setCell ⟨q,3,none⟩ (.bool true)=x:=⟨_,rfl⟩
     rw [hws]at HS0⊢;clear hws hfz hco;subst heq;go_loopw [21] (fun u21 wr=>∃(k:Nat) (t:Bool),u21=.int .i64 (k:Int)∧k <= e1∧aD w.heap.size wr (.slice (some ⟨q,0,none⟩) on qc) ({L0 with tight:=t}::acc)∧Below w.heap.size w wr∧Hid ((t&&((ls.take e1).drop k).all (fun x=> !af x))=TT)) (fun u21 _=>e1 - (intOf u21).toNat)
     case atStart=>exact ⟨0,true,rfl,Nat.zero_le _,HS0.out.1,HS0.out.2.1,zh (by rw [List.drop_zero,HTT.out];rfl)⟩
     case round=>
      rename World=>wt
      obtain ⟨k,t,rfl,hke,hown,hbw,HTK⟩:=hrel;by_cases hkl:k<e1
      ·have hk1:(k:Int)<(e1:Int):=(by omega);obtain ⟨XX,hx,hcl,hXXz,hXX9,_⟩:=(HH.out.below hbw).line k (by omega);have hkl2:(k:Int)<(ls.length:Int):=(by omega);have hbl:=cS XX (by omega);obtain ⟨bv,hbv⟩:∃b,af XX.data.toList=b:=⟨_,rfl⟩
       rw [hbv]at hbl;have HBL:=zh hbl;have hxe:(ls.take e1)[k]? =some XX.data.toList:=(by rw [List.getElem?_take,if_pos hkl,hx]);have hstep:=g9 hxe (fun x=> !af x);rw [hbv]at hstep;obtain ⟨hst,hqb,hfz,hco⟩:=fh hown false;have HST:=zh (And.intro hst (hbw.setCell (p:=⟨q,3,none⟩) hqb (.bool false)));have HOK:=zh (And.intro hown hbw);have HT2:=zh (show ((t&& !bv)&&((ls.take e1).drop (k+1)).all (fun x=> !af x))=TT by rw [<- HTK.out,hstep,Bool.and_assoc]);clear hbl hbv hx hxe hstep HTK hown hbw hst hqb hXX9;cases bv
       ·clear HST;go_wp2_with fail;refine (HBL.out _).mono ?_;rintro e w' ⟨rfl,hw'⟩;obtain rfl:=hw'.symm;clear hw';go_wp2_with fail;go_roundw;case rel=>exact ⟨k+1,t,by go_num,by omega,HOK.out.1,HOK.out.2,zh (by have:=HT2.out;simpa using this)⟩
        case measure=>simp [intOf];omega
       ·clear HOK;go_wp2_with fail;refine (HBL.out _).mono ?_;rintro e w' ⟨rfl,hw'⟩;obtain rfl:=hw'.symm;clear hw';go_wp2_with fail;go_roundw;case rel=>exact ⟨k+1,false,by go_num,by omega,HST.out.1,HST.out.2,zh (by have:=HT2.out;simpa using this)⟩
        case measure=>simp [intOf];omega
      ·have hk1:¬(k:Int)<(e1:Int):=(by omega);have HTE:=zh (show t=TT by
        have:=HTK.out;rw [List.drop_eq_nil_of_le (by rw [List.length_take];omega)]at this;simpa using this)
       have HOK:=zh (And.intro hown hbw);clear hown hbw HTK;go_wp2_with fail
       go_ret2
       refine ⟨.slice (some ⟨q,0,none⟩) on qc,rfl,?_,HOK.out.2⟩;have h1:=HOK.out.1;rw [HTE.out,HACC.out.1]at h1;rw [HLT.out];exact h1
  ·have hltI:¬(i:Int)<(ls.length:Int):=(by omega);have HAQ:=zh (HIA.out.stop (ri (by rw [<- HIA.out.ia];omega)));clear hbw;obtain ⟨q,qc,rfl⟩:=m8 HOW.out;have hlo:=HOW.out;obtain ⟨on,hon⟩:∃n,(L0::acc).length=n:=⟨_,rfl⟩
   have hon0:(0:Int)<(on:Int):=(by rw [<- hon,List.length_cons];omega);rw [hon]at hlo⊢;obtain ⟨hst,hqb,hfz,hco⟩:=fh hlo true;have HS0:=zh (And.intro hst (And.intro (HBW.out.setCell (p:=⟨q,3,none⟩) hqb (.bool true)) hqb));have HACC:=zh (And.intro HAQ.out.1 HAQ.out.2);have hel:E <= ls.length:=(by have:=HAQ.out.2;have:=HIA.out.ea;have:=HIA.out.il;have:=HIA.out.ia;omega);have heq:e1=E:=HAQ.out.2;clear hst hlo HOW hqb hon;go_wp2_with fail;obtain ⟨ws,hws⟩:∃x,wx.setCell ⟨q,3,none⟩ (.bool true)=x:=⟨_,rfl⟩
   rw [hws]at HS0⊢;clear hws hfz hco;subst heq;go_loopw [21] (fun u21 wr=>∃(k:Nat) (t:Bool),u21=.int .i64 (k:Int)∧k <= e1∧aD w.heap.size wr (.slice (some ⟨q,0,none⟩) on qc) ({L0 with tight:=t}::acc)∧Below w.heap.size w wr∧Hid ((t&&((ls.take e1).drop k).all (fun x=> !af x))=TT)) (fun u21 _=>e1 - (intOf u21).toNat)
   case atStart=>exact ⟨0,true,rfl,Nat.zero_le _,HS0.out.1,HS0.out.2.1,zh (by rw [List.drop_zero,HTT.out];rfl)⟩
   case round=>
    rename World=>wt
    obtain ⟨k,t,rfl,hke,hown,hbw,HTK⟩:=hrel;by_cases hkl:k<e1
    ·have hk1:(k:Int)<(e1:Int):=(by omega);obtain ⟨XX,hx,hcl,hXXz,hXX9,_⟩:=(HH.out.below hbw).line k (by omega);have hkl2:(k:Int)<(ls.length:Int):=(by omega);have hbl:=cS XX (by omega);obtain ⟨bv,hbv⟩:∃b,af XX.data.toList=b:=⟨_,rfl⟩
     rw [hbv]at hbl;have HBL:=zh hbl;have hxe:(ls.take e1)[k]? =some XX.data.toList:=(by rw [List.getElem?_take,if_pos hkl,hx]);have hstep:=g9 hxe (fun x=> !af x);rw [hbv]at hstep;obtain ⟨hst,hqb,hfz,hco⟩:=fh hown false;have HST:=zh (And.intro hst (hbw.setCell (p:=⟨q,3,none⟩) hqb (.bool false)));have HOK:=zh (And.intro hown hbw);have HT2:=zh (show ((t&& !bv)&&((ls.take e1).drop (k+1)).all (fun x=> !af x))=TT by rw [<- HTK.out,hstep,Bool.and_assoc]);clear hbl hbv hx hxe hstep HTK hown hbw hst hqb hXX9;cases bv
     ·clear HST;go_wp2_with fail;refine (HBL.out _).mono ?_;rintro e w' ⟨rfl,hw'⟩;obtain rfl:=hw'.symm;clear hw';go_wp2_with fail;go_roundw;case rel=>exact ⟨k+1,t,by go_num,by omega,HOK.out.1,HOK.out.2,zh (by have:=HT2.out;simpa using this)⟩
      case measure=>simp [intOf];omega
     ·clear HOK;go_wp2_with fail;refine (HBL.out _).mono ?_;rintro e w' ⟨rfl,hw'⟩;obtain rfl:=hw'.symm;clear hw';go_wp2_with fail;go_roundw;case rel=>exact ⟨k+1,false,by go_num,by omega,HST.out.1,HST.out.2,zh (by have:=HT2.out;simpa using this)⟩
      case measure=>simp [intOf];omega
    ·have hk1:¬(k:Int)<(e1:Int):=(by omega);have HTE:=zh (show t=TT by
      have:=HTK.out;rw [List.drop_eq_nil_of_le (by rw [List.length_take];omega)]at this;simpa using this)
     have HOK:=zh (And.intro hown hbw);clear hown hbw HTK;go_wp2_with fail
     go_ret2
     refine ⟨.slice (some ⟨q,0,none⟩) on qc,rfl,?_,HOK.out.2⟩;have h1:=HOK.out.1;rw [HTE.out,HACC.out.1]at h1;rw [HLT.out];exact h1
end Go.Proofs.YtcannffahjbjnaaGreatDoor
