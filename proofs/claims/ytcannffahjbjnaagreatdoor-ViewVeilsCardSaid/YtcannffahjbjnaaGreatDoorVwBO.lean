import Derived.Test.YtcannffahjbjnaaGreatDoorVwBN
set_option linter.unusedVariables false
set_option linter.unusedSimpArgs false
set_option maxRecDepth 100000
set_option maxHeartbeats 64000000
namespace Go.Proofs.YtcannffahjbjnaaGreatDoor
open Go.RowKit
theorem Cb {d:Nat} {ls acc:List (List UInt8)} {k:Nat}:dc d (ls.drop ls.length) acc k=(acc,0,k):=by rw [List.drop_length];rfl
theorem xe {d:Nat} {ls acc:List (List UInt8)} {s:List UInt8} {i k:Nat} (h:ls[i]? =some s) (ha:acc≠[]) (hu:0<e6 s):dc d (ls.drop i) acc k=(acc,e6 s,k+1):=by
 obtain ⟨hi,rfl⟩:=List.getElem?_eq_some_iff.1 h;rw [List.drop_eq_getElem_cons hi,dc,if_pos ⟨ha,hu⟩]
theorem zU {d:Nat} {ls acc:List (List UInt8)} {s:List UInt8} {i k:Nat} (h:ls[i]? =some s) (ha:acc≠[]) (hu:¬0<e6 s) (he:iI d s=true):dc d (ls.drop i) acc k=(acc,0,k):=by
 obtain ⟨hi,rfl⟩:=List.getElem?_eq_some_iff.1 h;rw [List.drop_eq_getElem_cons hi,dc,if_neg (fun e=>hu e.2),if_pos ⟨ha,he⟩]
theorem sj {d:Nat} {ls acc:List (List UInt8)} {s:List UInt8} {i k:Nat} (h:ls[i]? =some s) (hc:acc=[]∨¬0<e6 s∧iI d s=false):dc d (ls.drop i) acc k=dc d (ls.drop (i+1)) (acc++[ak s]) (k+1):=by
 obtain ⟨hi,rfl⟩:=List.getElem?_eq_some_iff.1 h;rw [List.drop_eq_getElem_cons hi,dc];rcases hc with rfl|⟨hu,he⟩
 ·rw [if_neg (fun e=>e.1 rfl),if_neg (fun e=>e.1 rfl)]
 ·rw [if_neg (fun e=>hu e.2),if_neg (fun e=>by rw [he]at e;exact absurd e.2 (by simp))]
theorem jf:∀l:List (List UInt8),Lib.join l [10]=dJ l
 |[]=>rfl
 |[x]=>by simp [Lib.join,List.intercalate,dJ]
 |x::y::t=>by
  have ih:=jf (y::t);unfold Lib.join at ih⊢;rw [dJ,<- ih];simp [List.intercalate]
theorem je:∀l:List (List UInt8),(dJ l).length <= fD l
 |[]=>Nat.le_refl _
 |[x]=>by simp [dJ,fD,wt];omega
 |x::y::t=>by
  have ih:=je (y::t);rw [dJ];unfold fD wt at ih⊢;simp only [List.map_cons,List.sum_cons,List.length_append,List.length_cons]at ih⊢;omega
theorem yD (a b:List (List UInt8)):fD (a++b)=fD a+fD b:=by unfold fD;simp
def yp (d:Nat) (q:List (List UInt8)×Nat×Nat):aI:=if 0<q.2.1 then ⟨2,d,q.2.1,false,aD aM (dJ q.1),[]⟩else ⟨1,d,0,false,aD aM (dJ q.1),[]⟩
theorem lD {α:Type} {ls:List α} {i:Nat} {s:α} (h:ls[i]? =some s):ls.drop i=s::ls.drop (i+1):=by
 obtain ⟨hi,rfl⟩:=List.getElem?_eq_some_iff.1 h;exact List.drop_eq_getElem_cons hi
theorem EJ {B b:Nat} {w:World} {g o:Nat} {lcap:Nat} {ls:List (List UInt8)} {pos d:Nat} {ov:Value} {out:List aI} (h:eF B b w (some ⟨g,o,none⟩) lcap ls pos d ov out) (hp0:pos<ls.length):
  Calls Tryz.prog 166 #[.pointer (some ⟨b,0,none⟩)] w fun e w'=>e=.returned (.tuple #[])∧ct B b w (.slice (some ⟨g,o,none⟩) ls.length lcap) d ov (pos+(dc d (ls.drop pos) [] 0).2.2) (out++[yp d (dc d (ls.drop pos) [] 0)]) w':=by
 obtain ⟨is,hsi,hs0,hs1,hs2⟩:=info_parts ft;obtain ⟨q,hq⟩:∃q,dc d (ls.drop pos) [] 0=q:=⟨_,rfl⟩
 rw [hq];have HQ:=zh hq;have HH:=zh h;obtain ⟨c0,c1,c2,c3⟩:=h.pr.cells;have hll:=h.ll;have hdp:=h.dp;clear hq h;go_enter Tryz.func166,Tryz.ntmps166
 go_wp2_with fail;go_loopw [2,3] (fun u2 u3 wr=>∃(i:Nat) (acc:List (List UInt8)),pos <= i∧i <= ls.length∧u3=.int .i64 0∧eF B b wr (some ⟨g,o,none⟩) lcap ls i d ov out∧Kp B b ov w wr∧ah w.heap.size wr u2 acc∧dc d (ls.drop i) acc (i - pos)=q∧i=pos+acc.length∧fD acc+fD (ls.drop i) <= fD ls) (fun _ _ wr=>ls.length - (intOf ((wr.cell? ⟨b,1,none⟩).getD undef)).toNat)
 case atStart=>exact ⟨pos,[],Nat.le_refl _,by omega,rfl,HH.out,Kp.refl _ _ _ _,World.ownsRow_nil _ _ _ _,by rw [Nat.sub_self];exact HQ.out,rfl,by have:=eD ls pos;simp [fD]at this⊢;exact this⟩
 case round=>
  obtain ⟨i,acc,hpi,hil,rfl,hin,hkp,hown,hpq,hia,hta⟩:=hrel;clear c0 c1 c2 c3;obtain ⟨c0,c1,c2,c3⟩:=hin.pr.cells;have hal:acc.length <= 1000000:=(by omega);have c1w:=c1;have HIN:=zh hin;have HKP:=zh hkp;have HOWN:=zh hown;have HPQ:=zh hpq;have HTA:=zh (And.intro hta hia);clear hkp hown hpq hia hta c2 c3;by_cases hlt:i<ls.length
  ·have hltI:(i:Int)<(ls.length:Int):=(by omega);have hd:decide ((i:Int)<(ls.length:Int))=true:=decide_eq_true hltI;obtain ⟨X,hx,hcl,hXz⟩:=hin.line i hlt;have hXw:wt X.data.toList <= 1000000:=(by have:=tC (List.mem_of_getElem? hx);have:=hin.lt;omega);have hun:=fun W=>Ar X W hXz;have htl:=fun W=>DV X W;obtain ⟨U,hU⟩:∃U,e6 X.data.toList=U:=⟨_,rfl⟩
   obtain ⟨E,hE⟩:∃E,iI d X.data.toList=E:=⟨_,rfl⟩
   obtain ⟨Y,hY⟩:∃Y:ByteArray,(⟨(ak X.data.toList).toArray⟩:ByteArray)=Y:=⟨_,rfl⟩
   have hYl:Y.data.toList=ak X.data.toList:=(by rw [<- hY]);rw [hU]at hun;rw [hY]at htl;have HUN:=zh hun;have HTL:=zh htl;have HU:=zh hU;have HE:=zh hE;have HYL:=zh hYl;have HX:=zh hx;have HXW:=zh hXw;have ne:Nonempty (fF (Below wr.heap.size wr)):=⟨⟨wr,Below.refl _ _⟩⟩
   have e0:=ay c0;have e1:=ay c1;clear hun htl hU hE hY hYl hx hXw hin c0 c1 hcl;go_wp2_with fail;refine aE (R:=Below wr.heap.size wr) (by kernel_rfl) (by kernel_rfl) (Below.refl _ _).drew ?_;repeat (go_big_quiet_step (fail))
   refine wpQuiet_nil ?_;rintro w2 ⟨nq,hnq⟩;have hb2:Below wr.heap.size wr w2:=(by rw [hnq];exact nq.h);clear hnq nq e0 e1 ne;have HI2:=zh (HIN.out.below hb2);have HK2:=zh (HKP.out.step hb2 HH.out.hB);have HO2:=zh (ae HOWN.out hb2);obtain ⟨c0,c1,_,_⟩:=HI2.out.pr.cells;obtain ⟨X',hx',hcl,_⟩:=HI2.out.line i hlt;have hX':X'=X:=iC (Option.some.inj (hx'.symm.trans HX.out));rw [hX']at hcl;have ne:Nonempty (fF (Below w2.heap.size w2)):=⟨⟨w2,Below.refl _ _⟩⟩
   have e0:=ay c0;have e1:=ay c1;have e2:=ay hcl;clear HIN HKP HOWN hb2 hx' hX' hcl c0 c1;go_wp2_with fail;refine aE (R:=Below w2.heap.size w2) (by kernel_rfl) (by kernel_rfl) (Below.refl _ _).drew ?_;repeat (go_big_quiet_step (fail))
   refine wpQuiet_nil ?_;rintro w3 ⟨nq,hnq⟩;have hb3:Below w2.heap.size w2 w3:=(by rw [hnq];exact nq.h);clear hnq nq e0 e1 e2 ne;have HIN:=zh (HI2.out.below hb3);have HKP:=zh (HK2.out.step hb3 HH.out.hB);have HOWN:=zh (ae HO2.out hb3);clear HI2 HK2 HO2 hb3;obtain ⟨vao,vc,hv,_⟩:=ab HOWN.out;subst hv;by_cases ha:0<acc.length
   ·have hane:acc≠[]:=fun e=>by rw [e]at ha;exact absurd ha (by simp)
    have HANE:=zh hane;have haI:(0:Int)<(acc.length:Int):=(by omega);clear hane;go_wp2_with fail;refine (HUN.out _).mono ?_;rintro e w4 ⟨rfl,b4⟩;have HI4:=zh (HIN.out.below b4);have HK4:=zh (HKP.out.step b4 HH.out.hB);have HO4:=zh (ae HOWN.out b4);clear HIN HKP HOWN b4;by_cases hu:0<U
    ·have huI:(0:Int)<(U:Int):=(by omega);obtain ⟨c0,c1,_,_⟩:=HI4.out.pr.cells;have f1:=HI4.out.pr.frozen 1;have HQ2:=zh (show q=(acc,U,i - pos+1) by rw [<- HPQ.out,xe HX.out HANE.out (by rw [HU.out];exact hu),HU.out]);have HACC:=zh (show 0<acc.length∧fD acc <= 1000000 by have:=HTA.out;have:=HI4.out.lt;omega);have HUP:=zh hu;have HIN:=zh (HI4.out.setPos (i+1) (.int .i64 ((i:Int)+1)) (by go_num) (by omega));have HKP:=zh (HK4.out.setPos HH.out.pr.base (.int .i64 ((i:Int)+1)));have HOWN:=zh (show ah w.heap.size (w4.setCell ⟨b,1,none⟩ (.int .i64 ((i:Int)+1))) (Value.slice vao acc.length vc) acc from aF (a:=⟨b,1,none⟩) HO4.out HI4.out.pr.heap (by decide) _);obtain ⟨w5,hw5⟩:∃W,w4.setCell ⟨b,1,none⟩ (.int .i64 ((i:Int)+1))=W:=⟨_,rfl⟩
     rw [hw5]at HIN HKP HOWN;clear hu hpi ha haI c0 HI4 HK4 HO4;go_wp2_with fail;clear hw5 c1 f1;have hne2:0<acc.length:=HACC.out.1;obtain ⟨vao,vc,hv,hvr,_,hvle⟩:=ab HOWN.out;first|subst hv|(simp only [Value.slice.injEq,true_and]at hv;obtain ⟨hv1,hv2⟩:=hv;subst hv1;subst hv2)
     obtain ⟨g2,o2,hg2⟩:=aY.addr hvr hne2;subst hg2;have hjt:=je acc;have hj:=Tryz.strings_Join g2 o2 vc (acc.map fun l=>(⟨l.toArray⟩:ByteArray)) ⟨#[10]⟩ w5 (fun j x hx=>by
      rw [List.getElem?_map]at hx;obtain ⟨l,hl,rfl⟩:=Option.map_eq_some_iff.1 hx;exact bO.at' hvr j l hl) (World.block_lt_of_cell? _ _ (bO.at' hvr 0 _ (List.getElem?_eq_getElem hne2))) (by rw [List.length_map];omega) (by rw [List.length_map];exact hvle) (by
       rw [List.map_map,show ((fun x:ByteArray=>x.data.toList) ∘ fun l:List UInt8=>(⟨l.toArray⟩:ByteArray))=id from rfl,List.map_id,show (ByteArray.mk #[10]).data.toList=[10]from rfl,jf];have:=HACC.out.2;omega)
     rw [List.map_map,show ((fun x:ByteArray=>x.data.toList) ∘ fun l:List UInt8=>(⟨l.toArray⟩:ByteArray))=id from rfl,List.map_id,show (ByteArray.mk #[10]).data.toList=[10]from rfl,jf,List.length_map]at hj;obtain ⟨T,hT⟩:∃T:ByteArray,(⟨(dJ acc).toArray⟩:ByteArray)=T:=⟨_,rfl⟩
     have hTl:dJ acc=T.data.toList:=(by rw [<- hT]);have hTz:T.size <= 1000000:=(by rw [Lib.size_eq,<- hTl];have:=HACC.out.2;omega);rw [hT]at hj;have htr:=fun W=>nE T W (by omega);obtain ⟨TX,hU⟩:∃V:ByteArray,(⟨(aD aM T.data.toList).toArray⟩:ByteArray)=V:=⟨_,rfl⟩
     rw [hU]at htr;have hUl:aD aM (dJ acc)=TX.data.toList:=(by rw [hTl,<- hU]);have HJ:=zh hj;have HTR:=zh htr;have HUL:=zh hUl;clear hj htr hT hTl hU hUl hvr hjt;go_wp2_with fail;refine HJ.out.mono ?_;rintro e w5 ⟨rfl,b5⟩;have HI5:=zh (HIN.out.below b5);have HK5:=zh (HKP.out.step b5 HH.out.hB);clear b5;go_wp2_with fail;refine (HTR.out _).mono ?_;rintro e w6 ⟨rfl,b6⟩;have hi6:=HI5.out.below b6;have hk6:=HK5.out.step b6 HH.out.hB;have HI6:=zh hi6;have HK6:=zh hk6;clear b6 hi6 hk6 HI5 HK5 HIN HKP HOWN;go_wp2_with fail;have HB8:=zh (show Below w6.heap.size w6 (w6.alloc (.cells #[.int .i64 2,.int .i64 0,.int .i64 (U:Int),.bool false,.string TX,.string ⟨#[]⟩] 45))from (Below.refl _ _).alloc (Nat.le_refl _) _);refine (pR B b (.slice (some ⟨g,o,none⟩) ls.length lcap) ov (i+1) d out ⟨2,0,(U:Int),false,TX.data.toList,[]⟩ (w6.alloc (.cells #[.int .i64 2,.int .i64 0,.int .i64 (U:Int),.bool false,.string TX,.string ⟨#[]⟩] 45)) (HI6.out.below HB8.out).pr (by have:=HI6.out.ol;omega)).mono ?_;rintro e w9 ⟨rfl,hp9⟩;have HP:=zh (ct.trans (HK6.out.step HB8.out HH.out.hB) (Or.inl rfl) hp9);clear hp9;go_wp2_with fail
     go_end0
     refine ⟨rfl,?_⟩;have hp:=HP.out
     (rw [HQ2.out];unfold yp;rw [if_pos HUP.out];simp only;rw [HUL.out,show pos+(i - pos+1)=i+1 by have:=HTA.out.2;omega])
     exact hp
    ·have huI:¬(0:Int)<(U:Int):=(by omega);have hu0:U=0:=(by omega);subst hu0;go_wp2_with fail;refine (EE X HI4.out.pr hXz HXW.out hdp).mono ?_;rintro e w5 ⟨rfl,b5⟩;rw [HE.out];have HI5:=zh (HI4.out.below b5);have HK5:=zh (HK4.out.step b5 HH.out.hB);have HO5:=zh (ae HO4.out b5);clear HI4 HK4 HO4 b5;cases E
     ·have HMO:=zh (show dc d (ls.drop (i+1)) (acc++[ak X.data.toList]) (i+1 - pos)=q by
       rw [<- HPQ.out,sj HX.out (Or.inr ⟨by rw [HU.out];omega,HE.out⟩),show i+1 - pos=i - pos+1 by omega])
      have HIN:=HI5;have HKP:=HK5;have HOWN:=HO5;clear HI5 HK5 HO5;go_wp2_with fail;refine (HTL.out _).mono ?_;rintro e w6 ⟨rfl,b6⟩;have HI6:=zh (HIN.out.below b6);have HK6:=zh (HKP.out.step b6 HH.out.hB);have HO6:=zh (ae HOWN.out b6);clear HIN HKP HOWN b6
      go_wp2_with (first
       |(at_builtin;refine wpList_append_own _ rfl _ _ 22 rfl w.heap.size 9 is (.string ⟨#[]⟩) 1 16 Tryz.underlying22 hsi hs0 hs1 hs2 rfl (by decide) _ _ _ rfl (World.ownsRow.alloc HO6.out _) ⟨w6.heap.size,0,none⟩ 1 1 [.string Y] rfl rfl ?c1 ?c2 ?c3 ?c4 ?c5 ?_))
      case c1=>exact aL _ _ _ _ rfl
      case c2=>intro u hu;simp at hu;rcases hu with rfl;rfl
      case c3=>unfold maxLen;omega
      case c4=>omega
      case c5=>have:=HK6.out.below.size;have:=HH.out.hB;simp;have:=(World.ownsRow.lt HO6.out);have:=HK6.out.below.size;omega
      intro v7 w7 hown7 hgrow _;have hg1:=(World.grownBy_alloc w6 (.cells #[.string Y] 9) (Value.slice vao acc.length vc).ownBlock).trans hgrow;have hO7:=ah.snoc hown7 HYL.out;have HI7:=zh (HI6.out.grownS HO6.out HH.out.hB hg1);have HK7:=zh (HK6.out.grownS HH.out.hB HO6.out hg1);have HO7:=zh hO7;obtain ⟨_,c1,_,_⟩:=HI7.out.pr.cells;have f1:=HI7.out.pr.frozen 1;clear hgrow hg1 hO7 hown7 HI6 HK6 HO6;go_wp2_with fail;go_roundw
      case rel=>
       refine ⟨i+1,acc++[ak X.data.toList],by omega,by omega,rfl,HI7.out.setPos (i+1) _ (by go_num) (by omega),HK7.out.setPos HH.out.pr.base _,?_,HMO.out,?_,?_⟩
       ·exact aF (a:=⟨b,1,none⟩) HO7.out HI7.out.pr.heap (by decide) _
       ·rw [List.length_append];have:=HTA.out.2;simp;omega
       ·have h1:=HTA.out.1;rw [lD HX.out]at h1;rw [yD];have h2:wt (ak X.data.toList) <= wt X.data.toList:=fC _ _;unfold fD at h1⊢;simp only [List.map_cons,List.map_nil,List.sum_cons,List.sum_nil]at h1⊢;omega
      case measure=>
       have h1:=(HI7.out.setPos (i+1) (.int .i64 ((i:Int)+1)) (by go_num) (by omega)).pr.cells.2.1;simp only [h1,c1w,Option.getD_some,intOf];omega
     ·have HQ2:=zh (show q=(acc,0,i - pos) by rw [<- HPQ.out];exact zU HX.out HANE.out (by rw [HU.out];omega) HE.out);have HACC:=zh (show 0<acc.length∧fD acc <= 1000000 by have:=HTA.out;have:=HI5.out.lt;omega);have HIN:=HI5;have HKP:=HK5;have HOWN:=HO5;clear HI5 HK5 HO5 hpi ha haI;have hne2:0<acc.length:=HACC.out.1;obtain ⟨vao,vc,hv,hvr,_,hvle⟩:=ab HOWN.out;first|subst hv|(simp only [Value.slice.injEq,true_and]at hv;obtain ⟨hv1,hv2⟩:=hv;subst hv1;subst hv2)
      obtain ⟨g2,o2,hg2⟩:=aY.addr hvr hne2;subst hg2;have hjt:=je acc;have hj:=Tryz.strings_Join g2 o2 vc (acc.map fun l=>(⟨l.toArray⟩:ByteArray)) ⟨#[10]⟩ w5 (fun j x hx=>by
       rw [List.getElem?_map]at hx;obtain ⟨l,hl,rfl⟩:=Option.map_eq_some_iff.1 hx;exact bO.at' hvr j l hl) (World.block_lt_of_cell? _ _ (bO.at' hvr 0 _ (List.getElem?_eq_getElem hne2))) (by rw [List.length_map];omega) (by rw [List.length_map];exact hvle) (by
        rw [List.map_map,show ((fun x:ByteArray=>x.data.toList) ∘ fun l:List UInt8=>(⟨l.toArray⟩:ByteArray))=id from rfl,List.map_id,show (ByteArray.mk #[10]).data.toList=[10]from rfl,jf];have:=HACC.out.2;omega)
      rw [List.map_map,show ((fun x:ByteArray=>x.data.toList) ∘ fun l:List UInt8=>(⟨l.toArray⟩:ByteArray))=id from rfl,List.map_id,show (ByteArray.mk #[10]).data.toList=[10]from rfl,jf,List.length_map]at hj;obtain ⟨T,hT⟩:∃T:ByteArray,(⟨(dJ acc).toArray⟩:ByteArray)=T:=⟨_,rfl⟩
      have hTl:dJ acc=T.data.toList:=(by rw [<- hT]);have hTz:T.size <= 1000000:=(by rw [Lib.size_eq,<- hTl];have:=HACC.out.2;omega);rw [hT]at hj;have htr:=fun W=>nE T W (by omega);obtain ⟨TX,hU⟩:∃V:ByteArray,(⟨(aD aM T.data.toList).toArray⟩:ByteArray)=V:=⟨_,rfl⟩
      rw [hU]at htr;have hUl:aD aM (dJ acc)=TX.data.toList:=(by rw [hTl,<- hU]);have HJ:=zh hj;have HTR:=zh htr;have HUL:=zh hUl;clear hj htr hT hTl hU hUl hvr hjt;go_wp2_with fail;refine HJ.out.mono ?_;rintro e w5 ⟨rfl,b5⟩;have HI5:=zh (HIN.out.below b5);have HK5:=zh (HKP.out.step b5 HH.out.hB);clear b5;go_wp2_with fail;refine (HTR.out _).mono ?_;rintro e w6 ⟨rfl,b6⟩;have hi6:=HI5.out.below b6;have hk6:=HK5.out.step b6 HH.out.hB;have HI6:=zh hi6;have HK6:=zh hk6;clear b6 hi6 hk6 HI5 HK5 HIN HKP HOWN;go_wp2_with fail;have HB8:=zh (show Below w6.heap.size w6 (w6.alloc (.cells #[.int .i64 1,.int .i64 0,.int .i64 0,.bool false,.string TX,.string ⟨#[]⟩] 45))from (Below.refl _ _).alloc (Nat.le_refl _) _);refine (pR B b (.slice (some ⟨g,o,none⟩) ls.length lcap) ov i d out ⟨1,0,0,false,TX.data.toList,[]⟩ (w6.alloc (.cells #[.int .i64 1,.int .i64 0,.int .i64 0,.bool false,.string TX,.string ⟨#[]⟩] 45)) (HI6.out.below HB8.out).pr (by have:=HI6.out.ol;omega)).mono ?_;rintro e w9 ⟨rfl,hp9⟩;have HP:=zh (ct.trans (HK6.out.step HB8.out HH.out.hB) (Or.inl rfl) hp9);clear hp9;go_wp2_with fail
      go_end0
      refine ⟨rfl,?_⟩;have hp:=HP.out
      (rw [HQ2.out];unfold yp;rw [if_neg (by simp)];simp only;rw [HUL.out,show pos+(i - pos)=i by have:=HTA.out.2;omega])
      exact hp
   ·have hae:acc=[]:=List.eq_nil_of_length_eq_zero (by omega);have HMO:=zh (show dc d (ls.drop (i+1)) (acc++[ak X.data.toList]) (i+1 - pos)=q by
     rw [<- HPQ.out,sj HX.out (Or.inl hae),show i+1 - pos=i - pos+1 by omega])
    have haI:¬(0:Int)<(acc.length:Int):=(by omega);clear hae;go_wp2_with fail;refine (HTL.out _).mono ?_;rintro e w6 ⟨rfl,b6⟩;have HI6:=zh (HIN.out.below b6);have HK6:=zh (HKP.out.step b6 HH.out.hB);have HO6:=zh (ae HOWN.out b6);clear HIN HKP HOWN b6
    go_wp2_with (first
     |(at_builtin;refine wpList_append_own _ rfl _ _ 22 rfl w.heap.size 9 is (.string ⟨#[]⟩) 1 16 Tryz.underlying22 hsi hs0 hs1 hs2 rfl (by decide) _ _ _ rfl (World.ownsRow.alloc HO6.out _) ⟨w6.heap.size,0,none⟩ 1 1 [.string Y] rfl rfl ?c1 ?c2 ?c3 ?c4 ?c5 ?_))
    case c1=>exact aL _ _ _ _ rfl
    case c2=>intro u hu;simp at hu;rcases hu with rfl;rfl
    case c3=>unfold maxLen;omega
    case c4=>omega
    case c5=>have:=HK6.out.below.size;have:=HH.out.hB;simp;have:=(World.ownsRow.lt HO6.out);have:=HK6.out.below.size;omega
    intro v7 w7 hown7 hgrow _;have hg1:=(World.grownBy_alloc w6 (.cells #[.string Y] 9) (Value.slice vao acc.length vc).ownBlock).trans hgrow;have hO7:=ah.snoc hown7 HYL.out;have HI7:=zh (HI6.out.grownS HO6.out HH.out.hB hg1);have HK7:=zh (HK6.out.grownS HH.out.hB HO6.out hg1);have HO7:=zh hO7;obtain ⟨_,c1,_,_⟩:=HI7.out.pr.cells;have f1:=HI7.out.pr.frozen 1;clear hgrow hg1 hO7 hown7 HI6 HK6 HO6;go_wp2_with fail;go_roundw
    case rel=>
     refine ⟨i+1,acc++[ak X.data.toList],by omega,by omega,rfl,HI7.out.setPos (i+1) _ (by go_num) (by omega),HK7.out.setPos HH.out.pr.base _,?_,HMO.out,?_,?_⟩
     ·exact aF (a:=⟨b,1,none⟩) HO7.out HI7.out.pr.heap (by decide) _
     ·rw [List.length_append];have:=HTA.out.2;simp;omega
     ·have h1:=HTA.out.1;rw [lD HX.out]at h1;rw [yD];have h2:wt (ak X.data.toList) <= wt X.data.toList:=fC _ _;unfold fD at h1⊢;simp only [List.map_cons,List.map_nil,List.sum_cons,List.sum_nil]at h1⊢;omega
    case measure=>
     have h1:=(HI7.out.setPos (i+1) (.int .i64 ((i:Int)+1)) (by go_num) (by omega)).pr.cells.2.1;simp only [h1,c1w,Option.getD_some,intOf];omega
  ·have hie:i=ls.length:=(by omega);have hd:decide ((i:Int)<(ls.length:Int))=false:=(by rw [hie];simp);have hQ:q=(acc,0,i - pos):=(by rw [<- HPQ.out,hie];exact Cb);have HACC:=zh (show 0<acc.length∧fD acc <= 1000000 by have:=HTA.out;have:=hin.lt;omega);have ne:Nonempty (fF (Below wr.heap.size wr)):=⟨⟨wr,Below.refl _ _⟩⟩
   have e0:=ay c0;have e1:=ay c1;have HQ2:=zh hQ;clear hin c0 c1 hie hQ;go_wp2_with fail;refine aE (R:=Below wr.heap.size wr) (by kernel_rfl) (by kernel_rfl) (Below.refl _ _).drew ?_;repeat (go_big_quiet_step (fail))
   refine wpQuiet_nil ?_;rintro w2 ⟨nq,hnq⟩;have hb2:Below wr.heap.size wr w2:=(by rw [hnq];exact nq.h);clear hnq nq e0 e1 ne;have HI2:=zh (HIN.out.below hb2);have HK2:=zh (HKP.out.step hb2 HH.out.hB);have HO2:=zh (ae HOWN.out hb2);clear HIN HKP HOWN hb2;have HIN:=HI2;have HKP:=HK2;have HOWN:=HO2;clear HI2 HK2 HO2 hpi;have hne2:0<acc.length:=HACC.out.1;obtain ⟨vao,vc,hv,hvr,_,hvle⟩:=ab HOWN.out;first|subst hv|(simp only [Value.slice.injEq,true_and]at hv;obtain ⟨hv1,hv2⟩:=hv;subst hv1;subst hv2)
   obtain ⟨g2,o2,hg2⟩:=aY.addr hvr hne2;subst hg2;have hjt:=je acc;have hj:=Tryz.strings_Join g2 o2 vc (acc.map fun l=>(⟨l.toArray⟩:ByteArray)) ⟨#[10]⟩ w2 (fun j x hx=>by
    rw [List.getElem?_map]at hx;obtain ⟨l,hl,rfl⟩:=Option.map_eq_some_iff.1 hx;exact bO.at' hvr j l hl) (World.block_lt_of_cell? _ _ (bO.at' hvr 0 _ (List.getElem?_eq_getElem hne2))) (by rw [List.length_map];omega) (by rw [List.length_map];exact hvle) (by
     rw [List.map_map,show ((fun x:ByteArray=>x.data.toList) ∘ fun l:List UInt8=>(⟨l.toArray⟩:ByteArray))=id from rfl,List.map_id,show (ByteArray.mk #[10]).data.toList=[10]from rfl,jf];have:=HACC.out.2;omega)
   rw [List.map_map,show ((fun x:ByteArray=>x.data.toList) ∘ fun l:List UInt8=>(⟨l.toArray⟩:ByteArray))=id from rfl,List.map_id,show (ByteArray.mk #[10]).data.toList=[10]from rfl,jf,List.length_map]at hj;obtain ⟨T,hT⟩:∃T:ByteArray,(⟨(dJ acc).toArray⟩:ByteArray)=T:=⟨_,rfl⟩
   have hTl:dJ acc=T.data.toList:=(by rw [<- hT]);have hTz:T.size <= 1000000:=(by rw [Lib.size_eq,<- hTl];have:=HACC.out.2;omega);rw [hT]at hj;have htr:=fun W=>nE T W (by omega);obtain ⟨TX,hU⟩:∃V:ByteArray,(⟨(aD aM T.data.toList).toArray⟩:ByteArray)=V:=⟨_,rfl⟩
   rw [hU]at htr;have hUl:aD aM (dJ acc)=TX.data.toList:=(by rw [hTl,<- hU]);have HJ:=zh hj;have HTR:=zh htr;have HUL:=zh hUl;clear hj htr hT hTl hU hUl hvr hjt;go_wp2_with fail;refine HJ.out.mono ?_;rintro e w5 ⟨rfl,b5⟩;have HI5:=zh (HIN.out.below b5);have HK5:=zh (HKP.out.step b5 HH.out.hB);clear b5;go_wp2_with fail;refine (HTR.out _).mono ?_;rintro e w6 ⟨rfl,b6⟩;have hi6:=HI5.out.below b6;have hk6:=HK5.out.step b6 HH.out.hB;have HI6:=zh hi6;have HK6:=zh hk6;clear b6 hi6 hk6 HI5 HK5 HIN HKP HOWN;go_wp2_with fail;have HB8:=zh (show Below w6.heap.size w6 (w6.alloc (.cells #[.int .i64 1,.int .i64 0,.int .i64 0,.bool false,.string TX,.string ⟨#[]⟩] 45))from (Below.refl _ _).alloc (Nat.le_refl _) _);refine (pR B b (.slice (some ⟨g,o,none⟩) ls.length lcap) ov i d out ⟨1,0,0,false,TX.data.toList,[]⟩ (w6.alloc (.cells #[.int .i64 1,.int .i64 0,.int .i64 0,.bool false,.string TX,.string ⟨#[]⟩] 45)) (HI6.out.below HB8.out).pr (by have:=HI6.out.ol;omega)).mono ?_;rintro e w9 ⟨rfl,hp9⟩;have HP:=zh (ct.trans (HK6.out.step HB8.out HH.out.hB) (Or.inl rfl) hp9);clear hp9;go_wp2_with fail
   go_end0
   refine ⟨rfl,?_⟩;have hp:=HP.out
   (rw [HQ2.out];unfold yp;rw [if_neg (by simp)];simp only;rw [HUL.out,show pos+(i - pos)=i by have:=HTA.out.2;omega])
   exact hp
def xL (V:Nat ->List (List UInt8) ->List aI) (d:Nat):Prop:=
 ∀(B b:Nat) (w:World) (g o lcap:Nat) (ls:List (List UInt8)) (pos:Nat) (ov:Value) (out:List aI),eF B b w (some ⟨g,o,none⟩) lcap ls pos d ov out ->pos<ls.length ->(aH (da (ls.drop pos) 0)).2.2.2.2=true ->out.length+30*(ls.length - pos)+30 <= 100000000 ->
  Calls Tryz.prog 163 #[.pointer (some ⟨b,0,none⟩)] w fun e w'=>e=.returned (.tuple #[])∧ct B b w (.slice (some ⟨g,o,none⟩) ls.length lcap) d ov (pos+(bq V d (aH (da (ls.drop pos) 0)).1 (ls.drop pos) ((ls.drop pos).length+1) 0 0).2)
   (out++⟨4,d,(aH (da (ls.drop pos) 0)).2.1,((ls.drop pos).take (bq V d (aH (da (ls.drop pos) 0)).1 (ls.drop pos) ((ls.drop pos).length+1) 0 0).2).all (fun x=> !aJ x),[],[(aH (da (ls.drop pos) 0)).1]⟩::(bq V d (aH (da (ls.drop pos) 0)).1 (ls.drop pos) ((ls.drop pos).length+1) 0 0).1) w'
theorem tZ {s:List UInt8} (h:(cU s).2.2.2=true):(cU s).1.toNat<128∧(cU s).2.1 <= s.length:=by
 unfold cU at h⊢;simp only at h⊢;cases hh:(ak s).head? with
 |none=>rw [hh]at h;cases h
 |some c=>
  rw [hh]at h;simp only at h⊢;split at h
  ·cases h
  ·rename_i h1;split at h
   ·cases h
   ·rename_i h2;rw [if_neg h1,if_neg h2];simp only;refine ⟨?_,Nat.le_trans (nr _ _) (eA _)⟩;have hc:c=96∨c=126:=by
     by_cases a:c=96
     ·exact Or.inl a
     ·by_cases b:c=126
      ·exact Or.inr b
      ·exact absurd (Or.inr ⟨a,b⟩) h1
    rcases hc with rfl|rfl<;>decide
theorem kt {ls:List (List UInt8)} {s:List UInt8} {i d:Nat} (h:ls[i]? =some s) (hq:dX d s=true):0<(a6 (ls.drop i)).length:=by
 rw [uR h (by unfold dX at hq;simp at hq;exact hq.1)];simp
theorem oL {ls:List (List UInt8)} {s:List UInt8} {i:Nat} (h:ls[i]? =some s):da (ls.drop i) 0=s:=by
 unfold da;rw [List.getElem?_drop,Nat.add_zero,h];rfl
theorem EI (V:Nat ->List (List UInt8) ->List aI) {B b:Nat} {w:World} {g o:Nat} {lcap:Nat} {ls:List (List UInt8)} {pos d:Nat} {ov:Value} {out:List aI} (h:eF B b w (some ⟨g,o,none⟩) lcap ls pos d ov out) (hp0:pos<ls.length) (hol:out.length+30*(ls.length - pos)+30 <= 100000000)
  (HW1:d<12 ->fN V (d+1)) (HLC:d<11 ->xL V d):
  Calls Tryz.prog 125 #[.pointer (some ⟨b,0,none⟩)] w fun e w'=>e=.returned (.tuple #[])∧ct B b w (.slice (some ⟨g,o,none⟩) ls.length lcap) d ov (pos+(dq V d (ls.drop pos)).2) (out++(dq V d (ls.drop pos)).1) w':=by
 obtain ⟨nb,hnb⟩:∃x,dq V d (ls.drop pos)=x:=⟨_,rfl⟩
 rw [hnb];obtain ⟨X,hx,hcl,hXz⟩:=h.line pos hp0;have hXw:wt X.data.toList <= 1000000:=(by have:=tC (List.mem_of_getElem? hx);have:=h.lt;omega);have hz:=oL hx;unfold dq at hnb;simp only at hnb;rw [hz]at hnb;have hqp:=kt (d:=d) hx;have HFE:=zh (fun W=>rG X W hXz);have HHE:=zh (fun W=>oH X W hXz);have HBL:=zh (fun W=>dZ X W (by omega));have HID:=zh (fun W=>gB X W hXz);have HRU:=zh (fun W=>qB X W hXz);have HHT:=zh (fun W=>Bw X W hXz);have hfc:=tZ (s:=X.data.toList);obtain ⟨fc,fn,fi,F,hfe⟩:∃a b c e,cU X.data.toList=(a,b,c,e):=⟨_,_,_,_,rfl⟩
 obtain ⟨h1,h2,H,hhe⟩:∃a b e,eK X.data.toList=(a,b,e):=⟨_,_,_,rfl⟩
 rw [hfe]at HFE hnb hfc;rw [hhe]at HHE hnb;simp only at HFE HHE hnb hfc;have hIb:=lU X.data.toList 0;rw [<- Lib.size_eq]at hIb;change bz X.data.toList <= _ at hIb;obtain ⟨BB,hBB⟩:∃x,aJ X.data.toList=x:=⟨_,rfl⟩
 obtain ⟨I,hI⟩:∃x,bz X.data.toList=x:=⟨_,rfl⟩
 obtain ⟨R,hR⟩:∃x,fA X.data.toList=x:=⟨_,rfl⟩
 obtain ⟨T,hT⟩:∃x,jA X.data.toList=x:=⟨_,rfl⟩
 obtain ⟨QP,hQP⟩:∃x,dX d X.data.toList=x:=⟨_,rfl⟩
 obtain ⟨LP,hLP⟩:∃x,ep d X.data.toList=x:=⟨_,rfl⟩
 rw [hBB]at HBL hnb;rw [hI]at HID hnb hIb;rw [hR]at HRU hnb;rw [hT]at HHT hnb;rw [hQP]at hnb hqp;rw [hLP]at hnb;obtain ⟨FI,hFI⟩:∃Y:ByteArray,(⟨fi.toArray⟩:ByteArray)=Y:=⟨_,rfl⟩
 have hFIl:fi=FI.data.toList:=(by rw [<- hFI]);obtain ⟨HT,hHT⟩:∃Y:ByteArray,(⟨h2.toArray⟩:ByteArray)=Y:=⟨_,rfl⟩
 have hHTl:h2=HT.data.toList:=(by rw [<- hHT]);rw [hFI]at HFE;rw [hHT]at HHE;rw [hFIl,hHTl]at hnb;have hsz:X.data.toList.length <= 1000000:=(by rw [<- Lib.size_eq];exact hXz);have HH:=zh h;have HNB:=zh hnb;have HX:=zh hx;have HQP:=zh hQP;have HLP:=zh hLP;have HLZ:=zh hz;have HFC:=zh hfc;have HQQ:=zh hqp;have hdp:=h.dp;have hll:=h.ll;have hlx:=h.lc;obtain ⟨c0,c1,_,_⟩:=h.pr.cells;have ne:Nonempty (fF (Below w.heap.size w)):=⟨⟨w,Below.refl _ _⟩⟩
 have e0:=ay c0;have e1:=ay c1;have e2:=ay hcl;have HOL:=zh hol;have HW1:=zh HW1;have HLC:=zh HLC;clear hnb hx hz hqp hfc hfe hhe hBB hI hR hT hQP hLP hFI hFIl hHT hHTl h c0 c1 hcl hol;go_enter Tryz.func125,Tryz.ntmps125
 go_wp2_with fail;refine aE (R:=Below w.heap.size w) (by kernel_rfl) (by kernel_rfl) (Below.refl _ _).drew ?_;repeat (go_big_quiet_step (fail))
 refine wpQuiet_nil ?_;rintro w2 ⟨nq,hnq⟩;have hb2:Below w.heap.size w w2:=(by rw [hnq];exact nq.h);clear hnq nq e0 e1 e2 ne;have HI2:=zh (HH.out.below hb2);have HK2:=zh (Kp.of_below (b:=b) (ov:=ov) hb2 HH.out.hB);clear hb2;go_wp2_with fail;refine ((HFE.out _)).mono ?_;rintro e w3 ⟨rfl,bb⟩;have HI3:=zh ((HI2).out.below bb);have HK3:=zh ((HK2).out.step bb HH.out.hB);clear bb HI2 HK2;go_wp2_with fail;refine ((HHE.out _)).mono ?_;rintro e w4 ⟨rfl,bb⟩;have HI4:=zh ((HI3).out.below bb);have HK4:=zh ((HK3).out.step bb HH.out.hB);clear bb HI3 HK3;go_wp2_with fail;refine ((HBL.out _)).mono ?_;rintro e w5 ⟨rfl,bb⟩;have HI5:=zh ((HI4).out.below bb);have HK5:=zh ((HK4).out.step bb HH.out.hB);clear bb HI4 HK4;cases BB
 ·go_wp2_with fail;refine ((HID.out _)).mono ?_;rintro e w6 ⟨rfl,bb⟩;have HI6:=zh ((HI5).out.below bb);have HK6:=zh ((HK5).out.step bb HH.out.hB);clear bb HI5 HK5;by_cases h4:4 <= I
  ·have q4:(4:Int) <= (I:Int):=(by omega);have HN:=zh (show nb=_ by rw [<- HNB.out,if_neg (by simp),if_pos h4]);clear HNB;go_wp2_with fail;refine (yP HI6.out hp0).mono ?_;rintro e wz ⟨rfl,hpz⟩;have HP:=zh (ct.trans (HK6).out (Or.inl rfl) hpz);clear hpz;go_wp2_with fail
   go_end0
   refine ⟨rfl,?_⟩;have hp:=HP.out;rw [HN.out]
   skip
   exact hp
  ·have q4:¬(4:Int) <= (I:Int):=(by omega);cases F
   ·cases H
    ·go_wp2_with fail;refine ((HRU.out _)).mono ?_;rintro e w7 ⟨rfl,bb⟩;have HI7:=zh ((HI6).out.below bb);have HK7:=zh ((HK6).out.step bb HH.out.hB);clear bb HI6 HK6;cases R
     ·go_wp2_with fail;refine (xW X HI7.out.pr hXz hdp).mono ?_;rintro e w8 ⟨rfl,bb⟩;rw [HQP.out];have HI8:=zh (HI7.out.below bb);have HK8:=zh (HK7.out.step bb HH.out.hB);clear bb HI7 HK7;cases QP
      ·go_wp2_with fail;refine (A4 X HI8.out.pr hXz hdp).mono ?_;rintro e w9 ⟨rfl,bb⟩;rw [HLP.out];have HI9:=zh (HI8.out.below bb);have HK9:=zh (HK8.out.step bb HH.out.hB);clear bb HI8 HK8;cases LP
       ·go_wp2_with fail;refine ((HHT.out _)).mono ?_;rintro e w10 ⟨rfl,bb⟩;have HI10:=zh ((HI9).out.below bb);have HK10:=zh ((HK9).out.step bb HH.out.hB);clear bb HI9 HK9;cases T
        ·have HN:=zh (show nb=_ by rw [<- HNB.out,if_neg (by simp),if_neg h4,if_neg (by simp),if_neg (by simp),if_neg (by simp),if_neg (by simp),if_neg (by simp),if_neg (by simp)]);clear HNB;go_wp2_with fail;refine (EJ HI10.out hp0).mono ?_;rintro e wz ⟨rfl,hpz⟩;have HP:=zh (ct.trans (HK10).out (Or.inl rfl) hpz);clear hpz;go_wp2_with fail
         go_end0
         refine ⟨rfl,?_⟩;have hp:=HP.out;rw [HN.out]
         skip
         exact hp
        ·have HN:=zh (show nb=_ by rw [<- HNB.out,if_neg (by simp),if_neg h4,if_neg (by simp),if_neg (by simp),if_neg (by simp),if_neg (by simp),if_neg (by simp),if_pos rfl]);clear HNB;go_wp2_with fail;refine (E4 HI10.out hp0).mono ?_;rintro e wz ⟨rfl,hpz⟩;have HP:=zh (ct.trans (HK10).out (Or.inl rfl) hpz);clear hpz;go_wp2_with fail
         go_end0
         refine ⟨rfl,?_⟩;have hp:=HP.out;rw [HN.out]
         skip
         exact hp
       ·have hl:=HLP.out;unfold ep at hl;simp only [Bool.and_eq_true,decide_eq_true_eq]at hl;have HN:=zh (show nb=_ by rw [<- HNB.out,if_neg (by simp),if_neg h4,if_neg (by simp),if_neg (by simp),if_neg (by simp),if_neg (by simp),if_pos rfl]);have HCL:=zh (HLC.out hl.2 B b w9 g o lcap ls pos ov out HI9.out hp0 (by rw [HLZ.out];exact hl.1) HOL.out);clear HNB hl;go_wp2_with fail;refine HCL.out.mono ?_;rintro e wz ⟨rfl,hpz⟩;have HP:=zh (ct.trans (HK9).out (Or.inl rfl) hpz);clear hpz;go_wp2_with fail
        go_end0
        refine ⟨rfl,?_⟩;have hp:=HP.out;rw [HN.out]
        (rw [HLZ.out]at hp)
        exact hp
      ·have hl:=HQP.out;unfold dX at hl;simp only [Bool.and_eq_true,decide_eq_true_eq]at hl;have HN:=zh (show nb=_ by rw [<- HNB.out,if_neg (by simp),if_neg h4,if_neg (by simp),if_neg (by simp),if_neg (by simp),if_pos rfl]);have HQC:=zh (D9 V HI8.out (by omega) hl.2 (HW1.out hl.2) (HQQ.out rfl));clear HNB hl;go_wp2_with fail;refine HQC.out.mono ?_;rintro e wz ⟨rfl,hpz⟩;have HP:=zh (ct.trans (HK8).out (Or.inl rfl) hpz);clear hpz;go_wp2_with fail
       go_end0
       refine ⟨rfl,?_⟩;have hp:=HP.out;rw [HN.out]
       skip
       exact hp
     ·have HN:=zh (show nb=_ by rw [<- HNB.out,if_neg (by simp),if_neg h4,if_neg (by simp),if_neg (by simp),if_pos rfl]);obtain ⟨_,c1,_,_⟩:=HI7.out.pr.cells;have f1:=HI7.out.pr.frozen 1;have HIS:=zh (HI7.out.setPos (pos+1) (.int .i64 ((pos:Int)+1)) (by go_num) (by omega));have HKS:=zh (HK7.out.setPos HH.out.pr.base (.int .i64 ((pos:Int)+1)));clear HNB;go_wp2_with fail;refine (pR B b (.slice (some ⟨g,o,none⟩) ls.length lcap) ov (pos+1) d out ⟨7,0,0,false,[],[]⟩ _ HIS.out.pr (by have:=HIS.out.ol;omega)).mono ?_;rintro e wz ⟨rfl,hpz⟩;have HP:=zh (ct.trans (HKS).out (Or.inl rfl) hpz);clear hpz;go_wp2_with fail
      go_end0
      refine ⟨rfl,?_⟩;have hp:=HP.out;rw [HN.out]
      skip
      exact hp
    ·have HN:=zh (show nb=_ by rw [<- HNB.out,if_neg (by simp),if_neg h4,if_neg (by simp),if_pos rfl]);obtain ⟨_,c1,_,_⟩:=HI6.out.pr.cells;have f1:=HI6.out.pr.frozen 1;have HIS:=zh (HI6.out.setPos (pos+1) (.int .i64 ((pos:Int)+1)) (by go_num) (by omega));have HKS:=zh (HK6.out.setPos HH.out.pr.base (.int .i64 ((pos:Int)+1)));clear HNB;go_wp2_with fail;refine (pR B b (.slice (some ⟨g,o,none⟩) ls.length lcap) ov (pos+1) d out ⟨2,0,(h1:Int),false,HT.data.toList,[]⟩ _ HIS.out.pr (by have:=HIS.out.ol;omega)).mono ?_;rintro e wz ⟨rfl,hpz⟩;have HP:=zh (ct.trans (HKS).out (Or.inl rfl) hpz);clear hpz;go_wp2_with fail
     go_end0
     refine ⟨rfl,?_⟩;have hp:=HP.out;rw [HN.out]
     skip
     exact hp
   ·have hfc:=HFC.out rfl;have HN:=zh (show nb=_ by rw [<- HNB.out,if_neg (by simp),if_neg h4,if_pos rfl]);obtain ⟨_,c1,_,_⟩:=HI6.out.pr.cells;have f1:=HI6.out.pr.frozen 1;have HIS:=zh (HI6.out.setPos (pos+1) (.int .i64 ((pos:Int)+1)) (by go_num) (by omega));have HKS:=zh (HK6.out.setPos HH.out.pr.base (.int .i64 ((pos:Int)+1)));obtain ⟨wS,hwS⟩:∃W,w6.setCell ⟨b,1,none⟩ (.int .i64 ((pos:Int)+1))=W:=⟨_,rfl⟩
    rw [hwS]at HIS HKS;clear HNB;go_wp2_with fail;clear hwS c1 f1;refine (HID.out _).mono ?_;rintro e w7 ⟨rfl,bb⟩;have HI7:=zh (HIS.out.below bb);have HK7:=zh (HKS.out.step bb HH.out.hB);clear bb HIS HKS;go_wp2_with fail;refine (C9 fc fn FI I HI7.out (by omega) hfc.1 (by omega) (by omega)).mono ?_;rintro e wz ⟨rfl,hpz⟩;have HP:=zh (ct.trans (HK7).out (Or.inl rfl) hpz);clear hpz;go_wp2_with fail
    go_end0
    refine ⟨rfl,?_⟩;have hp:=HP.out;rw [HN.out]
    (rw [show pos+1+mP fc fn (ls.drop (pos+1))+1=pos+(mP fc fn (ls.drop (pos+1))+2) by omega]at hp;rw [List.drop_drop])
    exact hp
 ·have HN:=zh (show nb=_ by rw [<- HNB.out,if_pos rfl]);obtain ⟨_,c1,_,_⟩:=HI5.out.pr.cells;have f1:=HI5.out.pr.frozen 1;have HIS:=zh (HI5.out.setPos (pos+1) (.int .i64 ((pos:Int)+1)) (by go_num) (by omega));have HKS:=zh (HK5.out.setPos HH.out.pr.base (.int .i64 ((pos:Int)+1)));clear HNB;go_wp2_with fail
  go_end0
  refine ⟨rfl,?_⟩;rw [HN.out];exact ⟨ov,by rw [List.append_nil];exact HIS.out.pr,HKS.out,Or.inl rfl⟩
theorem B7 (W:World) (c:UInt8) (g:Nat) (hg:g=W.heap.size):
  (convert 110 9 (.slice (some ⟨g,0,none⟩) 1 1)).run Tryz.prog (W.alloc (.cells #[.int .u8 (c.toNat:Int)] 5))=.ok (.string ⟨#[c]⟩) (W.alloc (.cells #[.int .u8 (c.toNat:Int)] 5)):=by
 subst hg;exact run_convert_bytes_back (W.alloc (.cells #[.int .u8 (c.toNat:Int)] 5)) 110 9 5 ⟨W.heap.size,0,none⟩ 1 [c] Tryz.underlying110 Tryz.underlying5 Tryz.underlying9 (fun j hj=>by
  have:j=0:=(by simp at hj;exact hj);subst this;simp [Addr.add])
theorem kU (col:Nat):∀(l:List (List UInt8)) (k m:Nat),1 <= m ->1 <= (bI col l k m).2
 |[],_,m,h=>h
 |s::t,k,m,h=>by
  rw [bI];split
  ·exact kU col t (k+1) (if aJ s=true then m else k+1) (by split<;>omega)
  ·exact h
theorem mV (col:Nat):∀(l:List (List UInt8)) (k m:Nat),m <= k ->(bI col l k m).2 <= k+l.length
 |[],k,m,h=>h
 |s::t,k,m,h=>by
  rw [bI];split
  ·have:=mV col t (k+1) (if aJ s=true then m else k+1) (by split<;>omega);simp only [List.length_cons];omega
  ·simp only;omega
def tH (l:List (List UInt8)):Nat:=(l.takeWhile aJ).length
theorem Ej (l:List (List UInt8)):tH l <= l.length:=by
 unfold tH;induction l with
 |nil=>simp
 |cons x l ih=>
  by_cases h:aJ x=true
  ·rw [List.takeWhile_cons_of_pos h];simpa using ih
  ·rw [List.takeWhile_cons_of_neg h];simp
theorem BV {ls:List (List UInt8)} {s:List UInt8} {i:Nat} (h:ls[i]? =some s) (hb:aJ s=false):tH (ls.drop i)=0:=by
 obtain ⟨hi,rfl⟩:=List.getElem?_eq_some_iff.1 h;unfold tH;rw [List.drop_eq_getElem_cons hi,List.takeWhile_cons_of_neg (by rw [hb];simp)];rfl
theorem Ei {ls:List (List UInt8)} {s:List UInt8} {i:Nat} (h:ls[i]? =some s) (hb:aJ s=true):tH (ls.drop i)=tH (ls.drop (i+1))+1:=by
 obtain ⟨hi,rfl⟩:=List.getElem?_eq_some_iff.1 h;unfold tH;rw [List.drop_eq_getElem_cons hi,List.takeWhile_cons_of_pos hb];rfl
theorem DC (ls:List (List UInt8)):tH (ls.drop ls.length)=0:=by rw [List.drop_length];rfl
theorem zE {V:Nat ->List (List UInt8) ->List aI} {d:Nat} {sg:UInt8} {ls:List (List UInt8)} {pos f a e:Nat} (h:ls.length <= pos+a):bq V d sg (ls.drop pos) f a e=([],e):=by
 cases f with
 |zero=>rfl
 |succ f=>rw [bq,List.getElem?_drop,List.getElem?_eq_none h]
theorem qg {V:Nat ->List (List UInt8) ->List aI} {d:Nat} {sg:UInt8} {ls:List (List UInt8)} {pos f a e:Nat} {s:List UInt8} (h:ls[pos+a]? =some s) (hn:(aH s).2.2.2.2=false∨(aH s).1≠sg):bq V d sg (ls.drop pos) f a e=([],e):=by
 cases f with
 |zero=>rfl
 |succ f=>
  rw [bq,List.getElem?_drop,h];simp only;rw [if_pos hn]
theorem BF {V:Nat ->List (List UInt8) ->List aI} {d:Nat} {sg:UInt8} {ls:List (List UInt8)} {pos f a e:Nat} {s R:List UInt8} {v:Int} {col N:Nat} {P:List (List UInt8)} (h:ls[pos+a]? =some s) (hi:aH s=(sg,v,col,R,true)) (hq:bI col (ls.drop (pos+a+1)) 1 1=(P,N)):
  bq V d sg (ls.drop pos) (f+1) a e=(⟨5,d+1,0,false,[],[]⟩::(V (d+2) ((R::P).take N)++(bq V d sg (ls.drop pos) f (a+N+tH (ls.drop (pos+(a+N)))) (a+N)).1),(bq V d sg (ls.drop pos) f (a+N+tH (ls.drop (pos+(a+N)))) (a+N)).2):=by
 rw [bq,List.getElem?_drop,h];simp only;rw [hi,if_neg (by simp)];simp only;rw [List.drop_drop,<- Nat.add_assoc,hq];simp only;rw [List.drop_drop];rfl
theorem pL {l:List (List UInt8)} {k:Nat} {x:List UInt8} (h:l[k]? =some x) (f:List UInt8 ->Bool):(l.drop k).all f=(f x&&(l.drop (k+1)).all f):=by
 obtain ⟨hk,rfl⟩:=List.getElem?_eq_some_iff.1 h;rw [List.drop_eq_getElem_cons hk,List.all_cons]
theorem te {ls:List (List UInt8)} {s R:List UInt8} {i:Nat} (h:ls[i]? =some s) (hr:wt R <= wt s) {col N:Nat} {P:List (List UInt8)} (hq:bI col (ls.drop (i+1)) 1 1=(P,N)):fD ((R::P).take N) <= fD ls:=by
 obtain ⟨hi,rfl⟩:=List.getElem?_eq_some_iff.1 h;have h1:=fB (R::P) N;have h2:=uo col (ls.drop (i+1)) 1 1;rw [hq]at h2;have h3:=eD ls i;rw [List.drop_eq_getElem_cons hi]at h3;unfold fD at h1 h2 h3⊢;simp only [List.map_cons,List.sum_cons]at h1 h2 h3⊢;omega
theorem wJ (s:List UInt8):(aH s).2.2.1 <= 6*s.length+10:=by
 unfold aH;simp only;split
 ·simp
 ·split
  ·simp
  ·rename_i sign hs;split
   ·simp
   ·split
    ·simp
    ·have h1:=(List.getElem?_eq_some_iff.1 hs).1;have h2:=eA s;have h3:=lU s 0;change bz s <= _ at h3;simp only;split<;>omega
structure iS (V:Nat ->List (List UInt8) ->List aI) (d:Nat) (sg:UInt8) (ls:List (List UInt8)) (pos:Nat) (Q:List aI) (E i f a e:Nat) (acc:List aI):Prop where
 ia:i=pos+a
 ea:e <= a
 il:i <= ls.length
 fu:ls.length<pos+a+f
 bd:acc.length+30*(ls.length - i) <= 30*(ls.length - pos)
 q1:acc++(bq V d sg (ls.drop pos) f a e).1=Q
 q2:(bq V d sg (ls.drop pos) f a e).2=E
theorem iS.stop {V:Nat ->List (List UInt8) ->List aI} {d:Nat} {sg:UInt8} {ls:List (List UInt8)} {pos:Nat} {Q:List aI} {E i f a e:Nat} {acc:List aI} (h:iS V d sg ls pos Q E i f a e acc) (hh:bq V d sg (ls.drop pos) f a e=([],e)):acc=Q∧e=E:=by
 have h1:=h.q1;have h2:=h.q2;rw [hh]at h1 h2;exact ⟨by simpa using h1,h2⟩
theorem iS.next {V:Nat ->List (List UInt8) ->List aI} {d:Nat} {sg:UInt8} {ls:List (List UInt8)} {pos:Nat} {Q:List aI} {E i f a e:Nat} {acc:List aI} (h:iS V d sg ls pos Q E i f a e acc) {s R:List UInt8} {v:Int} {col N:Nat} {P:List (List UInt8)} (hx:ls[i]? =some s) (hi:aH s=(sg,v,col,R,true)) (hq:bI col (ls.drop (i+1)) 1 1=(P,N)) (hvb:∀l,(V (d+2) l).length <= 28*l.length):
  1 <= N∧i+N <= ls.length∧0<((R::P).take N).length∧(acc++⟨5,d+1,0,false,[],[]⟩::V (d+2) ((R::P).take N)).length <= 30*(ls.length - pos)∧
  ∃f2,iS V d sg ls pos Q E (i+N+tH (ls.drop (i+N))) f2 (a+N+tH (ls.drop (i+N))) (a+N) (acc++⟨5,d+1,0,false,[],[]⟩::V (d+2) ((R::P).take N)):=by
 obtain ⟨ia,ea,il,fu,bd,q1,q2⟩:=h;have hil:=(List.getElem?_eq_some_iff.1 hx).1;have n1:=kU col (ls.drop (i+1)) 1 1 (Nat.le_refl _);have n2:=mV col (ls.drop (i+1)) 1 1 (Nat.le_refl _);rw [hq]at n1 n2;simp only [List.length_drop]at n1 n2;have n3:=Ej (ls.drop (i+N));rw [List.length_drop]at n3;have hv:=hvb ((R::P).take N);have hlt:((R::P).take N).length <= N:=(by rw [List.length_take];omega);subst ia;obtain ⟨f,rfl⟩:∃f',f=f'+1:=⟨f - 1,by omega⟩
 have hgo:=BF (V:=V) (d:=d) (f:=f) (e:=e) hx hi hq;rw [show pos+(a+N)=pos+a+N by omega]at hgo;rw [hgo]at q1 q2;refine ⟨n1,by omega,?_,?_,f,by omega,by omega,by omega,by omega,?_,?_,q2⟩
 ·rw [List.length_take,List.length_cons];omega
 ·rw [List.length_append,List.length_cons];omega
 ·rw [List.length_append,List.length_cons];omega
 ·rw [<- q1,List.append_assoc,List.cons_append]
structure LS (B b:Nat) (ov:Value) (w0:World) (g o lcap:Nat) (ls:List (List UInt8)) (d:Nat) (w:World) (i:Nat) (ov2:Value) (out:List aI):Prop where
 bin:eF B b w (some ⟨g,o,none⟩) lcap ls i d ov2 out
 kp:Kp B b ov w0 w
 own:ov2.ownBlock=ov.ownBlock∨∃g,ov2.ownBlock=some g∧w0.heap.size <= g
 hB:B <= w0.heap.size
theorem LS.below {B b:Nat} {ov:Value} {w0:World} {g o lcap:Nat} {ls:List (List UInt8)} {d:Nat} {w w':World} {i:Nat} {ov2:Value} {out:List aI} (h:LS B b ov w0 g o lcap ls d w i ov2 out) (hb:Below w.heap.size w w'):LS B b ov w0 g o lcap ls d w' i ov2 out:=
 ⟨h.bin.below hb,h.kp.step hb h.hB,h.own,h.hB⟩
theorem LS.setPos {B b:Nat} {ov:Value} {w0:World} {g o lcap:Nat} {ls:List (List UInt8)} {d:Nat} {w:World} {i:Nat} {ov2:Value} {out:List aI} (h:LS B b ov w0 g o lcap ls d w i ov2 out) (p:Nat) (u:Value) (hu:u=.int .i64 (p:Int)) (hp:p <= ls.length+1):LS B b ov w0 g o lcap ls d (w.setCell ⟨b,1,none⟩ u) p ov2 out:=
 ⟨h.bin.setPos p u hu hp,h.kp.setPos h.bin.pr.base u,h.own,h.hB⟩
theorem LS.post {B b:Nat} {ov:Value} {w0:World} {g o lcap:Nat} {ls:List (List UInt8)} {d:Nat} {w:World} {i:Nat} {ov2:Value} {out:List aI} (h:LS B b ov w0 g o lcap ls d w i ov2 out) {p2:Nat} {out2:List aI} {w2:World} (hp:ct B b w (.slice (some ⟨g,o,none⟩) ls.length lcap) d ov2 p2 out2 w2) (h1:p2 <= ls.length+1) (h2:out2.length <= 100000000):∃ov3,LS B b ov w0 g o lcap ls d w2 p2 ov3 out2:=by
 obtain ⟨ov3,g1,g2,g3⟩:=hp;refine ⟨ov3,⟨g1,h.bin.lr.belowB g2.below h.bin.lb,h.bin.lb,h.bin.lt,h.bin.lc,h1,h.bin.dp,h2⟩,h.kp.trans h.own g2,?_,h.hB⟩;rcases g3 with e|⟨g,e,hg⟩
 ·rw [e];exact h.own
 ·exact Or.inr ⟨g,e,Nat.le_trans h.kp.below.size hg⟩
theorem LS.item {B b:Nat} {ov:Value} {w0:World} {g o lcap:Nat} {ls:List (List UInt8)} {d:Nat} {w w2:World} {i p2:Nat} {ov2:Value} {out:List aI} (h:LS B b ov w0 g o lcap ls d w i ov2 out) (h1:eF B b w2 (some ⟨g,o,none⟩) lcap ls p2 d ov2 out) (h2:Kp B b ov2 w w2):LS B b ov w0 g o lcap ls d w2 p2 ov2 out:=
 ⟨h1,h.kp.trans h.own h2,h.own,h.hB⟩
theorem LS.tight {B b:Nat} {ov:Value} {w0:World} {g o lcap:Nat} {ls:List (List UInt8)} {d:Nat} {w:World} {i q cap n:Nat} {out:List aI} (h:LS B b ov w0 g o lcap ls d w i (.slice (some ⟨q,0,none⟩) n cap) out) (k:Nat) (x:aI) (hx:out[k]? =some x) (t:Bool):
  ct B b w0 (.slice (some ⟨g,o,none⟩) ls.length lcap) d ov i (out.set k {x with tight:=t}) (w.setCell ⟨q,k*6+3,none⟩ (.bool t)):=by
 have hown:=h.bin.pr.own;have hn:n=out.length:=(bT hown).1;subst hn;have hst:=World.ownsRow.stored hown (k*6+3) (.bool t);have hlt:=World.ownsRow.lt hown q rfl;have hqb:(some b:Option Nat)≠some q:=cV hown h.bin.pr.heap (by decide);have hqb':b≠q:=fun e=>hqb (by rw [e]);refine ⟨.slice (some ⟨q,0,none⟩) out.length cap,⟨?_,?_,h.bin.pr.base⟩,⟨h.kp.below.setCell (p:=⟨q,k*6+3,none⟩) hlt.1 _,fun j hj hjb hjo=>?_⟩,h.own⟩
 ·rw [Below.heap_setCell _ _ _ _ hqb'];exact h.bin.pr.heap
 ·have h1:=hst.1;rw [j7 bS 6 pp out k 3 x {x with tight:=t} (.bool t) hx (by omega) rfl]at h1;unfold cP;rw [List.length_set];exact h1
 ·rw [Below.heap_setCell _ _ _ _ (fun e=>?_)]
  ·exact h.kp.keep j hj hjb hjo
  ·have e':j=q:=e;clear e;subst e';rcases h.own with e|⟨q2,e,hq2⟩
   ·exact hjo e
   ·have:=Option.some.inj e;simp only at this hj;omega
end Go.Proofs.YtcannffahjbjnaaGreatDoor
namespace Go.Proofs.YtcannffahjbjnaaGreatDoor
def EZ (c:UInt8):Bool:=c !=0&&decide (c.toNat<128)&&c !=13
theorem rW (x:List UInt8) (h:(10:UInt8)∉x) (t:List UInt8):aO (x++10::t)=x::aO t:=by
 induction x with
 |nil=>simp [aO]
 |cons c x ih=>
  have hc:c≠10:=fun e=>h (by rw [e];exact List.mem_cons_self ..);rw [List.cons_append,aO,if_neg hc,ih (fun e=>h (List.mem_cons_of_mem _ e))]
theorem qo:∀(l:List (List UInt8)),(∀x∈l,(10:UInt8)∉x) ->aO (cY l)=l
 |[],_=>rfl
 |x::l,h=>by
  have:cY (x::l)=x++10::cY l:=(by unfold cY;simp);rw [this,rW x (h x (List.mem_cons_self ..)),qo l (fun y hy=>h y (List.mem_cons_of_mem _ hy))]
theorem kf (W W':Nat ->List (List UInt8) ->List aI) (d:Nat) (h:∀l,W (d+2) l=W' (d+2) l) (sign:UInt8) (l:List (List UInt8)):∀f a e,bq W d sign l f a e=bq W' d sign l f a e
 |0,a,e=>rfl
 |f+1,a,e=>by
  rw [bq,bq];split
  ·rfl
  ·split
   ·rfl
   ·simp only [h,kf W W' d h sign l f]
theorem wW (W W':Nat ->List (List UInt8) ->List aI) (d:Nat) (h1:d<12 ->∀l,W (d+1) l=W' (d+1) l) (h2:d<11 ->∀l,W (d+2) l=W' (d+2) l) (l:List (List UInt8)):dq W d l=dq W' d l:=by
 unfold dq;simp only;by_cases hq:dX d (da l 0)=true
 ·have hd:d<12:=(by unfold dX at hq;simp at hq;exact hq.2);simp only [h1 hd];by_cases hl:ep d (da l 0)=true
  ·have hd2:d<11:=(by unfold ep at hl;simp at hl;exact hl.2);simp only [kf W W' d (h2 hd2)]
  ·rw [if_neg hl,if_neg hl]
 ·rw [if_neg hq,if_neg hq];by_cases hl:ep d (da l 0)=true
  ·have hd2:d<11:=(by unfold ep at hl;simp at hl;exact hl.2);simp only [kf W W' d (h2 hd2)]
  ·rw [if_neg hl,if_neg hl]
theorem nL (W W':Nat ->List (List UInt8) ->List aI) (d:Nat) (h1:d<12 ->∀l,W (d+1) l=W' (d+1) l) (h2:d<11 ->∀l,W (d+2) l=W' (d+2) l):∀f l,dO W f d l=dO W' f d l
 |0,l=>rfl
 |f+1,l=>by rw [dO,dO,wW W W' d h1 h2 l,nL W W' d h1 h2 f]
theorem iX:∀(k k' d:Nat) (l:List (List UInt8)),12<k+d ->12<k'+d ->0<k ->0<k' ->eV k d l=eV k' d l
 |0,_,d,l,_,_,h,_=>by omega
 |_,0,d,l,_,_,_,h=>by omega
 |k+1,k'+1,d,l,h,h',_,_=>by
  rw [eV,eV];refine nL _ _ d (fun hd l=>?_) (fun hd l=>?_) _ _
  ·exact iX k k' (d+1) l (by omega) (by omega) (by omega) (by omega)
  ·exact iX k k' (d+2) l (by omega) (by omega) (by omega) (by omega)
end Go.Proofs.YtcannffahjbjnaaGreatDoor
namespace Go.Proofs.YtcannffahjbjnaaGreatDoor
open Go.RowKit
def VB (V:Nat ->List (List UInt8) ->List aI) (d:Nat):Prop:=∀l,(V d l).length <= (28 - 2*d)*l.length
theorem qf (V:Nat ->List (List UInt8) ->List aI) (d c:Nat) (hv:∀l,(V (d+2) l).length <= c*l.length) (sg:UInt8) (l:List (List UInt8)):∀f a e,e <= a ->e <= l.length ->e <= (bq V d sg l f a e).2∧(bq V d sg l f a e).2 <= l.length∧(bq V d sg l f a e).1.length <= (c+1)*((bq V d sg l f a e).2 - e)
 |0,a,e,_,h=>⟨Nat.le_refl _,h,Nat.zero_le _⟩
 |f+1,a,e,hea,h=>by
  rw [bq];split
  ·exact ⟨Nat.le_refl _,h,Nat.zero_le _⟩
  ·rename_i s hs;split
   ·exact ⟨Nat.le_refl _,h,Nat.zero_le _⟩
   ·have hal:=(List.getElem?_eq_some_iff.1 hs).1;have n1:=kU (aH s).2.2.1 (l.drop (a+1)) 1 1 (Nat.le_refl _);have n2:=mV (aH s).2.2.1 (l.drop (a+1)) 1 1 (Nat.le_refl _);rw [List.length_drop]at n2;simp only;obtain ⟨q,hq⟩:∃q,bI (aH s).2.2.1 (l.drop (a+1)) 1 1=q:=⟨_,rfl⟩
    rw [hq]at n1 n2⊢;obtain ⟨i1,i2,i3⟩:=qf V d c hv sg l f (a+q.2+((l.drop (a+q.2)).takeWhile aJ).length) (a+q.2) (by omega) (by omega);obtain ⟨z,hz⟩:∃z,bq V d sg l f (a+q.2+((l.drop (a+q.2)).takeWhile aJ).length) (a+q.2)=z:=⟨_,rfl⟩
    rw [hz]at i1 i2 i3⊢;refine ⟨by omega,i2,?_⟩;have hw:=hv (((aH s).2.2.2.1::q.1).take q.2);have hlt:(((aH s).2.2.2.1::q.1).take q.2).length <= q.2:=(by rw [List.length_take];omega);have h1:=Nat.mul_le_mul_left c hlt;have h2:(c+1)*(z.2 - e)≥(c+1)*(q.2+(z.2 - (a+q.2))):=Nat.mul_le_mul_left _ (by omega);rw [Nat.mul_add]at h2;have h3:(c+1)*q.2=c*q.2+q.2:=Nat.succ_mul _ _;simp only [List.length_cons,List.length_append];omega
theorem uq {V:Nat ->List (List UInt8) ->List aI} {d:Nat} {l:List (List UInt8)} (h:(aH (da l 0)).2.2.2.2=true) (hl:l≠[]) (c:Nat) (hv:∀l,(V (d+2) l).length <= c*l.length):1 <= (bq V d (aH (da l 0)).1 l (l.length+1) 0 0).2:=by
 obtain ⟨s,t,rfl⟩:∃s t,l=s::t:=(by cases l with|nil=>exact absurd rfl hl|cons s t=>exact ⟨s,t,rfl⟩);have hs:da (s::t) 0=s:=rfl;rw [hs]at h⊢;rw [bq];simp only [List.getElem?_cons_zero];rw [if_neg (by rw [h];simp)];simp only;have n1:=kU (aH s).2.2.1 ((s::t).drop (0+1)) 1 1 (Nat.le_refl _);have n2:=mV (aH s).2.2.1 ((s::t).drop (0+1)) 1 1 (Nat.le_refl _);rw [List.length_drop]at n2;have:=(qf V d c hv (aH s).1 (s::t) (s::t).length (0+(bI (aH s).2.2.1 ((s::t).drop (0+1)) 1 1).2+(((s::t).drop (0+(bI (aH s).2.2.1 ((s::t).drop (0+1)) 1 1).2)).takeWhile aJ).length) (0+(bI (aH s).2.2.1 ((s::t).drop (0+1)) 1 1).2) (by omega) (by simp at n2⊢;omega)).1;omega
theorem lE:∀l:List (List UInt8),(a6 l).length <= l.length
 |[]=>Nat.le_refl _
 |s::t=>by
  rw [a6];have:=lE t;split
  ·simp only [List.length_cons];omega
  ·simp
theorem ma:∀(l:List (List UInt8)) (a e:Nat),e <= a ->e <= aN l a e∧aN l a e <= a+l.length
 |[],a,e,h=>⟨Nat.le_refl _,by simp [aN];omega⟩
 |s::t,a,e,h=>by
  rw [aN];have h1:=ma t (a+1) e (by omega);have h2:=ma t (a+1) (a+1) (Nat.le_refl _);rw [List.length_cons];split
  ·omega
  ·split<;>omega
theorem ko (d:Nat):∀(l acc:List (List UInt8)) (k:Nat),k <= (dc d l acc k).2.2∧(dc d l acc k).2.2 <= k+l.length
 |[],acc,k=>⟨Nat.le_refl _,Nat.le_refl _⟩
 |s::t,acc,k=>by
  rw [dc];have:=ko d t (acc++[ak s]) (k+1);rw [List.length_cons];split
  ·simp only;omega
  ·split
   ·simp only;omega
   ·omega
theorem Cc (d:Nat) (s:List UInt8) (t:List (List UInt8)):1 <= (dc d (s::t) [] 0).2.2:=by
 rw [dc,if_neg (by simp),if_neg (by simp)];exact (ko d t _ 1).1
theorem CO {α:Type} (p:α ->Bool):∀l:List α,(l.takeWhile p).length <= l.length
 |[]=>Nat.le_refl _
 |x::l=>by
  have:=CO p l;by_cases h:p x=true
  ·rw [List.takeWhile_cons_of_pos h];simp only [List.length_cons];omega
  ·rw [List.takeWhile_cons_of_neg h];simp
theorem oO (V:Nat ->List (List UInt8) ->List aI) (d:Nat) (l:List (List UInt8)) (hl:l≠[]) (hd:d <= 12) (h1:d<12 ->VB V (d+1)) (h2:d<11 ->VB V (d+2)):
  1 <= (dq V d l).2∧(dq V d l).2 <= l.length+1∧(dq V d l).1.length <= (28 - 2*d)*min (dq V d l).2 l.length:=by
 obtain ⟨s,t,rfl⟩:∃s t,l=s::t:=(by cases l with|nil=>exact absurd rfl hl|cons s t=>exact ⟨s,t,rfl⟩);have hs:da (s::t) 0=s:=rfl;have one:∀n:Nat,1 <= n ->n <= (s::t).length+1 ->1 <= (28 - 2*d)*min n (s::t).length:=fun n h1 h2=>by
  have:1 <= min n (s::t).length:=(by rw [List.length_cons];omega);have h3:1 <= 28 - 2*d:=(by omega);exact Nat.mul_le_mul h3 this
 unfold dq;simp only;rw [hs];split
 ·exact ⟨Nat.le_refl _,by simp,Nat.zero_le _⟩
 ·rename_i hb;have hb':aJ s=false:=(by simpa using hb);split
  ·rename_i h4;have hi:=ma t 1 1 (Nat.le_refl _);have he:aN (s::t) 0 0=aN t 1 1:=(by rw [aN,if_neg hb,if_pos h4]);simp only;rw [he];have e1:1 <= aN t 1 1:=hi.1;have e2:aN t 1 1 <= (s::t).length+1:=(by rw [List.length_cons];omega);exact ⟨e1,e2,one _ e1 e2⟩
  ·split
   ·have h3:=CO (fun x=> !eG x (cU s).1 (cU s).2.1) ((s::t).drop 1);have h5:((s::t).drop 1).length=t.length:=(by simp);have e2:(((s::t).drop 1).takeWhile fun x=> !eG x (cU s).1 (cU s).2.1).length+2 <= (s::t).length+1:=(by rw [List.length_cons];omega);exact ⟨by omega,e2,one _ (by omega) e2⟩
   ·split
    ·exact ⟨Nat.le_refl _,by simp,one 1 (Nat.le_refl _) (by simp)⟩
    ·split
     ·exact ⟨Nat.le_refl _,by simp,one 1 (Nat.le_refl _) (by simp)⟩
     ·split
      ·rename_i hq;have hp:=kt (ls:=s::t) (i:=0) (d:=d) rfl hq;rw [List.drop_zero]at hp;have hle:=lE (s::t);have hd12:d<12:=(by unfold dX at hq;simp at hq;exact hq.2);have hv:=h1 hd12 (a6 (s::t));refine ⟨hp,by omega,?_⟩;show (V (d+1) (a6 (s::t))).length+1 <= _;rw [Nat.min_eq_left hle];have h3:(28 - 2*d)*(a6 (s::t)).length=(28 - 2*(d+1))*(a6 (s::t)).length+2*(a6 (s::t)).length:=by
        rw [<- Nat.add_mul];congr 1;omega
       omega
      ·split
       ·rename_i hq;have hi:(aH s).2.2.2.2=true:=(by unfold ep at hq;simp at hq;exact hq.1);have hd11:d<11:=(by unfold ep at hq;simp at hq;exact hq.2);have hv:=h2 hd11;have f1:=uq (V:=V) (d:=d) (l:=s::t) hi (by simp) _ hv;have f2:=qf V d _ hv (aH s).1 (s::t) ((s::t).length+1) 0 0 (Nat.le_refl _) (Nat.zero_le _);rw [hs]at f1;obtain ⟨z,hz⟩:∃z,bq V d (aH s).1 (s::t) ((s::t).length+1) 0 0=z:=⟨_,rfl⟩
        rw [hz]at f1 f2⊢;refine ⟨f1,by have:=f2.2.1;omega,?_⟩;show z.1.length+1 <= _;rw [Nat.min_eq_left f2.2.1];have h3:(28 - 2*d)*z.2=(28 - 2*(d+2)+1)*z.2+3*z.2:=by
         rw [<- Nat.add_mul];congr 1;omega
        have h4:=f2.2.2;rw [Nat.sub_zero]at h4;omega
       ·split
        ·have h3:=CO (fun x=> !aJ x) (s::t);have h5:1 <= ((s::t).takeWhile fun x=> !aJ x).length:=(by rw [List.takeWhile_cons_of_pos (by rw [hb'];rfl)];simp);exact ⟨h5,by omega,one _ h5 (by omega)⟩
        ·have h3:=ko d (s::t) [] 0;have h5:=Cc d s t;refine ⟨h5,by omega,?_⟩;simp only [List.length_cons,List.length_nil]at one⊢;exact one _ h5 (by simp only [List.length_cons]at h3;omega)
theorem AW {V:Nat ->List (List UInt8) ->List aI} {d i f:Nat} {ls:List (List UInt8)} (h:i<ls.length):dO V (f+1) d (ls.drop i)=(dq V d (ls.drop i)).1++dO V f d (ls.drop (i+(dq V d (ls.drop i)).2)):=by
 rw [dO,if_neg (fun e=>by have:=congrArg List.length e;simp at this;omega),List.drop_drop]
theorem xR {V:Nat ->List (List UInt8) ->List aI} {d i f:Nat} {ls:List (List UInt8)} (h:ls.length <= i):dO V f d (ls.drop i)=[]:=by
 rw [List.drop_eq_nil_of_le h];cases f<;>simp [dO]
theorem xS (V:Nat ->List (List UInt8) ->List aI) (d:Nat) (hd:d <= 12) (h1:d<12 ->VB V (d+1)) (h2:d<11 ->VB V (d+2)) (l:List (List UInt8)):∀f i,(dO V f d (l.drop i)).length <= (28 - 2*d)*(l.length - i)
 |0,i=>Nat.zero_le _
 |f+1,i=>by
  by_cases hi:i<l.length
  ·rw [AW hi,List.length_append];have hn:=oO V d (l.drop i) (fun e=>by have:=congrArg List.length e;simp at this;omega) hd h1 h2;have ih:=xS V d hd h1 h2 l f (i+(dq V d (l.drop i)).2);rw [List.length_drop]at hn;have h3:(28 - 2*d)*(l.length - i)=(28 - 2*d)*min (dq V d (l.drop i)).2 (l.length - i)+(28 - 2*d)*(l.length - (i+(dq V d (l.drop i)).2)):=by
    rw [<- Nat.mul_add];congr 1;omega
   omega
  ·rw [xR (by omega)];exact Nat.zero_le _
def et (d:Nat) (l:List (List UInt8)):List aI:=eV 14 d l
theorem jS (d:Nat) (l:List (List UInt8)):et d l=dO et (l.length+1) d l:=by
 unfold et;rw [eV];exact nL _ _ d (fun _ l=>iX 13 14 (d+1) l (by omega) (by omega) (by omega) (by omega)) (fun _ l=>iX 13 14 (d+2) l (by omega) (by omega) (by omega) (by omega)) _ _
theorem dE:∀n d,d+n=12 ->VB et d
 |n,d,h=>by
  intro l;rw [jS];have h1:d<12 ->VB et (d+1):=fun hd=>dE (n - 1) (d+1) (by omega);have h2:d<11 ->VB et (d+2):=fun hd=>dE (n - 2) (d+2) (by omega);have:=xS et d (by omega) h1 h2 l (l.length+1) 0;rw [List.drop_zero,Nat.sub_zero]at this;exact this
 termination_by n=>n
end Go.Proofs.YtcannffahjbjnaaGreatDoor
