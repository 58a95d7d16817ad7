import Derived.Test.YtkphljggkajlkaaGreatDoorVwBN
set_option linter.unusedVariables false
set_option linter.unusedSimpArgs false
namespace Go.Proofs.YtkphljggkajlkaaGreatDoor
open Go.RowKit
set_option maxRecDepth 100000
set_option linter.unusedVariables false
set_option linter.unusedSimpArgs false
theorem para_end {d:Nat} {ls acc:List (List UInt8)} {k:Nat}:paraGo d (ls.drop ls.length) acc k=(acc,0,k):=by rw [List.drop_length];rfl
theorem para_under {d:Nat} {ls acc:List (List UInt8)} {s:List UInt8} {i k:Nat} (h:ls[i]? =some s) (ha:acc≠[]) (hu:0<underL s):paraGo d (ls.drop i) acc k=(acc,underL s,k+1):=by
 obtain ⟨hi,rfl⟩:=List.getElem?_eq_some_iff.1 h;rw [List.drop_eq_getElem_cons hi,paraGo,if_pos ⟨ha,hu⟩]
theorem para_ends {d:Nat} {ls acc:List (List UInt8)} {s:List UInt8} {i k:Nat} (h:ls[i]? =some s) (ha:acc≠[]) (hu:¬0<underL s) (he:endsP d s=true):paraGo d (ls.drop i) acc k=(acc,0,k):=by
 obtain ⟨hi,rfl⟩:=List.getElem?_eq_some_iff.1 h;rw [List.drop_eq_getElem_cons hi,paraGo,if_neg (fun e=>hu e.2),if_pos ⟨ha,he⟩]
theorem para_more {d:Nat} {ls acc:List (List UInt8)} {s:List UInt8} {i k:Nat} (h:ls[i]? =some s) (hc:acc=[]∨¬0<underL s∧endsP d s=false):paraGo d (ls.drop i) acc k=paraGo d (ls.drop (i+1)) (acc++[restB s]) (k+1):=by
 obtain ⟨hi,rfl⟩:=List.getElem?_eq_some_iff.1 h;rw [List.drop_eq_getElem_cons hi,paraGo];rcases hc with rfl|⟨hu,he⟩
 ·rw [if_neg (fun e=>e.1 rfl),if_neg (fun e=>e.1 rfl)]
 ·rw [if_neg (fun e=>hu e.2),if_neg (fun e=>by rw [he]at e;exact absurd e.2 (by simp))]
theorem join_lf:∀l:List (List UInt8),Lib.join l [10]=joinLf l
 |[]=>rfl
 |[x]=>by simp [Lib.join,List.intercalate,joinLf]
 |x::y::t=>by
  have ih:=join_lf (y::t);unfold Lib.join at ih⊢;rw [joinLf,←ih];simp [List.intercalate]
theorem joinLf_tot:∀l:List (List UInt8),(joinLf l).length≤tot l
 |[]=>Nat.le_refl _
 |[x]=>by simp [joinLf,tot,wt];omega
 |x::y::t=>by
  have ih:=joinLf_tot (y::t);rw [joinLf];unfold tot wt at ih⊢;simp only [List.map_cons,List.sum_cons,List.length_append,List.length_cons]at ih⊢;omega
theorem tot_app (a b:List (List UInt8)):tot (a++b)=tot a+tot b:=by unfold tot;simp
def paraB (d:Nat) (q:List (List UInt8)×Nat×Nat):BlkL:=if 0<q.2.1 then ⟨2,d,q.2.1,false,rstripL blankB (joinLf q.1),[]⟩else ⟨1,d,0,false,rstripL blankB (joinLf q.1),[]⟩
theorem drop_cons_get {α:Type} {ls:List α} {i:Nat} {s:α} (h:ls[i]? =some s):ls.drop i=s::ls.drop (i+1):=by
 obtain ⟨hi,rfl⟩:=List.getElem?_eq_some_iff.1 h;exact List.drop_eq_getElem_cons hi
set_option maxHeartbeats 16000000 in
theorem bpara {B b:Nat} {w:World} {g o:Nat} {lcap:Nat} {ls:List (List UInt8)} {pos d:Nat} {ov:Value} {out:List BlkL} (h:BpIn B b w (some ⟨g,o,none⟩) lcap ls pos d ov out) (hp0:pos<ls.length):
  Calls Tryz.prog 149 #[.pointer (some ⟨b,0,none⟩)] w fun e w'=>e=.returned (.tuple #[])∧PPost B b w (.slice (some ⟨g,o,none⟩) ls.length lcap) d ov (pos+(paraGo d (ls.drop pos) [] 0).2.2) (out++[paraB d (paraGo d (ls.drop pos) [] 0)]) w':=by
 obtain ⟨is,hsi,hs0,hs1,hs2⟩:=info_parts infoStr;obtain ⟨q,hq⟩:∃q,paraGo d (ls.drop pos) [] 0=q:=⟨_,rfl⟩
 rw [hq];have HQ:=Lib.hid hq;have HH:=Lib.hid h;obtain ⟨c0,c1,c2,c3⟩:=h.pr.cells;have hll:=h.ll;have hdp:=h.dp;clear hq h;go_enter Tryz.func149,Tryz.ntmps149
 go_wp2_with fail;go_loopw [2,3] (fun u2 u3 wr=>∃(i:Nat) (acc:List (List UInt8)),pos≤i∧i≤ls.length∧u3=.int .i64 0∧BpIn B b wr (some ⟨g,o,none⟩) lcap ls i d ov out∧Kp B b ov w wr∧StrOwn w.heap.size wr u2 acc∧paraGo d (ls.drop i) acc (i - pos)=q∧i=pos+acc.length∧tot acc+tot (ls.drop i)≤tot ls) (fun _ _ wr=>ls.length - (intOf ((wr.cell? ⟨b,1,none⟩).getD undef)).toNat)
 case atStart=>exact ⟨pos,[],Nat.le_refl _,by omega,rfl,HH.out,Kp.refl _ _ _ _,World.ownsRow_nil _ _ _ _,by rw [Nat.sub_self];exact HQ.out,rfl,by have:=tot_drop ls pos;simp [tot]at this⊢;exact this⟩
 case round=>
  obtain ⟨i,acc,hpi,hil,rfl,hin,hkp,hown,hpq,hia,hta⟩:=hrel;clear c0 c1 c2 c3;obtain ⟨c0,c1,c2,c3⟩:=hin.pr.cells;have hal:acc.length≤1000000:=(by omega);have c1w:=c1;have HIN:=Lib.hid hin;have HKP:=Lib.hid hkp;have HOWN:=Lib.hid hown;have HPQ:=Lib.hid hpq;have HTA:=Lib.hid (And.intro hta hia);clear hkp hown hpq hia hta c2 c3;by_cases hlt:i<ls.length
  ·have hltI:(i:Int)<(ls.length:Int):=(by omega);have hd:decide ((i:Int)<(ls.length:Int))=true:=decide_eq_true hltI;obtain ⟨X,hx,hcl,hXz⟩:=hin.line i hlt;have hXw:wt X.data.toList≤1000000:=(by have:=tot_mem (List.mem_of_getElem? hx);have:=hin.lt;omega);have hun:=fun W=>under_any X W hXz;have htl:=fun W=>trL_any X W;obtain ⟨U,hU⟩:∃U,underL X.data.toList=U:=⟨_,rfl⟩
   obtain ⟨E,hE⟩:∃E,endsP d X.data.toList=E:=⟨_,rfl⟩
   obtain ⟨Y,hY⟩:∃Y:ByteArray,(⟨(restB X.data.toList).toArray⟩:ByteArray)=Y:=⟨_,rfl⟩
   have hYl:Y.data.toList=restB X.data.toList:=(by rw [←hY]);rw [hU]at hun;rw [hY]at htl;have HUN:=Lib.hid hun;have HTL:=Lib.hid htl;have HU:=Lib.hid hU;have HE:=Lib.hid hE;have HYL:=Lib.hid hYl;have HX:=Lib.hid hx;have HXW:=Lib.hid hXw;have ne:Nonempty (ExtW (Below wr.heap.size wr)):=⟨⟨wr,Below.refl _ _⟩⟩
   have e0:=ext_cell c0;have e1:=ext_cell c1;clear hun htl hU hE hY hYl hx hXw hin c0 c1 hcl;go_wp2_with fail;refine wp_region_ext (R:=Below wr.heap.size wr) (by kernel_rfl) (by kernel_rfl) (Below.refl _ _).drew ?_;repeat (go_big_quiet_step (fail))
   refine wpQuiet_nil ?_;rintro w2 ⟨nq,hnq⟩;have hb2:Below wr.heap.size wr w2:=(by rw [hnq];exact nq.h);clear hnq nq e0 e1 ne;have HI2:=Lib.hid (HIN.out.below hb2);have HK2:=Lib.hid (HKP.out.step hb2 HH.out.hB);have HO2:=Lib.hid (own_below HOWN.out hb2);obtain ⟨c0,c1,_,_⟩:=HI2.out.pr.cells;obtain ⟨X',hx',hcl,_⟩:=HI2.out.line i hlt;have hX':X'=X:=ba_eq (Option.some.inj (hx'.symm.trans HX.out));rw [hX']at hcl;have ne:Nonempty (ExtW (Below w2.heap.size w2)):=⟨⟨w2,Below.refl _ _⟩⟩
   have e0:=ext_cell c0;have e1:=ext_cell c1;have e2:=ext_cell hcl;clear HIN HKP HOWN hb2 hx' hX' hcl c0 c1;go_wp2_with fail;refine wp_region_ext (R:=Below w2.heap.size w2) (by kernel_rfl) (by kernel_rfl) (Below.refl _ _).drew ?_;repeat (go_big_quiet_step (fail))
   refine wpQuiet_nil ?_;rintro w3 ⟨nq,hnq⟩;have hb3:Below w2.heap.size w2 w3:=(by rw [hnq];exact nq.h);clear hnq nq e0 e1 e2 ne;have HIN:=Lib.hid (HI2.out.below hb3);have HKP:=Lib.hid (HK2.out.step hb3 HH.out.hB);have HOWN:=Lib.hid (own_below HO2.out hb3);clear HI2 HK2 HO2 hb3;obtain ⟨vao,vc,hv,_⟩:=own_slice HOWN.out;subst hv;by_cases ha:0<acc.length
   ·have hane:acc≠[]:=fun e=>by rw [e]at ha;exact absurd ha (by simp)
    have HANE:=Lib.hid hane;have haI:(0:Int)<(acc.length:Int):=(by omega);clear hane;go_wp2_with fail;refine (HUN.out _).mono ?_;rintro e w4 ⟨rfl,b4⟩;have HI4:=Lib.hid (HIN.out.below b4);have HK4:=Lib.hid (HKP.out.step b4 HH.out.hB);have HO4:=Lib.hid (own_below HOWN.out b4);clear HIN HKP HOWN b4;by_cases hu:0<U
    ·have huI:(0:Int)<(U:Int):=(by omega);obtain ⟨c0,c1,_,_⟩:=HI4.out.pr.cells;have f1:=HI4.out.pr.frozen 1;have HQ2:=Lib.hid (show q=(acc,U,i - pos+1) by rw [←HPQ.out,para_under HX.out HANE.out (by rw [HU.out];exact hu),HU.out]);have HACC:=Lib.hid (show 0<acc.length∧tot acc≤1000000 by have:=HTA.out;have:=HI4.out.lt;omega);have HUP:=Lib.hid hu;have HIN:=Lib.hid (HI4.out.setPos (i+1) (.int .i64 ((i:Int)+1)) (by go_num) (by omega));have HKP:=Lib.hid (HK4.out.setPos HH.out.pr.base (.int .i64 ((i:Int)+1)));have HOWN:=Lib.hid (show StrOwn w.heap.size (w4.setCell ⟨b,1,none⟩ (.int .i64 ((i:Int)+1))) (Value.slice vao acc.length vc) acc from own_setCell (a:=⟨b,1,none⟩) HO4.out HI4.out.pr.heap (by decide) _);obtain ⟨w5,hw5⟩:∃W,w4.setCell ⟨b,1,none⟩ (.int .i64 ((i:Int)+1))=W:=⟨_,rfl⟩
     rw [hw5]at HIN HKP HOWN;clear hu hpi ha haI c0 HI4 HK4 HO4;go_wp2_with fail;clear hw5 c1 f1;have hne2:0<acc.length:=HACC.out.1;obtain ⟨vao,vc,hv,hvr,_,hvle⟩:=own_slice HOWN.out;first|subst hv|(simp only [Value.slice.injEq,true_and]at hv;obtain ⟨hv1,hv2⟩:=hv;subst hv1;subst hv2)
     obtain ⟨g2,o2,hg2⟩:=RowR.addr hvr hne2;subst hg2;have hjt:=joinLf_tot acc;have hj:=Tryz.strings_Join g2 o2 vc (acc.map fun l=>(⟨l.toArray⟩:ByteArray)) ⟨#[10]⟩ w5 (fun j x hx=>by
      rw [List.getElem?_map]at hx;obtain ⟨l,hl,rfl⟩:=Option.map_eq_some_iff.1 hx;exact StrR.at' hvr j l hl) (World.block_lt_of_cell? _ _ (StrR.at' hvr 0 _ (List.getElem?_eq_getElem hne2))) (by rw [List.length_map];omega) (by rw [List.length_map];exact hvle) (by
       rw [List.map_map,show ((fun x:ByteArray=>x.data.toList) ∘ fun l:List UInt8=>(⟨l.toArray⟩:ByteArray))=id from rfl,List.map_id,show (ByteArray.mk #[10]).data.toList=[10]from rfl,join_lf];have:=HACC.out.2;omega)
     rw [List.map_map,show ((fun x:ByteArray=>x.data.toList) ∘ fun l:List UInt8=>(⟨l.toArray⟩:ByteArray))=id from rfl,List.map_id,show (ByteArray.mk #[10]).data.toList=[10]from rfl,join_lf,List.length_map]at hj;obtain ⟨T,hT⟩:∃T:ByteArray,(⟨(joinLf acc).toArray⟩:ByteArray)=T:=⟨_,rfl⟩
     have hTl:joinLf acc=T.data.toList:=(by rw [←hT]);have hTz:T.size≤1000000:=(by rw [Lib.size_eq,←hTl];have:=HACC.out.2;omega);rw [hT]at hj;have htr:=fun W=>trR_any T W (by omega);obtain ⟨TX,hU⟩:∃V:ByteArray,(⟨(rstripL blankB T.data.toList).toArray⟩:ByteArray)=V:=⟨_,rfl⟩
     rw [hU]at htr;have hUl:rstripL blankB (joinLf acc)=TX.data.toList:=(by rw [hTl,←hU]);have HJ:=Lib.hid hj;have HTR:=Lib.hid htr;have HUL:=Lib.hid hUl;clear hj htr hT hTl hU hUl hvr hjt;go_wp2_with fail;refine HJ.out.mono ?_;rintro e w5 ⟨rfl,b5⟩;have HI5:=Lib.hid (HIN.out.below b5);have HK5:=Lib.hid (HKP.out.step b5 HH.out.hB);clear b5;go_wp2_with fail;refine (HTR.out _).mono ?_;rintro e w6 ⟨rfl,b6⟩;have hi6:=HI5.out.below b6;have hk6:=HK5.out.step b6 HH.out.hB;have HI6:=Lib.hid hi6;have HK6:=Lib.hid hk6;clear b6 hi6 hk6 HI5 HK5 HIN HKP HOWN;go_wp2_with fail;have HB8:=Lib.hid (show Below w6.heap.size w6 (w6.alloc (.cells #[.int .i64 2,.int .i64 0,.int .i64 (U:Int),.bool false,.string TX,.string ⟨#[]⟩] 37))from (Below.refl _ _).alloc (Nat.le_refl _) _);refine (bput B b (.slice (some ⟨g,o,none⟩) ls.length lcap) ov (i+1) d out ⟨2,0,(U:Int),false,TX.data.toList,[]⟩ (w6.alloc (.cells #[.int .i64 2,.int .i64 0,.int .i64 (U:Int),.bool false,.string TX,.string ⟨#[]⟩] 37)) (HI6.out.below HB8.out).pr (by have:=HI6.out.ol;omega)).mono ?_;rintro e w9 ⟨rfl,hp9⟩;have HP:=Lib.hid (PPost.trans (HK6.out.step HB8.out HH.out.hB) (Or.inl rfl) hp9);clear hp9;go_wp2_with fail
     go_end0
     refine ⟨rfl,?_⟩;have hp:=HP.out
     (rw [HQ2.out];unfold paraB;rw [if_pos HUP.out];simp only;rw [HUL.out,show pos+(i - pos+1)=i+1 by have:=HTA.out.2;omega])
     exact hp
    ·have huI:¬(0:Int)<(U:Int):=(by omega);have hu0:U=0:=(by omega);subst hu0;go_wp2_with fail;refine (bends X HI4.out.pr hXz HXW.out hdp).mono ?_;rintro e w5 ⟨rfl,b5⟩;rw [HE.out];have HI5:=Lib.hid (HI4.out.below b5);have HK5:=Lib.hid (HK4.out.step b5 HH.out.hB);have HO5:=Lib.hid (own_below HO4.out b5);clear HI4 HK4 HO4 b5;cases E
     ·have HMO:=Lib.hid (show paraGo d (ls.drop (i+1)) (acc++[restB X.data.toList]) (i+1 - pos)=q by
       rw [←HPQ.out,para_more HX.out (Or.inr ⟨by rw [HU.out];omega,HE.out⟩),show i+1 - pos=i - pos+1 by omega])
      have HIN:=HI5;have HKP:=HK5;have HOWN:=HO5;clear HI5 HK5 HO5;go_wp2_with fail;refine (HTL.out _).mono ?_;rintro e w6 ⟨rfl,b6⟩;have HI6:=Lib.hid (HIN.out.below b6);have HK6:=Lib.hid (HKP.out.step b6 HH.out.hB);have HO6:=Lib.hid (own_below HOWN.out b6);clear HIN HKP HOWN b6
      go_wp2_with (first
       |(at_builtin;refine wpList_append_own _ rfl _ _ 28 rfl w.heap.size 9 is (.string ⟨#[]⟩) 1 16 Tryz.underlying28 hsi hs0 hs1 hs2 rfl (by decide) _ _ _ rfl (World.ownsRow.alloc HO6.out _) ⟨w6.heap.size,0,none⟩ 1 1 [.string Y] rfl rfl ?c1 ?c2 ?c3 ?c4 ?c5 ?_))
      case c1=>exact cells_new _ _ _ _ rfl
      case c2=>intro u hu;simp at hu;rcases hu with rfl;rfl
      case c3=>unfold maxLen;omega
      case c4=>omega
      case c5=>have:=HK6.out.below.size;have:=HH.out.hB;simp;have:=(World.ownsRow.lt HO6.out);have:=HK6.out.below.size;omega
      intro v7 w7 hown7 hgrow _;have hg1:=(World.grownBy_alloc w6 (.cells #[.string Y] 9) (Value.slice vao acc.length vc).ownBlock).trans hgrow;have hO7:=StrOwn.snoc hown7 HYL.out;have HI7:=Lib.hid (HI6.out.grownS HO6.out HH.out.hB hg1);have HK7:=Lib.hid (HK6.out.grownS HH.out.hB HO6.out hg1);have HO7:=Lib.hid hO7;obtain ⟨_,c1,_,_⟩:=HI7.out.pr.cells;have f1:=HI7.out.pr.frozen 1;clear hgrow hg1 hO7 hown7 HI6 HK6 HO6;go_wp2_with fail;go_roundw
      case rel=>
       refine ⟨i+1,acc++[restB X.data.toList],by omega,by omega,rfl,HI7.out.setPos (i+1) _ (by go_num) (by omega),HK7.out.setPos HH.out.pr.base _,?_,HMO.out,?_,?_⟩
       ·exact own_setCell (a:=⟨b,1,none⟩) HO7.out HI7.out.pr.heap (by decide) _
       ·rw [List.length_append];have:=HTA.out.2;simp;omega
       ·have h1:=HTA.out.1;rw [drop_cons_get HX.out]at h1;rw [tot_app];have h2:wt (restB X.data.toList)≤wt X.data.toList:=wt_dropWhile _ _;unfold tot at h1⊢;simp only [List.map_cons,List.map_nil,List.sum_cons,List.sum_nil]at h1⊢;omega
      case measure=>
       have h1:=(HI7.out.setPos (i+1) (.int .i64 ((i:Int)+1)) (by go_num) (by omega)).pr.cells.2.1;simp only [h1,c1w,Option.getD_some,intOf];omega
     ·have HQ2:=Lib.hid (show q=(acc,0,i - pos) by rw [←HPQ.out];exact para_ends HX.out HANE.out (by rw [HU.out];omega) HE.out);have HACC:=Lib.hid (show 0<acc.length∧tot acc≤1000000 by have:=HTA.out;have:=HI5.out.lt;omega);have HIN:=HI5;have HKP:=HK5;have HOWN:=HO5;clear HI5 HK5 HO5 hpi ha haI;have hne2:0<acc.length:=HACC.out.1;obtain ⟨vao,vc,hv,hvr,_,hvle⟩:=own_slice HOWN.out;first|subst hv|(simp only [Value.slice.injEq,true_and]at hv;obtain ⟨hv1,hv2⟩:=hv;subst hv1;subst hv2)
      obtain ⟨g2,o2,hg2⟩:=RowR.addr hvr hne2;subst hg2;have hjt:=joinLf_tot acc;have hj:=Tryz.strings_Join g2 o2 vc (acc.map fun l=>(⟨l.toArray⟩:ByteArray)) ⟨#[10]⟩ w5 (fun j x hx=>by
       rw [List.getElem?_map]at hx;obtain ⟨l,hl,rfl⟩:=Option.map_eq_some_iff.1 hx;exact StrR.at' hvr j l hl) (World.block_lt_of_cell? _ _ (StrR.at' hvr 0 _ (List.getElem?_eq_getElem hne2))) (by rw [List.length_map];omega) (by rw [List.length_map];exact hvle) (by
        rw [List.map_map,show ((fun x:ByteArray=>x.data.toList) ∘ fun l:List UInt8=>(⟨l.toArray⟩:ByteArray))=id from rfl,List.map_id,show (ByteArray.mk #[10]).data.toList=[10]from rfl,join_lf];have:=HACC.out.2;omega)
      rw [List.map_map,show ((fun x:ByteArray=>x.data.toList) ∘ fun l:List UInt8=>(⟨l.toArray⟩:ByteArray))=id from rfl,List.map_id,show (ByteArray.mk #[10]).data.toList=[10]from rfl,join_lf,List.length_map]at hj;obtain ⟨T,hT⟩:∃T:ByteArray,(⟨(joinLf acc).toArray⟩:ByteArray)=T:=⟨_,rfl⟩
      have hTl:joinLf acc=T.data.toList:=(by rw [←hT]);have hTz:T.size≤1000000:=(by rw [Lib.size_eq,←hTl];have:=HACC.out.2;omega);rw [hT]at hj;have htr:=fun W=>trR_any T W (by omega);obtain ⟨TX,hU⟩:∃V:ByteArray,(⟨(rstripL blankB T.data.toList).toArray⟩:ByteArray)=V:=⟨_,rfl⟩
      rw [hU]at htr;have hUl:rstripL blankB (joinLf acc)=TX.data.toList:=(by rw [hTl,←hU]);have HJ:=Lib.hid hj;have HTR:=Lib.hid htr;have HUL:=Lib.hid hUl;clear hj htr hT hTl hU hUl hvr hjt;go_wp2_with fail;refine HJ.out.mono ?_;rintro e w5 ⟨rfl,b5⟩;have HI5:=Lib.hid (HIN.out.below b5);have HK5:=Lib.hid (HKP.out.step b5 HH.out.hB);clear b5;go_wp2_with fail;refine (HTR.out _).mono ?_;rintro e w6 ⟨rfl,b6⟩;have hi6:=HI5.out.below b6;have hk6:=HK5.out.step b6 HH.out.hB;have HI6:=Lib.hid hi6;have HK6:=Lib.hid hk6;clear b6 hi6 hk6 HI5 HK5 HIN HKP HOWN;go_wp2_with fail;have HB8:=Lib.hid (show Below w6.heap.size w6 (w6.alloc (.cells #[.int .i64 1,.int .i64 0,.int .i64 0,.bool false,.string TX,.string ⟨#[]⟩] 37))from (Below.refl _ _).alloc (Nat.le_refl _) _);refine (bput B b (.slice (some ⟨g,o,none⟩) ls.length lcap) ov i d out ⟨1,0,0,false,TX.data.toList,[]⟩ (w6.alloc (.cells #[.int .i64 1,.int .i64 0,.int .i64 0,.bool false,.string TX,.string ⟨#[]⟩] 37)) (HI6.out.below HB8.out).pr (by have:=HI6.out.ol;omega)).mono ?_;rintro e w9 ⟨rfl,hp9⟩;have HP:=Lib.hid (PPost.trans (HK6.out.step HB8.out HH.out.hB) (Or.inl rfl) hp9);clear hp9;go_wp2_with fail
      go_end0
      refine ⟨rfl,?_⟩;have hp:=HP.out
      (rw [HQ2.out];unfold paraB;rw [if_neg (by simp)];simp only;rw [HUL.out,show pos+(i - pos)=i by have:=HTA.out.2;omega])
      exact hp
   ·have hae:acc=[]:=List.eq_nil_of_length_eq_zero (by omega);have HMO:=Lib.hid (show paraGo d (ls.drop (i+1)) (acc++[restB X.data.toList]) (i+1 - pos)=q by
     rw [←HPQ.out,para_more HX.out (Or.inl hae),show i+1 - pos=i - pos+1 by omega])
    have haI:¬(0:Int)<(acc.length:Int):=(by omega);clear hae;go_wp2_with fail;refine (HTL.out _).mono ?_;rintro e w6 ⟨rfl,b6⟩;have HI6:=Lib.hid (HIN.out.below b6);have HK6:=Lib.hid (HKP.out.step b6 HH.out.hB);have HO6:=Lib.hid (own_below HOWN.out b6);clear HIN HKP HOWN b6
    go_wp2_with (first
     |(at_builtin;refine wpList_append_own _ rfl _ _ 28 rfl w.heap.size 9 is (.string ⟨#[]⟩) 1 16 Tryz.underlying28 hsi hs0 hs1 hs2 rfl (by decide) _ _ _ rfl (World.ownsRow.alloc HO6.out _) ⟨w6.heap.size,0,none⟩ 1 1 [.string Y] rfl rfl ?c1 ?c2 ?c3 ?c4 ?c5 ?_))
    case c1=>exact cells_new _ _ _ _ rfl
    case c2=>intro u hu;simp at hu;rcases hu with rfl;rfl
    case c3=>unfold maxLen;omega
    case c4=>omega
    case c5=>have:=HK6.out.below.size;have:=HH.out.hB;simp;have:=(World.ownsRow.lt HO6.out);have:=HK6.out.below.size;omega
    intro v7 w7 hown7 hgrow _;have hg1:=(World.grownBy_alloc w6 (.cells #[.string Y] 9) (Value.slice vao acc.length vc).ownBlock).trans hgrow;have hO7:=StrOwn.snoc hown7 HYL.out;have HI7:=Lib.hid (HI6.out.grownS HO6.out HH.out.hB hg1);have HK7:=Lib.hid (HK6.out.grownS HH.out.hB HO6.out hg1);have HO7:=Lib.hid hO7;obtain ⟨_,c1,_,_⟩:=HI7.out.pr.cells;have f1:=HI7.out.pr.frozen 1;clear hgrow hg1 hO7 hown7 HI6 HK6 HO6;go_wp2_with fail;go_roundw
    case rel=>
     refine ⟨i+1,acc++[restB X.data.toList],by omega,by omega,rfl,HI7.out.setPos (i+1) _ (by go_num) (by omega),HK7.out.setPos HH.out.pr.base _,?_,HMO.out,?_,?_⟩
     ·exact own_setCell (a:=⟨b,1,none⟩) HO7.out HI7.out.pr.heap (by decide) _
     ·rw [List.length_append];have:=HTA.out.2;simp;omega
     ·have h1:=HTA.out.1;rw [drop_cons_get HX.out]at h1;rw [tot_app];have h2:wt (restB X.data.toList)≤wt X.data.toList:=wt_dropWhile _ _;unfold tot at h1⊢;simp only [List.map_cons,List.map_nil,List.sum_cons,List.sum_nil]at h1⊢;omega
    case measure=>
     have h1:=(HI7.out.setPos (i+1) (.int .i64 ((i:Int)+1)) (by go_num) (by omega)).pr.cells.2.1;simp only [h1,c1w,Option.getD_some,intOf];omega
  ·have hie:i=ls.length:=(by omega);have hd:decide ((i:Int)<(ls.length:Int))=false:=(by rw [hie];simp);have hQ:q=(acc,0,i - pos):=(by rw [←HPQ.out,hie];exact para_end);have HACC:=Lib.hid (show 0<acc.length∧tot acc≤1000000 by have:=HTA.out;have:=hin.lt;omega);have ne:Nonempty (ExtW (Below wr.heap.size wr)):=⟨⟨wr,Below.refl _ _⟩⟩
   have e0:=ext_cell c0;have e1:=ext_cell c1;have HQ2:=Lib.hid hQ;clear hin c0 c1 hie hQ;go_wp2_with fail;refine wp_region_ext (R:=Below wr.heap.size wr) (by kernel_rfl) (by kernel_rfl) (Below.refl _ _).drew ?_;repeat (go_big_quiet_step (fail))
   refine wpQuiet_nil ?_;rintro w2 ⟨nq,hnq⟩;have hb2:Below wr.heap.size wr w2:=(by rw [hnq];exact nq.h);clear hnq nq e0 e1 ne;have HI2:=Lib.hid (HIN.out.below hb2);have HK2:=Lib.hid (HKP.out.step hb2 HH.out.hB);have HO2:=Lib.hid (own_below HOWN.out hb2);clear HIN HKP HOWN hb2;have HIN:=HI2;have HKP:=HK2;have HOWN:=HO2;clear HI2 HK2 HO2 hpi;have hne2:0<acc.length:=HACC.out.1;obtain ⟨vao,vc,hv,hvr,_,hvle⟩:=own_slice HOWN.out;first|subst hv|(simp only [Value.slice.injEq,true_and]at hv;obtain ⟨hv1,hv2⟩:=hv;subst hv1;subst hv2)
   obtain ⟨g2,o2,hg2⟩:=RowR.addr hvr hne2;subst hg2;have hjt:=joinLf_tot acc;have hj:=Tryz.strings_Join g2 o2 vc (acc.map fun l=>(⟨l.toArray⟩:ByteArray)) ⟨#[10]⟩ w2 (fun j x hx=>by
    rw [List.getElem?_map]at hx;obtain ⟨l,hl,rfl⟩:=Option.map_eq_some_iff.1 hx;exact StrR.at' hvr j l hl) (World.block_lt_of_cell? _ _ (StrR.at' hvr 0 _ (List.getElem?_eq_getElem hne2))) (by rw [List.length_map];omega) (by rw [List.length_map];exact hvle) (by
     rw [List.map_map,show ((fun x:ByteArray=>x.data.toList) ∘ fun l:List UInt8=>(⟨l.toArray⟩:ByteArray))=id from rfl,List.map_id,show (ByteArray.mk #[10]).data.toList=[10]from rfl,join_lf];have:=HACC.out.2;omega)
   rw [List.map_map,show ((fun x:ByteArray=>x.data.toList) ∘ fun l:List UInt8=>(⟨l.toArray⟩:ByteArray))=id from rfl,List.map_id,show (ByteArray.mk #[10]).data.toList=[10]from rfl,join_lf,List.length_map]at hj;obtain ⟨T,hT⟩:∃T:ByteArray,(⟨(joinLf acc).toArray⟩:ByteArray)=T:=⟨_,rfl⟩
   have hTl:joinLf acc=T.data.toList:=(by rw [←hT]);have hTz:T.size≤1000000:=(by rw [Lib.size_eq,←hTl];have:=HACC.out.2;omega);rw [hT]at hj;have htr:=fun W=>trR_any T W (by omega);obtain ⟨TX,hU⟩:∃V:ByteArray,(⟨(rstripL blankB T.data.toList).toArray⟩:ByteArray)=V:=⟨_,rfl⟩
   rw [hU]at htr;have hUl:rstripL blankB (joinLf acc)=TX.data.toList:=(by rw [hTl,←hU]);have HJ:=Lib.hid hj;have HTR:=Lib.hid htr;have HUL:=Lib.hid hUl;clear hj htr hT hTl hU hUl hvr hjt;go_wp2_with fail;refine HJ.out.mono ?_;rintro e w5 ⟨rfl,b5⟩;have HI5:=Lib.hid (HIN.out.below b5);have HK5:=Lib.hid (HKP.out.step b5 HH.out.hB);clear b5;go_wp2_with fail;refine (HTR.out _).mono ?_;rintro e w6 ⟨rfl,b6⟩;have hi6:=HI5.out.below b6;have hk6:=HK5.out.step b6 HH.out.hB;have HI6:=Lib.hid hi6;have HK6:=Lib.hid hk6;clear b6 hi6 hk6 HI5 HK5 HIN HKP HOWN;go_wp2_with fail;have HB8:=Lib.hid (show Below w6.heap.size w6 (w6.alloc (.cells #[.int .i64 1,.int .i64 0,.int .i64 0,.bool false,.string TX,.string ⟨#[]⟩] 37))from (Below.refl _ _).alloc (Nat.le_refl _) _);refine (bput B b (.slice (some ⟨g,o,none⟩) ls.length lcap) ov i d out ⟨1,0,0,false,TX.data.toList,[]⟩ (w6.alloc (.cells #[.int .i64 1,.int .i64 0,.int .i64 0,.bool false,.string TX,.string ⟨#[]⟩] 37)) (HI6.out.below HB8.out).pr (by have:=HI6.out.ol;omega)).mono ?_;rintro e w9 ⟨rfl,hp9⟩;have HP:=Lib.hid (PPost.trans (HK6.out.step HB8.out HH.out.hB) (Or.inl rfl) hp9);clear hp9;go_wp2_with fail
   go_end0
   refine ⟨rfl,?_⟩;have hp:=HP.out
   (rw [HQ2.out];unfold paraB;rw [if_neg (by simp)];simp only;rw [HUL.out,show pos+(i - pos)=i by have:=HTA.out.2;omega])
   exact hp
def ListC (V:Nat→List (List UInt8)→List BlkL) (d:Nat):Prop:=
 ∀(B b:Nat) (w:World) (g o lcap:Nat) (ls:List (List UInt8)) (pos:Nat) (ov:Value) (out:List BlkL),BpIn B b w (some ⟨g,o,none⟩) lcap ls pos d ov out→pos<ls.length→(itemL (lineAt (ls.drop pos) 0)).2.2.2.2=true→out.length+30*(ls.length - pos)+30≤100000000→
  Calls Tryz.prog 146 #[.pointer (some ⟨b,0,none⟩)] w fun e w'=>e=.returned (.tuple #[])∧PPost B b w (.slice (some ⟨g,o,none⟩) ls.length lcap) d ov (pos+(itemsGo V d (itemL (lineAt (ls.drop pos) 0)).1 (ls.drop pos) ((ls.drop pos).length+1) 0 0).2)
   (out++⟨4,d,(itemL (lineAt (ls.drop pos) 0)).2.1,((ls.drop pos).take (itemsGo V d (itemL (lineAt (ls.drop pos) 0)).1 (ls.drop pos) ((ls.drop pos).length+1) 0 0).2).all (fun x=> !blankV x),[],[(itemL (lineAt (ls.drop pos) 0)).1]⟩::(itemsGo V d (itemL (lineAt (ls.drop pos) 0)).1 (ls.drop pos) ((ls.drop pos).length+1) 0 0).1) w'
theorem fence_chars {s:List UInt8} (h:(fenceL s).2.2.2=true):(fenceL s).1.toNat<128∧(fenceL s).2.1≤s.length:=by
 unfold fenceL at h⊢;simp only at h⊢;cases hh:(restB s).head? with
 |none=>rw [hh]at h;cases h
 |some c=>
  rw [hh]at h;simp only at h⊢;split at h
  ·cases h
  ·rename_i h1;split at h
   ·cases h
   ·rename_i h2;rw [if_neg h1,if_neg h2];simp only;refine ⟨?_,Nat.le_trans (rowL_le _ _) (restB_le _)⟩;have hc:c=96∨c=126:=by
     by_cases a:c=96
     ·exact Or.inl a
     ·by_cases b:c=126
      ·exact Or.inr b
      ·exact absurd (Or.inr ⟨a,b⟩) h1
    rcases hc with rfl|rfl<;>decide
theorem quoteLines_pos {ls:List (List UInt8)} {s:List UInt8} {i d:Nat} (h:ls[i]? =some s) (hq:quotesP d s=true):0<(quoteLines (ls.drop i)).length:=by
 rw [quote_go h (by unfold quotesP at hq;simp at hq;exact hq.1)];simp
theorem lineAt_zero {ls:List (List UInt8)} {s:List UInt8} {i:Nat} (h:ls[i]? =some s):lineAt (ls.drop i) 0=s:=by
 unfold lineAt;rw [List.getElem?_drop,Nat.add_zero,h];rfl
set_option maxHeartbeats 16000000 in
theorem bnext (V:Nat→List (List UInt8)→List BlkL) {B b:Nat} {w:World} {g o:Nat} {lcap:Nat} {ls:List (List UInt8)} {pos d:Nat} {ov:Value} {out:List BlkL} (h:BpIn B b w (some ⟨g,o,none⟩) lcap ls pos d ov out) (hp0:pos<ls.length) (hol:out.length+30*(ls.length - pos)+30≤100000000)
  (HW1:d<12→WithinC V (d+1)) (HLC:d<11→ListC V d):
  Calls Tryz.prog 112 #[.pointer (some ⟨b,0,none⟩)] w fun e w'=>e=.returned (.tuple #[])∧PPost B b w (.slice (some ⟨g,o,none⟩) ls.length lcap) d ov (pos+(nextB V d (ls.drop pos)).2) (out++(nextB V d (ls.drop pos)).1) w':=by
 obtain ⟨nb,hnb⟩:∃x,nextB V d (ls.drop pos)=x:=⟨_,rfl⟩
 rw [hnb];obtain ⟨X,hx,hcl,hXz⟩:=h.line pos hp0;have hXw:wt X.data.toList≤1000000:=(by have:=tot_mem (List.mem_of_getElem? hx);have:=h.lt;omega);have hz:=lineAt_zero hx;unfold nextB at hnb;simp only at hnb;rw [hz]at hnb;have hqp:=quoteLines_pos (d:=d) hx;have HFE:=Lib.hid (fun W=>fence_any X W hXz);have HHE:=Lib.hid (fun W=>heading_any X W hXz);have HBL:=Lib.hid (fun W=>blank_any X W (by omega));have HID:=Lib.hid (fun W=>indent_any X W hXz);have HRU:=Lib.hid (fun W=>rule_any X W hXz);have HHT:=Lib.hid (fun W=>html_any X W hXz);have hfc:=fence_chars (s:=X.data.toList);obtain ⟨fc,fn,fi,F,hfe⟩:∃a b c e,fenceL X.data.toList=(a,b,c,e):=⟨_,_,_,_,rfl⟩
 obtain ⟨h1,h2,H,hhe⟩:∃a b e,headL X.data.toList=(a,b,e):=⟨_,_,_,rfl⟩
 rw [hfe]at HFE hnb hfc;rw [hhe]at HHE hnb;simp only at HFE HHE hnb hfc;have hIb:=col_le X.data.toList 0;rw [←Lib.size_eq]at hIb;change indentL X.data.toList≤_ at hIb;obtain ⟨BB,hBB⟩:∃x,blankV X.data.toList=x:=⟨_,rfl⟩
 obtain ⟨I,hI⟩:∃x,indentL X.data.toList=x:=⟨_,rfl⟩
 obtain ⟨R,hR⟩:∃x,ruleL X.data.toList=x:=⟨_,rfl⟩
 obtain ⟨T,hT⟩:∃x,htmlL X.data.toList=x:=⟨_,rfl⟩
 obtain ⟨QP,hQP⟩:∃x,quotesP d X.data.toList=x:=⟨_,rfl⟩
 obtain ⟨LP,hLP⟩:∃x,listsP d X.data.toList=x:=⟨_,rfl⟩
 rw [hBB]at HBL hnb;rw [hI]at HID hnb hIb;rw [hR]at HRU hnb;rw [hT]at HHT hnb;rw [hQP]at hnb hqp;rw [hLP]at hnb;obtain ⟨FI,hFI⟩:∃Y:ByteArray,(⟨fi.toArray⟩:ByteArray)=Y:=⟨_,rfl⟩
 have hFIl:fi=FI.data.toList:=(by rw [←hFI]);obtain ⟨HT,hHT⟩:∃Y:ByteArray,(⟨h2.toArray⟩:ByteArray)=Y:=⟨_,rfl⟩
 have hHTl:h2=HT.data.toList:=(by rw [←hHT]);rw [hFI]at HFE;rw [hHT]at HHE;rw [hFIl,hHTl]at hnb;have hsz:X.data.toList.length≤1000000:=(by rw [←Lib.size_eq];exact hXz);have HH:=Lib.hid h;have HNB:=Lib.hid hnb;have HX:=Lib.hid hx;have HQP:=Lib.hid hQP;have HLP:=Lib.hid hLP;have HLZ:=Lib.hid hz;have HFC:=Lib.hid hfc;have HQQ:=Lib.hid hqp;have hdp:=h.dp;have hll:=h.ll;have hlx:=h.lc;obtain ⟨c0,c1,_,_⟩:=h.pr.cells;have ne:Nonempty (ExtW (Below w.heap.size w)):=⟨⟨w,Below.refl _ _⟩⟩
 have e0:=ext_cell c0;have e1:=ext_cell c1;have e2:=ext_cell hcl;have HOL:=Lib.hid hol;have HW1:=Lib.hid HW1;have HLC:=Lib.hid HLC;clear hnb hx hz hqp hfc hfe hhe hBB hI hR hT hQP hLP hFI hFIl hHT hHTl h c0 c1 hcl hol;go_enter Tryz.func112,Tryz.ntmps112
 go_wp2_with fail;refine wp_region_ext (R:=Below w.heap.size w) (by kernel_rfl) (by kernel_rfl) (Below.refl _ _).drew ?_;repeat (go_big_quiet_step (fail))
 refine wpQuiet_nil ?_;rintro w2 ⟨nq,hnq⟩;have hb2:Below w.heap.size w w2:=(by rw [hnq];exact nq.h);clear hnq nq e0 e1 e2 ne;have HI2:=Lib.hid (HH.out.below hb2);have HK2:=Lib.hid (Kp.of_below (b:=b) (ov:=ov) hb2 HH.out.hB);clear hb2;go_wp2_with fail;refine ((HFE.out _)).mono ?_;rintro e w3 ⟨rfl,bb⟩;have HI3:=Lib.hid ((HI2).out.below bb);have HK3:=Lib.hid ((HK2).out.step bb HH.out.hB);clear bb HI2 HK2;go_wp2_with fail;refine ((HHE.out _)).mono ?_;rintro e w4 ⟨rfl,bb⟩;have HI4:=Lib.hid ((HI3).out.below bb);have HK4:=Lib.hid ((HK3).out.step bb HH.out.hB);clear bb HI3 HK3;go_wp2_with fail;refine ((HBL.out _)).mono ?_;rintro e w5 ⟨rfl,bb⟩;have HI5:=Lib.hid ((HI4).out.below bb);have HK5:=Lib.hid ((HK4).out.step bb HH.out.hB);clear bb HI4 HK4;cases BB
 ·go_wp2_with fail;refine ((HID.out _)).mono ?_;rintro e w6 ⟨rfl,bb⟩;have HI6:=Lib.hid ((HI5).out.below bb);have HK6:=Lib.hid ((HK5).out.step bb HH.out.hB);clear bb HI5 HK5;by_cases h4:4≤I
  ·have q4:(4:Int)≤(I:Int):=(by omega);have HN:=Lib.hid (show nb=_ by rw [←HNB.out,if_neg (by simp),if_pos h4]);clear HNB;go_wp2_with fail;refine (bindented HI6.out hp0).mono ?_;rintro e wz ⟨rfl,hpz⟩;have HP:=Lib.hid (PPost.trans (HK6).out (Or.inl rfl) hpz);clear hpz;go_wp2_with fail
   go_end0
   refine ⟨rfl,?_⟩;have hp:=HP.out;rw [HN.out]
   skip
   exact hp
  ·have q4:¬(4:Int)≤(I:Int):=(by omega);cases F
   ·cases H
    ·go_wp2_with fail;refine ((HRU.out _)).mono ?_;rintro e w7 ⟨rfl,bb⟩;have HI7:=Lib.hid ((HI6).out.below bb);have HK7:=Lib.hid ((HK6).out.step bb HH.out.hB);clear bb HI6 HK6;cases R
     ·go_wp2_with fail;refine (bquotes X HI7.out.pr hXz hdp).mono ?_;rintro e w8 ⟨rfl,bb⟩;rw [HQP.out];have HI8:=Lib.hid (HI7.out.below bb);have HK8:=Lib.hid (HK7.out.step bb HH.out.hB);clear bb HI7 HK7;cases QP
      ·go_wp2_with fail;refine (blists X HI8.out.pr hXz hdp).mono ?_;rintro e w9 ⟨rfl,bb⟩;rw [HLP.out];have HI9:=Lib.hid (HI8.out.below bb);have HK9:=Lib.hid (HK8.out.step bb HH.out.hB);clear bb HI8 HK8;cases LP
       ·go_wp2_with fail;refine ((HHT.out _)).mono ?_;rintro e w10 ⟨rfl,bb⟩;have HI10:=Lib.hid ((HI9).out.below bb);have HK10:=Lib.hid ((HK9).out.step bb HH.out.hB);clear bb HI9 HK9;cases T
        ·have HN:=Lib.hid (show nb=_ by rw [←HNB.out,if_neg (by simp),if_neg h4,if_neg (by simp),if_neg (by simp),if_neg (by simp),if_neg (by simp),if_neg (by simp),if_neg (by simp)]);clear HNB;go_wp2_with fail;refine (bpara HI10.out hp0).mono ?_;rintro e wz ⟨rfl,hpz⟩;have HP:=Lib.hid (PPost.trans (HK10).out (Or.inl rfl) hpz);clear hpz;go_wp2_with fail
         go_end0
         refine ⟨rfl,?_⟩;have hp:=HP.out;rw [HN.out]
         skip
         exact hp
        ·have HN:=Lib.hid (show nb=_ by rw [←HNB.out,if_neg (by simp),if_neg h4,if_neg (by simp),if_neg (by simp),if_neg (by simp),if_neg (by simp),if_neg (by simp),if_pos rfl]);clear HNB;go_wp2_with fail;refine (braw HI10.out hp0).mono ?_;rintro e wz ⟨rfl,hpz⟩;have HP:=Lib.hid (PPost.trans (HK10).out (Or.inl rfl) hpz);clear hpz;go_wp2_with fail
         go_end0
         refine ⟨rfl,?_⟩;have hp:=HP.out;rw [HN.out]
         skip
         exact hp
       ·have hl:=HLP.out;unfold listsP at hl;simp only [Bool.and_eq_true,decide_eq_true_eq]at hl;have HN:=Lib.hid (show nb=_ by rw [←HNB.out,if_neg (by simp),if_neg h4,if_neg (by simp),if_neg (by simp),if_neg (by simp),if_neg (by simp),if_pos rfl]);have HCL:=Lib.hid (HLC.out hl.2 B b w9 g o lcap ls pos ov out HI9.out hp0 (by rw [HLZ.out];exact hl.1) HOL.out);clear HNB hl;go_wp2_with fail;refine HCL.out.mono ?_;rintro e wz ⟨rfl,hpz⟩;have HP:=Lib.hid (PPost.trans (HK9).out (Or.inl rfl) hpz);clear hpz;go_wp2_with fail
        go_end0
        refine ⟨rfl,?_⟩;have hp:=HP.out;rw [HN.out]
        (rw [HLZ.out]at hp)
        exact hp
      ·have hl:=HQP.out;unfold quotesP at hl;simp only [Bool.and_eq_true,decide_eq_true_eq]at hl;have HN:=Lib.hid (show nb=_ by rw [←HNB.out,if_neg (by simp),if_neg h4,if_neg (by simp),if_neg (by simp),if_neg (by simp),if_pos rfl]);have HQC:=Lib.hid (bquote V HI8.out (by omega) hl.2 (HW1.out hl.2) (HQQ.out rfl));clear HNB hl;go_wp2_with fail;refine HQC.out.mono ?_;rintro e wz ⟨rfl,hpz⟩;have HP:=Lib.hid (PPost.trans (HK8).out (Or.inl rfl) hpz);clear hpz;go_wp2_with fail
       go_end0
       refine ⟨rfl,?_⟩;have hp:=HP.out;rw [HN.out]
       skip
       exact hp
     ·have HN:=Lib.hid (show nb=_ by rw [←HNB.out,if_neg (by simp),if_neg h4,if_neg (by simp),if_neg (by simp),if_pos rfl]);obtain ⟨_,c1,_,_⟩:=HI7.out.pr.cells;have f1:=HI7.out.pr.frozen 1;have HIS:=Lib.hid (HI7.out.setPos (pos+1) (.int .i64 ((pos:Int)+1)) (by go_num) (by omega));have HKS:=Lib.hid (HK7.out.setPos HH.out.pr.base (.int .i64 ((pos:Int)+1)));clear HNB;go_wp2_with fail;refine (bput B b (.slice (some ⟨g,o,none⟩) ls.length lcap) ov (pos+1) d out ⟨7,0,0,false,[],[]⟩ _ HIS.out.pr (by have:=HIS.out.ol;omega)).mono ?_;rintro e wz ⟨rfl,hpz⟩;have HP:=Lib.hid (PPost.trans (HKS).out (Or.inl rfl) hpz);clear hpz;go_wp2_with fail
      go_end0
      refine ⟨rfl,?_⟩;have hp:=HP.out;rw [HN.out]
      skip
      exact hp
    ·have HN:=Lib.hid (show nb=_ by rw [←HNB.out,if_neg (by simp),if_neg h4,if_neg (by simp),if_pos rfl]);obtain ⟨_,c1,_,_⟩:=HI6.out.pr.cells;have f1:=HI6.out.pr.frozen 1;have HIS:=Lib.hid (HI6.out.setPos (pos+1) (.int .i64 ((pos:Int)+1)) (by go_num) (by omega));have HKS:=Lib.hid (HK6.out.setPos HH.out.pr.base (.int .i64 ((pos:Int)+1)));clear HNB;go_wp2_with fail;refine (bput B b (.slice (some ⟨g,o,none⟩) ls.length lcap) ov (pos+1) d out ⟨2,0,(h1:Int),false,HT.data.toList,[]⟩ _ HIS.out.pr (by have:=HIS.out.ol;omega)).mono ?_;rintro e wz ⟨rfl,hpz⟩;have HP:=Lib.hid (PPost.trans (HKS).out (Or.inl rfl) hpz);clear hpz;go_wp2_with fail
     go_end0
     refine ⟨rfl,?_⟩;have hp:=HP.out;rw [HN.out]
     skip
     exact hp
   ·have hfc:=HFC.out rfl;have HN:=Lib.hid (show nb=_ by rw [←HNB.out,if_neg (by simp),if_neg h4,if_pos rfl]);obtain ⟨_,c1,_,_⟩:=HI6.out.pr.cells;have f1:=HI6.out.pr.frozen 1;have HIS:=Lib.hid (HI6.out.setPos (pos+1) (.int .i64 ((pos:Int)+1)) (by go_num) (by omega));have HKS:=Lib.hid (HK6.out.setPos HH.out.pr.base (.int .i64 ((pos:Int)+1)));obtain ⟨wS,hwS⟩:∃W,w6.setCell ⟨b,1,none⟩ (.int .i64 ((pos:Int)+1))=W:=⟨_,rfl⟩
    rw [hwS]at HIS HKS;clear HNB;go_wp2_with fail;clear hwS c1 f1;refine (HID.out _).mono ?_;rintro e w7 ⟨rfl,bb⟩;have HI7:=Lib.hid (HIS.out.below bb);have HK7:=Lib.hid (HKS.out.step bb HH.out.hB);clear bb HIS HKS;go_wp2_with fail;refine (bfenced fc fn FI I HI7.out (by omega) hfc.1 (by omega) (by omega)).mono ?_;rintro e wz ⟨rfl,hpz⟩;have HP:=Lib.hid (PPost.trans (HK7).out (Or.inl rfl) hpz);clear hpz;go_wp2_with fail
    go_end0
    refine ⟨rfl,?_⟩;have hp:=HP.out;rw [HN.out]
    (rw [show pos+1+fenN fc fn (ls.drop (pos+1))+1=pos+(fenN fc fn (ls.drop (pos+1))+2) by omega]at hp;rw [List.drop_drop])
    exact hp
 ·have HN:=Lib.hid (show nb=_ by rw [←HNB.out,if_pos rfl]);obtain ⟨_,c1,_,_⟩:=HI5.out.pr.cells;have f1:=HI5.out.pr.frozen 1;have HIS:=Lib.hid (HI5.out.setPos (pos+1) (.int .i64 ((pos:Int)+1)) (by go_num) (by omega));have HKS:=Lib.hid (HK5.out.setPos HH.out.pr.base (.int .i64 ((pos:Int)+1)));clear HNB;go_wp2_with fail
  go_end0
  refine ⟨rfl,?_⟩;rw [HN.out];exact ⟨ov,by rw [List.append_nil];exact HIS.out.pr,HKS.out,Or.inl rfl⟩
end Go.Proofs.YtkphljggkajlkaaGreatDoor
namespace Go.Proofs.YtkphljggkajlkaaGreatDoor
open Go.RowKit
theorem one_byte (W:World) (c:UInt8) (g:Nat) (hg:g=W.heap.size):
  (convert 113 9 (.slice (some ⟨g,0,none⟩) 1 1)).run Tryz.prog (W.alloc (.cells #[.int .u8 (c.toNat:Int)] 5))=.ok (.string ⟨#[c]⟩) (W.alloc (.cells #[.int .u8 (c.toNat:Int)] 5)):=by
 subst hg;exact run_convert_bytes_back (W.alloc (.cells #[.int .u8 (c.toNat:Int)] 5)) 113 9 5 ⟨W.heap.size,0,none⟩ 1 [c] Tryz.underlying113 Tryz.underlying5 Tryz.underlying9 (fun j hj=>by
  have:j=0:=(by simp at hj;exact hj);subst this;simp [Addr.add])
end Go.Proofs.YtkphljggkajlkaaGreatDoor
namespace Go.Proofs.YtkphljggkajlkaaGreatDoor
open Go.RowKit
set_option maxRecDepth 100000
set_option linter.unusedVariables false
set_option linter.unusedSimpArgs false
theorem itemN_pos (col:Nat):∀(l:List (List UInt8)) (k m:Nat),1≤m→1≤(itemGo col l k m).2
 |[],_,m,h=>h
 |s::t,k,m,h=>by
  rw [itemGo];split
  ·exact itemN_pos col t (k+1) (if blankV s=true then m else k+1) (by split<;>omega)
  ·exact h
theorem itemN_le (col:Nat):∀(l:List (List UInt8)) (k m:Nat),m≤k→(itemGo col l k m).2≤k+l.length
 |[],k,m,h=>h
 |s::t,k,m,h=>by
  rw [itemGo];split
  ·have:=itemN_le col t (k+1) (if blankV s=true then m else k+1) (by split<;>omega);simp only [List.length_cons];omega
  ·simp only;omega
def nbl (l:List (List UInt8)):Nat:=(l.takeWhile blankV).length
theorem nbl_le (l:List (List UInt8)):nbl l≤l.length:=by
 unfold nbl;induction l with
 |nil=>simp
 |cons x l ih=>
  by_cases h:blankV x=true
  ·rw [List.takeWhile_cons_of_pos h];simpa using ih
  ·rw [List.takeWhile_cons_of_neg h];simp
theorem nbl_stop {ls:List (List UInt8)} {s:List UInt8} {i:Nat} (h:ls[i]? =some s) (hb:blankV s=false):nbl (ls.drop i)=0:=by
 obtain ⟨hi,rfl⟩:=List.getElem?_eq_some_iff.1 h;unfold nbl;rw [List.drop_eq_getElem_cons hi,List.takeWhile_cons_of_neg (by rw [hb];simp)];rfl
theorem nbl_go {ls:List (List UInt8)} {s:List UInt8} {i:Nat} (h:ls[i]? =some s) (hb:blankV s=true):nbl (ls.drop i)=nbl (ls.drop (i+1))+1:=by
 obtain ⟨hi,rfl⟩:=List.getElem?_eq_some_iff.1 h;unfold nbl;rw [List.drop_eq_getElem_cons hi,List.takeWhile_cons_of_pos hb];rfl
theorem nbl_end (ls:List (List UInt8)):nbl (ls.drop ls.length)=0:=by rw [List.drop_length];rfl
theorem items_end {V:Nat→List (List UInt8)→List BlkL} {d:Nat} {sg:UInt8} {ls:List (List UInt8)} {pos f a e:Nat} (h:ls.length≤pos+a):itemsGo V d sg (ls.drop pos) f a e=([],e):=by
 cases f with
 |zero=>rfl
 |succ f=>rw [itemsGo,List.getElem?_drop,List.getElem?_eq_none h]
theorem items_stop {V:Nat→List (List UInt8)→List BlkL} {d:Nat} {sg:UInt8} {ls:List (List UInt8)} {pos f a e:Nat} {s:List UInt8} (h:ls[pos+a]? =some s) (hn:(itemL s).2.2.2.2=false∨(itemL s).1≠sg):itemsGo V d sg (ls.drop pos) f a e=([],e):=by
 cases f with
 |zero=>rfl
 |succ f=>
  rw [itemsGo,List.getElem?_drop,h];simp only;rw [if_pos hn]
theorem items_go {V:Nat→List (List UInt8)→List BlkL} {d:Nat} {sg:UInt8} {ls:List (List UInt8)} {pos f a e:Nat} {s R:List UInt8} {v:Int} {col N:Nat} {P:List (List UInt8)} (h:ls[pos+a]? =some s) (hi:itemL s=(sg,v,col,R,true)) (hq:itemGo col (ls.drop (pos+a+1)) 1 1=(P,N)):
  itemsGo V d sg (ls.drop pos) (f+1) a e=(⟨5,d+1,0,false,[],[]⟩::(V (d+2) ((R::P).take N)++(itemsGo V d sg (ls.drop pos) f (a+N+nbl (ls.drop (pos+(a+N)))) (a+N)).1),(itemsGo V d sg (ls.drop pos) f (a+N+nbl (ls.drop (pos+(a+N)))) (a+N)).2):=by
 rw [itemsGo,List.getElem?_drop,h];simp only;rw [hi,if_neg (by simp)];simp only;rw [List.drop_drop,←Nat.add_assoc,hq];simp only;rw [List.drop_drop];rfl
theorem all_step {l:List (List UInt8)} {k:Nat} {x:List UInt8} (h:l[k]? =some x) (f:List UInt8→Bool):(l.drop k).all f=(f x&&(l.drop (k+1)).all f):=by
 obtain ⟨hk,rfl⟩:=List.getElem?_eq_some_iff.1 h;rw [List.drop_eq_getElem_cons hk,List.all_cons]
theorem item_all_tot {ls:List (List UInt8)} {s R:List UInt8} {i:Nat} (h:ls[i]? =some s) (hr:wt R≤wt s) {col N:Nat} {P:List (List UInt8)} (hq:itemGo col (ls.drop (i+1)) 1 1=(P,N)):tot ((R::P).take N)≤tot ls:=by
 obtain ⟨hi,rfl⟩:=List.getElem?_eq_some_iff.1 h;have h1:=tot_take (R::P) N;have h2:=item_tot col (ls.drop (i+1)) 1 1;rw [hq]at h2;have h3:=tot_drop ls i;rw [List.drop_eq_getElem_cons hi]at h3;unfold tot at h1 h2 h3⊢;simp only [List.map_cons,List.sum_cons]at h1 h2 h3⊢;omega
theorem itemCol_le (s:List UInt8):(itemL s).2.2.1≤6*s.length+10:=by
 unfold itemL;simp only;split
 ·simp
 ·split
  ·simp
  ·rename_i sign hs;split
   ·simp
   ·split
    ·simp
    ·have h1:=(List.getElem?_eq_some_iff.1 hs).1;have h2:=restB_le s;have h3:=col_le s 0;change indentL s≤_ at h3;simp only;split<;>omega
structure ItemsAt (V:Nat→List (List UInt8)→List BlkL) (d:Nat) (sg:UInt8) (ls:List (List UInt8)) (pos:Nat) (Q:List BlkL) (E i f a e:Nat) (acc:List BlkL):Prop where
 ia:i=pos+a
 ea:e≤a
 il:i≤ls.length
 fu:ls.length<pos+a+f
 bd:acc.length+30*(ls.length - i)≤30*(ls.length - pos)
 q1:acc++(itemsGo V d sg (ls.drop pos) f a e).1=Q
 q2:(itemsGo V d sg (ls.drop pos) f a e).2=E
theorem ItemsAt.stop {V:Nat→List (List UInt8)→List BlkL} {d:Nat} {sg:UInt8} {ls:List (List UInt8)} {pos:Nat} {Q:List BlkL} {E i f a e:Nat} {acc:List BlkL} (h:ItemsAt V d sg ls pos Q E i f a e acc) (hh:itemsGo V d sg (ls.drop pos) f a e=([],e)):acc=Q∧e=E:=by
 have h1:=h.q1;have h2:=h.q2;rw [hh]at h1 h2;exact ⟨by simpa using h1,h2⟩
theorem ItemsAt.next {V:Nat→List (List UInt8)→List BlkL} {d:Nat} {sg:UInt8} {ls:List (List UInt8)} {pos:Nat} {Q:List BlkL} {E i f a e:Nat} {acc:List BlkL} (h:ItemsAt V d sg ls pos Q E i f a e acc) {s R:List UInt8} {v:Int} {col N:Nat} {P:List (List UInt8)} (hx:ls[i]? =some s) (hi:itemL s=(sg,v,col,R,true)) (hq:itemGo col (ls.drop (i+1)) 1 1=(P,N)) (hvb:∀l,(V (d+2) l).length≤28*l.length):
  1≤N∧i+N≤ls.length∧0<((R::P).take N).length∧(acc++⟨5,d+1,0,false,[],[]⟩::V (d+2) ((R::P).take N)).length≤30*(ls.length - pos)∧
  ∃f2,ItemsAt V d sg ls pos Q E (i+N+nbl (ls.drop (i+N))) f2 (a+N+nbl (ls.drop (i+N))) (a+N) (acc++⟨5,d+1,0,false,[],[]⟩::V (d+2) ((R::P).take N)):=by
 obtain ⟨ia,ea,il,fu,bd,q1,q2⟩:=h;have hil:=(List.getElem?_eq_some_iff.1 hx).1;have n1:=itemN_pos col (ls.drop (i+1)) 1 1 (Nat.le_refl _);have n2:=itemN_le col (ls.drop (i+1)) 1 1 (Nat.le_refl _);rw [hq]at n1 n2;simp only [List.length_drop]at n1 n2;have n3:=nbl_le (ls.drop (i+N));rw [List.length_drop]at n3;have hv:=hvb ((R::P).take N);have hlt:((R::P).take N).length≤N:=(by rw [List.length_take];omega);subst ia;obtain ⟨f,rfl⟩:∃f',f=f'+1:=⟨f - 1,by omega⟩
 have hgo:=items_go (V:=V) (d:=d) (f:=f) (e:=e) hx hi hq;rw [show pos+(a+N)=pos+a+N by omega]at hgo;rw [hgo]at q1 q2;refine ⟨n1,by omega,?_,?_,f,by omega,by omega,by omega,by omega,?_,?_,q2⟩
 ·rw [List.length_take,List.length_cons];omega
 ·rw [List.length_append,List.length_cons];omega
 ·rw [List.length_append,List.length_cons];omega
 ·rw [←q1,List.append_assoc,List.cons_append]
structure LS (B b:Nat) (ov:Value) (w0:World) (g o lcap:Nat) (ls:List (List UInt8)) (d:Nat) (w:World) (i:Nat) (ov2:Value) (out:List BlkL):Prop where
 bin:BpIn B b w (some ⟨g,o,none⟩) lcap ls i d ov2 out
 kp:Kp B b ov w0 w
 own:ov2.ownBlock=ov.ownBlock∨∃g,ov2.ownBlock=some g∧w0.heap.size≤g
 hB:B≤w0.heap.size
theorem LS.below {B b:Nat} {ov:Value} {w0:World} {g o lcap:Nat} {ls:List (List UInt8)} {d:Nat} {w w':World} {i:Nat} {ov2:Value} {out:List BlkL} (h:LS B b ov w0 g o lcap ls d w i ov2 out) (hb:Below w.heap.size w w'):LS B b ov w0 g o lcap ls d w' i ov2 out:=
 ⟨h.bin.below hb,h.kp.step hb h.hB,h.own,h.hB⟩
theorem LS.setPos {B b:Nat} {ov:Value} {w0:World} {g o lcap:Nat} {ls:List (List UInt8)} {d:Nat} {w:World} {i:Nat} {ov2:Value} {out:List BlkL} (h:LS B b ov w0 g o lcap ls d w i ov2 out) (p:Nat) (u:Value) (hu:u=.int .i64 (p:Int)) (hp:p≤ls.length+1):LS B b ov w0 g o lcap ls d (w.setCell ⟨b,1,none⟩ u) p ov2 out:=
 ⟨h.bin.setPos p u hu hp,h.kp.setPos h.bin.pr.base u,h.own,h.hB⟩
theorem LS.post {B b:Nat} {ov:Value} {w0:World} {g o lcap:Nat} {ls:List (List UInt8)} {d:Nat} {w:World} {i:Nat} {ov2:Value} {out:List BlkL} (h:LS B b ov w0 g o lcap ls d w i ov2 out) {p2:Nat} {out2:List BlkL} {w2:World} (hp:PPost B b w (.slice (some ⟨g,o,none⟩) ls.length lcap) d ov2 p2 out2 w2) (h1:p2≤ls.length+1) (h2:out2.length≤100000000):∃ov3,LS B b ov w0 g o lcap ls d w2 p2 ov3 out2:=by
 obtain ⟨ov3,g1,g2,g3⟩:=hp;refine ⟨ov3,⟨g1,h.bin.lr.belowB g2.below h.bin.lb,h.bin.lb,h.bin.lt,h.bin.lc,h1,h.bin.dp,h2⟩,h.kp.trans h.own g2,?_,h.hB⟩;rcases g3 with e|⟨g,e,hg⟩
 ·rw [e];exact h.own
 ·exact Or.inr ⟨g,e,Nat.le_trans h.kp.below.size hg⟩
theorem LS.item {B b:Nat} {ov:Value} {w0:World} {g o lcap:Nat} {ls:List (List UInt8)} {d:Nat} {w w2:World} {i p2:Nat} {ov2:Value} {out:List BlkL} (h:LS B b ov w0 g o lcap ls d w i ov2 out) (h1:BpIn B b w2 (some ⟨g,o,none⟩) lcap ls p2 d ov2 out) (h2:Kp B b ov2 w w2):LS B b ov w0 g o lcap ls d w2 p2 ov2 out:=
 ⟨h1,h.kp.trans h.own h2,h.own,h.hB⟩
theorem LS.tight {B b:Nat} {ov:Value} {w0:World} {g o lcap:Nat} {ls:List (List UInt8)} {d:Nat} {w:World} {i q cap n:Nat} {out:List BlkL} (h:LS B b ov w0 g o lcap ls d w i (.slice (some ⟨q,0,none⟩) n cap) out) (k:Nat) (x:BlkL) (hx:out[k]? =some x) (t:Bool):
  PPost B b w0 (.slice (some ⟨g,o,none⟩) ls.length lcap) d ov i (out.set k {x with tight:=t}) (w.setCell ⟨q,k*6+3,none⟩ (.bool t)):=by
 have hown:=h.bin.pr.own;have hn:n=out.length:=(own_rowR hown).1;subst hn;have hst:=World.ownsRow.stored hown (k*6+3) (.bool t);have hlt:=World.ownsRow.lt hown q rfl;have hqb:(some b:Option Nat)≠some q:=own_other hown h.bin.pr.heap (by decide);have hqb':b≠q:=fun e=>hqb (by rw [e]);refine ⟨.slice (some ⟨q,0,none⟩) out.length cap,⟨?_,?_,h.bin.pr.base⟩,⟨h.kp.below.setCell (p:=⟨q,k*6+3,none⟩) hlt.1 _,fun j hj hjb hjo=>?_⟩,h.own⟩
 ·rw [Below.heap_setCell _ _ _ _ hqb'];exact h.bin.pr.heap
 ·have h1:=hst.1;rw [flat_set blkCells 6 blk_len out k 3 x {x with tight:=t} (.bool t) hx (by omega) rfl]at h1;unfold BlksOwn;rw [List.length_set];exact h1
 ·rw [Below.heap_setCell _ _ _ _ (fun e=>?_)]
  ·exact h.kp.keep j hj hjb hjo
  ·have e':j=q:=e;clear e;subst e';rcases h.own with e|⟨q2,e,hq2⟩
   ·exact hjo e
   ·have:=Option.some.inj e;simp only at this hj;omega
end Go.Proofs.YtkphljggkajlkaaGreatDoor
namespace Go.Proofs.YtkphljggkajlkaaGreatDoor
set_option linter.unusedVariables false
set_option linter.unusedSimpArgs false
def okB (c:UInt8):Bool:=c !=0&&decide (c.toNat<128)&&c !=13
theorem enc_ascii (c:UInt8) (h:c.toNat<128):Lib.encodeRune ((c.toNat:Nat):Int)=[c]:=by
 have h':∀n:Fin 128,Lib.encodeRune ((n.val:Nat):Int)=[UInt8.ofNat n.val]:=(by decide);have:=h' ⟨c.toNat,h⟩;simpa using this
theorem lines_one (x:List UInt8) (h:(10:UInt8)∉x) (t:List UInt8):linesL (x++10::t)=x::linesL t:=by
 induction x with
 |nil=>simp [linesL]
 |cons c x ih=>
  have hc:c≠10:=fun e=>h (by rw [e];exact List.mem_cons_self ..);rw [List.cons_append,linesL,if_neg hc,ih (fun e=>h (List.mem_cons_of_mem _ e))]
theorem items_congr (W W':Nat→List (List UInt8)→List BlkL) (d:Nat) (h:∀l,W (d+2) l=W' (d+2) l) (sign:UInt8) (l:List (List UInt8)):∀f a e,itemsGo W d sign l f a e=itemsGo W' d sign l f a e
 |0,a,e=>rfl
 |f+1,a,e=>by
  rw [itemsGo,itemsGo];split
  ·rfl
  ·split
   ·rfl
   ·simp only [h,items_congr W W' d h sign l f]
theorem next_congr (W W':Nat→List (List UInt8)→List BlkL) (d:Nat) (h1:d<12→∀l,W (d+1) l=W' (d+1) l) (h2:d<11→∀l,W (d+2) l=W' (d+2) l) (l:List (List UInt8)):nextB W d l=nextB W' d l:=by
 unfold nextB;simp only;by_cases hq:quotesP d (lineAt l 0)=true
 ·have hd:d<12:=(by unfold quotesP at hq;simp at hq;exact hq.2);simp only [h1 hd];by_cases hl:listsP d (lineAt l 0)=true
  ·have hd2:d<11:=(by unfold listsP at hl;simp at hl;exact hl.2);simp only [items_congr W W' d (h2 hd2)]
  ·rw [if_neg hl,if_neg hl]
 ·rw [if_neg hq,if_neg hq];by_cases hl:listsP d (lineAt l 0)=true
  ·have hd2:d<11:=(by unfold listsP at hl;simp at hl;exact hl.2);simp only [items_congr W W' d (h2 hd2)]
  ·rw [if_neg hl,if_neg hl]
theorem all_congr (W W':Nat→List (List UInt8)→List BlkL) (d:Nat) (h1:d<12→∀l,W (d+1) l=W' (d+1) l) (h2:d<11→∀l,W (d+2) l=W' (d+2) l):∀f l,allGoB W f d l=allGoB W' f d l
 |0,l=>rfl
 |f+1,l=>by rw [allGoB,allGoB,next_congr W W' d h1 h2 l,all_congr W W' d h1 h2 f]
theorem blocksK_eq:∀(k k' d:Nat) (l:List (List UInt8)),12<k+d→12<k'+d→0<k→0<k'→blocksK k d l=blocksK k' d l
 |0,_,d,l,_,_,h,_=>by omega
 |_,0,d,l,_,_,_,h=>by omega
 |k+1,k'+1,d,l,h,h',_,_=>by
  rw [blocksK,blocksK];refine all_congr _ _ d (fun hd l=>?_) (fun hd l=>?_) _ _
  ·exact blocksK_eq k k' (d+1) l (by omega) (by omega) (by omega) (by omega)
  ·exact blocksK_eq k k' (d+2) l (by omega) (by omega) (by omega) (by omega)
end Go.Proofs.YtkphljggkajlkaaGreatDoor
namespace Go.Proofs.YtkphljggkajlkaaGreatDoor
open Go.RowKit
set_option maxRecDepth 100000
set_option linter.unusedVariables false
set_option linter.unusedSimpArgs false
def VB (V:Nat→List (List UInt8)→List BlkL) (d:Nat):Prop:=∀l,(V d l).length≤(28 - 2*d)*l.length
theorem items_le (V:Nat→List (List UInt8)→List BlkL) (d c:Nat) (hv:∀l,(V (d+2) l).length≤c*l.length) (sg:UInt8) (l:List (List UInt8)):∀f a e,e≤a→e≤l.length→e≤(itemsGo V d sg l f a e).2∧(itemsGo V d sg l f a e).2≤l.length∧(itemsGo V d sg l f a e).1.length≤(c+1)*((itemsGo V d sg l f a e).2 - e)
 |0,a,e,_,h=>⟨Nat.le_refl _,h,Nat.zero_le _⟩
 |f+1,a,e,hea,h=>by
  rw [itemsGo];split
  ·exact ⟨Nat.le_refl _,h,Nat.zero_le _⟩
  ·rename_i s hs;split
   ·exact ⟨Nat.le_refl _,h,Nat.zero_le _⟩
   ·have hal:=(List.getElem?_eq_some_iff.1 hs).1;have n1:=itemN_pos (itemL s).2.2.1 (l.drop (a+1)) 1 1 (Nat.le_refl _);have n2:=itemN_le (itemL s).2.2.1 (l.drop (a+1)) 1 1 (Nat.le_refl _);rw [List.length_drop]at n2;simp only;obtain ⟨q,hq⟩:∃q,itemGo (itemL s).2.2.1 (l.drop (a+1)) 1 1=q:=⟨_,rfl⟩
    rw [hq]at n1 n2⊢;obtain ⟨i1,i2,i3⟩:=items_le V d c hv sg l f (a+q.2+((l.drop (a+q.2)).takeWhile blankV).length) (a+q.2) (by omega) (by omega);obtain ⟨z,hz⟩:∃z,itemsGo V d sg l f (a+q.2+((l.drop (a+q.2)).takeWhile blankV).length) (a+q.2)=z:=⟨_,rfl⟩
    rw [hz]at i1 i2 i3⊢;refine ⟨by omega,i2,?_⟩;have hw:=hv (((itemL s).2.2.2.1::q.1).take q.2);have hlt:(((itemL s).2.2.2.1::q.1).take q.2).length≤q.2:=(by rw [List.length_take];omega);have h1:=Nat.mul_le_mul_left c hlt;have h2:(c+1)*(z.2 - e)≥(c+1)*(q.2+(z.2 - (a+q.2))):=Nat.mul_le_mul_left _ (by omega);rw [Nat.mul_add]at h2;have h3:(c+1)*q.2=c*q.2+q.2:=Nat.succ_mul _ _;simp only [List.length_cons,List.length_append];omega
theorem items_first {V:Nat→List (List UInt8)→List BlkL} {d:Nat} {l:List (List UInt8)} (h:(itemL (lineAt l 0)).2.2.2.2=true) (hl:l≠[]) (c:Nat) (hv:∀l,(V (d+2) l).length≤c*l.length):1≤(itemsGo V d (itemL (lineAt l 0)).1 l (l.length+1) 0 0).2:=by
 obtain ⟨s,t,rfl⟩:∃s t,l=s::t:=(by cases l with|nil=>exact absurd rfl hl|cons s t=>exact ⟨s,t,rfl⟩);have hs:lineAt (s::t) 0=s:=rfl;rw [hs]at h⊢;rw [itemsGo];simp only [List.getElem?_cons_zero];rw [if_neg (by rw [h];simp)];simp only;have n1:=itemN_pos (itemL s).2.2.1 ((s::t).drop (0+1)) 1 1 (Nat.le_refl _);have n2:=itemN_le (itemL s).2.2.1 ((s::t).drop (0+1)) 1 1 (Nat.le_refl _);rw [List.length_drop]at n2;have:=(items_le V d c hv (itemL s).1 (s::t) (s::t).length (0+(itemGo (itemL s).2.2.1 ((s::t).drop (0+1)) 1 1).2+(((s::t).drop (0+(itemGo (itemL s).2.2.1 ((s::t).drop (0+1)) 1 1).2)).takeWhile blankV).length) (0+(itemGo (itemL s).2.2.1 ((s::t).drop (0+1)) 1 1).2) (by omega) (by simp at n2⊢;omega)).1;omega
theorem quoteLines_le:∀l:List (List UInt8),(quoteLines l).length≤l.length
 |[]=>Nat.le_refl _
 |s::t=>by
  rw [quoteLines];have:=quoteLines_le t;split
  ·simp only [List.length_cons];omega
  ·simp
theorem ind_bounds:∀(l:List (List UInt8)) (a e:Nat),e≤a→e≤indentedEnd l a e∧indentedEnd l a e≤a+l.length
 |[],a,e,h=>⟨Nat.le_refl _,by simp [indentedEnd];omega⟩
 |s::t,a,e,h=>by
  rw [indentedEnd];have h1:=ind_bounds t (a+1) e (by omega);have h2:=ind_bounds t (a+1) (a+1) (Nat.le_refl _);rw [List.length_cons];split
  ·omega
  ·split<;>omega
theorem para_bounds (d:Nat):∀(l acc:List (List UInt8)) (k:Nat),k≤(paraGo d l acc k).2.2∧(paraGo d l acc k).2.2≤k+l.length
 |[],acc,k=>⟨Nat.le_refl _,Nat.le_refl _⟩
 |s::t,acc,k=>by
  rw [paraGo];have:=para_bounds d t (acc++[restB s]) (k+1);rw [List.length_cons];split
  ·simp only;omega
  ·split
   ·simp only;omega
   ·omega
theorem para_pos (d:Nat) (s:List UInt8) (t:List (List UInt8)):1≤(paraGo d (s::t) [] 0).2.2:=by
 rw [paraGo,if_neg (by simp),if_neg (by simp)];exact (para_bounds d t _ 1).1
theorem tw_le {α:Type} (p:α→Bool):∀l:List α,(l.takeWhile p).length≤l.length
 |[]=>Nat.le_refl _
 |x::l=>by
  have:=tw_le p l;by_cases h:p x=true
  ·rw [List.takeWhile_cons_of_pos h];simp only [List.length_cons];omega
  ·rw [List.takeWhile_cons_of_neg h];simp
theorem next_bounds (V:Nat→List (List UInt8)→List BlkL) (d:Nat) (l:List (List UInt8)) (hl:l≠[]) (hd:d≤12) (h1:d<12→VB V (d+1)) (h2:d<11→VB V (d+2)):
  1≤(nextB V d l).2∧(nextB V d l).2≤l.length+1∧(nextB V d l).1.length≤(28 - 2*d)*min (nextB V d l).2 l.length:=by
 obtain ⟨s,t,rfl⟩:∃s t,l=s::t:=(by cases l with|nil=>exact absurd rfl hl|cons s t=>exact ⟨s,t,rfl⟩);have hs:lineAt (s::t) 0=s:=rfl;have one:∀n:Nat,1≤n→n≤(s::t).length+1→1≤(28 - 2*d)*min n (s::t).length:=fun n h1 h2=>by
  have:1≤min n (s::t).length:=(by rw [List.length_cons];omega);have h3:1≤28 - 2*d:=(by omega);exact Nat.mul_le_mul h3 this
 unfold nextB;simp only;rw [hs];split
 ·exact ⟨Nat.le_refl _,by simp,Nat.zero_le _⟩
 ·rename_i hb;have hb':blankV s=false:=(by simpa using hb);split
  ·rename_i h4;have hi:=ind_bounds t 1 1 (Nat.le_refl _);have he:indentedEnd (s::t) 0 0=indentedEnd t 1 1:=(by rw [indentedEnd,if_neg hb,if_pos h4]);simp only;rw [he];have e1:1≤indentedEnd t 1 1:=hi.1;have e2:indentedEnd t 1 1≤(s::t).length+1:=(by rw [List.length_cons];omega);exact ⟨e1,e2,one _ e1 e2⟩
  ·split
   ·have h3:=tw_le (fun x=> !closesF x (fenceL s).1 (fenceL s).2.1) ((s::t).drop 1);have h5:((s::t).drop 1).length=t.length:=(by simp);have e2:(((s::t).drop 1).takeWhile fun x=> !closesF x (fenceL s).1 (fenceL s).2.1).length+2≤(s::t).length+1:=(by rw [List.length_cons];omega);exact ⟨by omega,e2,one _ (by omega) e2⟩
   ·split
    ·exact ⟨Nat.le_refl _,by simp,one 1 (Nat.le_refl _) (by simp)⟩
    ·split
     ·exact ⟨Nat.le_refl _,by simp,one 1 (Nat.le_refl _) (by simp)⟩
     ·split
      ·rename_i hq;have hp:=quoteLines_pos (ls:=s::t) (i:=0) (d:=d) rfl hq;rw [List.drop_zero]at hp;have hle:=quoteLines_le (s::t);have hd12:d<12:=(by unfold quotesP at hq;simp at hq;exact hq.2);have hv:=h1 hd12 (quoteLines (s::t));refine ⟨hp,by omega,?_⟩;show (V (d+1) (quoteLines (s::t))).length+1≤_;rw [Nat.min_eq_left hle];have h3:(28 - 2*d)*(quoteLines (s::t)).length=(28 - 2*(d+1))*(quoteLines (s::t)).length+2*(quoteLines (s::t)).length:=by
        rw [←Nat.add_mul];congr 1;omega
       omega
      ·split
       ·rename_i hq;have hi:(itemL s).2.2.2.2=true:=(by unfold listsP at hq;simp at hq;exact hq.1);have hd11:d<11:=(by unfold listsP at hq;simp at hq;exact hq.2);have hv:=h2 hd11;have f1:=items_first (V:=V) (d:=d) (l:=s::t) hi (by simp) _ hv;have f2:=items_le V d _ hv (itemL s).1 (s::t) ((s::t).length+1) 0 0 (Nat.le_refl _) (Nat.zero_le _);rw [hs]at f1;obtain ⟨z,hz⟩:∃z,itemsGo V d (itemL s).1 (s::t) ((s::t).length+1) 0 0=z:=⟨_,rfl⟩
        rw [hz]at f1 f2⊢;refine ⟨f1,by have:=f2.2.1;omega,?_⟩;show z.1.length+1≤_;rw [Nat.min_eq_left f2.2.1];have h3:(28 - 2*d)*z.2=(28 - 2*(d+2)+1)*z.2+3*z.2:=by
         rw [←Nat.add_mul];congr 1;omega
        have h4:=f2.2.2;rw [Nat.sub_zero]at h4;omega
       ·split
        ·have h3:=tw_le (fun x=> !blankV x) (s::t);have h5:1≤((s::t).takeWhile fun x=> !blankV x).length:=(by rw [List.takeWhile_cons_of_pos (by rw [hb'];rfl)];simp);exact ⟨h5,by omega,one _ h5 (by omega)⟩
        ·have h3:=para_bounds d (s::t) [] 0;have h5:=para_pos d s t;refine ⟨h5,by omega,?_⟩;simp only [List.length_cons,List.length_nil]at one⊢;exact one _ h5 (by simp only [List.length_cons]at h3;omega)
theorem all_go {V:Nat→List (List UInt8)→List BlkL} {d i f:Nat} {ls:List (List UInt8)} (h:i<ls.length):allGoB V (f+1) d (ls.drop i)=(nextB V d (ls.drop i)).1++allGoB V f d (ls.drop (i+(nextB V d (ls.drop i)).2)):=by
 rw [allGoB,if_neg (fun e=>by have:=congrArg List.length e;simp at this;omega),List.drop_drop]
theorem all_end {V:Nat→List (List UInt8)→List BlkL} {d i f:Nat} {ls:List (List UInt8)} (h:ls.length≤i):allGoB V f d (ls.drop i)=[]:=by
 rw [List.drop_eq_nil_of_le h];cases f<;>simp [allGoB]
theorem all_len (V:Nat→List (List UInt8)→List BlkL) (d:Nat) (hd:d≤12) (h1:d<12→VB V (d+1)) (h2:d<11→VB V (d+2)) (l:List (List UInt8)):∀f i,(allGoB V f d (l.drop i)).length≤(28 - 2*d)*(l.length - i)
 |0,i=>Nat.zero_le _
 |f+1,i=>by
  by_cases hi:i<l.length
  ·rw [all_go hi,List.length_append];have hn:=next_bounds V d (l.drop i) (fun e=>by have:=congrArg List.length e;simp at this;omega) hd h1 h2;have ih:=all_len V d hd h1 h2 l f (i+(nextB V d (l.drop i)).2);rw [List.length_drop]at hn;have h3:(28 - 2*d)*(l.length - i)=(28 - 2*d)*min (nextB V d (l.drop i)).2 (l.length - i)+(28 - 2*d)*(l.length - (i+(nextB V d (l.drop i)).2)):=by
    rw [←Nat.mul_add];congr 1;omega
   omega
  ·rw [all_end (by omega)];exact Nat.zero_le _
def blocksV (d:Nat) (l:List (List UInt8)):List BlkL:=blocksK 14 d l
theorem blocksV_all (d:Nat) (l:List (List UInt8)):blocksV d l=allGoB blocksV (l.length+1) d l:=by
 unfold blocksV;rw [blocksK];exact all_congr _ _ d (fun _ l=>blocksK_eq 13 14 (d+1) l (by omega) (by omega) (by omega) (by omega)) (fun _ l=>blocksK_eq 13 14 (d+2) l (by omega) (by omega) (by omega) (by omega)) _ _
theorem blocksV_len:∀n d,d+n=12→VB blocksV d
 |n,d,h=>by
  intro l;rw [blocksV_all];have h1:d<12→VB blocksV (d+1):=fun hd=>blocksV_len (n - 1) (d+1) (by omega);have h2:d<11→VB blocksV (d+2):=fun hd=>blocksV_len (n - 2) (d+2) (by omega);have:=all_len blocksV d (by omega) h1 h2 l (l.length+1) 0;rw [List.drop_zero,Nat.sub_zero]at this;exact this
 termination_by n=>n
end Go.Proofs.YtkphljggkajlkaaGreatDoor
