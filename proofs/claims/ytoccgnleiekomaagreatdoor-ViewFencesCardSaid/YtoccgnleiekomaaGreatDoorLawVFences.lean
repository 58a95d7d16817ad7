/-
  LawVFences: a part of the proof.
-/
import Derived.Test.YtoccgnleiekomaaGreatDoorVwBZ
import Derived.Test.YtoccgnleiekomaaGreatDoorVwBZc
namespace Go.Proofs.YtoccgnleiekomaaGreatDoor
open Go.RowKit
set_option maxRecDepth 100000
set_option linter.unusedVariables false
set_option linter.unusedSimpArgs false
def cntNe (l:List BlkL):Nat:=(l.filter fun b=>decide (b.text≠[])).length
theorem cntNe_succ (l:List BlkL) (j:Nat) (x:BlkL) (h:l[j]? =some x):cntNe (l.take (j+1))=cntNe (l.take j)+if x.text=[]then 0 else 1:=by
 obtain ⟨h1,rfl⟩:=List.getElem?_eq_some_iff.1 h;rw [List.take_succ_eq_append_getElem h1];unfold cntNe;rw [List.filter_append,List.length_append];by_cases hx:l[j].text=[]<;>simp [hx]
theorem cntNe_le (l:List BlkL) (j:Nat):cntNe (l.take j)≤l.length:=by
 unfold cntNe;exact Nat.le_trans (List.length_filter_le ..) (by rw [List.length_take];omega)
theorem fen_hit {tx t:List UInt8} (i:Nat) (h:(tx.drop i).take t.length=t) (hl:Letters t) (h0:t≠[]) (hx:tx=[97,10]∨tx=[98]∨tx=[]):t=[97]∨t=[98]:=by
 cases t with
 |nil=>exact absurd rfl h0
 |cons c r=>
  have hc:=hl c (List.mem_cons_self ..);rcases hx with rfl|rfl|rfl
  ·match i,h with
   |0,h=>
    simp only [List.drop_zero,List.length_cons,List.take_succ_cons,List.cons.injEq]at h;obtain ⟨rfl,h2⟩:=h;cases r with
    |nil=>exact Or.inl rfl
    |cons d s=>
     simp only [List.length_cons,List.take_succ_cons,List.cons.injEq]at h2;have:=hl d (List.mem_cons_of_mem _ (List.mem_cons_self ..));rw [←h2.1]at this;exact absurd this.1 (by decide)
   |1,h=>
    simp only [List.drop_succ_cons,List.drop_zero,List.length_cons,List.take_succ_cons,List.cons.injEq]at h;rw [←h.1]at hc;exact absurd hc.1 (by decide)
   |(j+2),h=>simp at h
  ·match i,h with
   |0,h=>
    simp only [List.drop_zero,List.length_cons,List.take_succ_cons,List.take_nil,List.cons.injEq]at h;obtain ⟨rfl,rfl⟩:=h;exact Or.inr rfl
   |(j+1),h=>simp at h
  ·simp at h
set_option maxHeartbeats 8000000 in
theorem law_vfences (k:Int) (text:ByteArray) (_wk:(Lit.int .i64 k).wf=true) (w:World) (hE:EnvI w):
  Calls Tryz.prog 8 #[.int .i64 k,.string text] w fun e w'=>e=.returned (.bool true)∧Below w.heap.size w w':=by
 by_cases h0:text.size=0
 ·have ht:=empty_yes h0;go_enter Tryz.func8,Tryz.ntmps8
  go_wp2_with fail;refine (alive23_any _ hE).mono ?_;rintro e w1 ⟨rfl,b1⟩;go_wp2_with fail;go_ret;exact ⟨rfl,b1⟩
 ·have ht:=empty_no (s:=text) (by omega);by_cases h30:(30:Int)<(text.size:Int)
  ·go_enter Tryz.func8,Tryz.ntmps8
   go_wp2_with fail;refine (alive23_any _ hE).mono ?_;rintro e w1 ⟨rfl,b1⟩;go_wp2_with fail;go_ret;exact ⟨rfl,b1⟩
  ·have HE:=Lib.hid hE;clear hE;go_enter Tryz.func8,Tryz.ntmps8
   go_wp2_with fail;refine (alive23_any _ HE.out).mono ?_;rintro e w1 ⟨rfl,b1⟩;go_wp2_with fail;go_loop [5] (fun ui=>∃i:Nat,i≤(text).size∧ui=.int .i64 i∧Letters ((text).data.toList.take i)) (fun ui=>(text).size - (intOf ui).toNat)
   case atStart=>exact ⟨0,Nat.zero_le _,rfl,fun b hb=>by simp at hb⟩
   case round=>
    obtain ⟨i,hi,rfl,hl⟩:=hrel;have HL:=Lib.hid hl;clear hl;by_cases hlt:i<(text).size
    ·have hg:=Lib.data_getElem? text i hlt;obtain ⟨d,hd⟩:∃d,(text)[i]=d:=⟨_,rfl⟩
     rw [hd]at hg;have HG:=Lib.hid hg;clear hg;by_cases t1:(d.toNat:Int)<97
     ·go_wp2_with fail;go_ret;exact ⟨rfl,b1⟩
     ·by_cases t2:(122:Int)<(d.toNat:Int)
      ·go_wp2_with fail;go_ret;exact ⟨rfl,b1⟩
      ·have HN:=Lib.hid (lettersV_take HL.out HG.out (by omega));go_wp2_with fail;go_round;case rel=>exact ⟨i+1,by omega,by go_num,HN.out⟩
       case measure=>simp [intOf];omega
    ·obtain rfl:i=text.size:=(by omega);have HL2:=Lib.hid (show Letters text.data.toList by have:=HL.out;rwa [take_all]at this);go_wp2_with fail;refine (see_any k _).mono ?_;rintro e w2 ⟨sb,v,K,rfl,hse,b2⟩;have HB2:=Lib.hid (below_step b1 b2);have HSE:=Lib.hid hse;clear b1 b2 hse HL;have hts:text.size≤30:=(by omega);obtain ⟨D,hD⟩:∃D:ByteArray,((⟨#[126,126,126,10,97,10,58,58,58,123,104,105,103,104,125,10]⟩:ByteArray)++text++(⟨#[10,58,58,58,10,98,32,123,124,104,105,103,104,58]⟩:ByteArray)++text++(⟨#[124,125,10,126,126,126,10]⟩:ByteArray))=D:=⟨_,rfl⟩
     have hDl:D.data.toList=fenDoc text.data.toList:=by
      rw [←hD];simp only [ByteArray.data_append,Array.toList_append];simp [fenDoc,fenLines,joinL,divLine,spanLine,highL]
     have hds:D.size≤6000:=by
      rw [←hD];simp only [ByteArray.size_append,show (⟨#[126,126,126,10,97,10,58,58,58,123,104,105,103,104,125,10]⟩:ByteArray).size=16 from rfl,show (⟨#[10,58,58,58,10,98,32,123,124,104,105,103,104,58]⟩:ByteArray).size=14 from rfl,show (⟨#[124,125,10,126,126,126,10]⟩:ByteArray).size=7 from rfl];omega
     obtain ⟨st,hst⟩:∃st,buildL (diaSeer K) D.data.toList=st:=⟨_,rfl⟩
     obtain ⟨see,hsee⟩:∃b,(diaSeer K).see1 highL=b:=⟨_,rfl⟩
     have hlaw:=fences_law (diaSeer K) text.data.toList HL2.out (fun e=>h0 (by rw [Lib.size_eq,e];rfl)) (dia_known (J:=3) (by rw [dia_eq];rfl) K);rw [←hDl,hst,hsee]at hlaw;have HLW:=Lib.hid hlaw;have HSS:=Lib.hid hsee;have HV:=Lib.hid (view_any HSE.out (HE.out.below HB2.out) D hds _ hst);clear hst hlaw hsee hDl;go_wp2_with fail;refine (HV.out).mono ?_;rintro e w3 ⟨o0,o1,o2,o3,c0,c1,c2,c3,rfl,hv,hb3⟩;have hse3:=(HSE.out).below hb3;have hbA:=(Below.refl w3.heap.size w3).alloc (Nat.le_refl _) (.cells #[.slice o0 st.blocks.length c0,.slice o1 st.atoms.length c1,.slice o2 st.defs.length c2,.slice o3 st.diags.length c3] 33);have hvA:=hv.below hbA;have hseA:=hse3.below hbA;have hkA:=heap_alloc_new w3 (.cells #[.slice o0 st.blocks.length c0,.slice o1 st.atoms.length c1,.slice o2 st.defs.length c2,.slice o3 st.diags.length c3] 33);have HBA:=Lib.hid ((below_step HB2.out hb3).trans (hbA.mono (below_step HB2.out hb3).size));go_upto_region 12 with (fail)
     try simp only [List.length_cons,List.length_nil,List.length_replicate,Nat.zero_add,Nat.reduceAdd]
     generalize w3.alloc (.cells #[.slice o0 st.blocks.length c0,.slice o1 st.atoms.length c1,.slice o2 st.defs.length c2,.slice o3 st.diags.length c3] 33)=WA at hvA hseA hkA HBA⊢;obtain ⟨vb,hvb⟩:∃n,w3.heap.size=n:=⟨_,rfl⟩
     rw [hvb]at hkA⊢;have HKA:=Lib.hid hkA;have HVA:=Lib.hid hvA;have HSA:=Lib.hid hseA;clear hv hb3 hse3 hbA hvA hseA hkA hvb;have k0:WA.cell? ⟨vb,0,none⟩=some (.slice o0 st.blocks.length c0):=(by rw [cell_of_row WA vb _ _ _ _ HKA.out];rfl);have hne:0<st.blocks.length:=(by rw [HLW.out];cases see<;>simp);obtain ⟨g0,i0,rfl⟩:=RowR.addr HVA.out.bl hne;obtain ⟨nb,hnb⟩:∃n,st.blocks.length=n:=⟨_,rfl⟩
     rw [hnb]at k0;have HNB:=Lib.hid hnb;clear hnb hne;go_wp2_with fail;go_loopw [9,59] (fun u9 u59 wr=>∃j:Nat,u9=.int .i64 (cntNe (st.blocks.take j):Int)∧u59=.int .i64 (j:Int)∧j≤nb∧Below WA.heap.size WA wr) (fun _ u59 _=>nb - (intOf u59).toNat)
     case atStart=>exact ⟨0,rfl,by go_num,Nat.zero_le _,Below.refl _ _⟩
     case round=>
      obtain ⟨j,rfl,rfl,hj,hbr⟩:=hrel;have HBR:=Lib.hid hbr;clear hbr;by_cases hjn:j<nb
      ·have hji:(j:Int)<(nb:Int):=(by omega);obtain ⟨x,hx⟩:∃x,st.blocks[j]? =some x:=⟨_,List.getElem?_eq_getElem (by rw [HNB.out];exact hjn)⟩
       obtain ⟨p0,p1,p2,p3,p4,p5⟩:=RowR.blk (HVA.out.below HBR.out).bl j x hx;obtain ⟨T,hT⟩:∃T:ByteArray,(⟨x.text.toArray⟩:ByteArray)=T:=⟨_,rfl⟩
       rw [hT]at p4;have HX:=Lib.hid (And.intro hx hT);clear hx hT;go_upto_region 16 with (fail)
       have hbB:=(Below.refl wr.heap.size wr).alloc (Nat.le_refl _) (.cells #[.int .i64 (x.kind:Int),.int .i64 (x.depth:Int),.int .i64 x.n,.bool x.tight,.string T,.string ⟨x.info.toArray⟩] 37);have HBB:=Lib.hid (HBR.out.trans (hbB.mono HBR.out.size));have hkB:=heap_alloc_new wr (.cells #[.int .i64 (x.kind:Int),.int .i64 (x.depth:Int),.int .i64 x.n,.bool x.tight,.string T,.string ⟨x.info.toArray⟩] 37);generalize wr.alloc (.cells #[.int .i64 (x.kind:Int),.int .i64 (x.depth:Int),.int .i64 x.n,.bool x.tight,.string T,.string ⟨x.info.toArray⟩] 37)=WB at HBB hkB⊢;obtain ⟨bb,hbb⟩:∃n,wr.heap.size=n:=⟨_,rfl⟩
       rw [hbb]at hkB⊢;have HKB:=Lib.hid hkB;have k4:WB.cell? ⟨bb,4,none⟩=some (.string T):=(by rw [cell_of_row WB bb _ _ _ _ hkB];rfl);clear hkB hbB p0 p1 p2 p3 p4 p5 hbb;have hnb5:nb≤5:=by
        rw [←HNB.out,HLW.out];cases see<;>simp
       have hT30:T.size≤30:=by
        have hm:=List.mem_of_getElem? HX.out.1;have htl:text.data.toList.length≤30:=(by rw [←Lib.size_eq];exact hts);rw [←HX.out.2];show x.text.length≤30;rw [HLW.out]at hm;cases see
        ·simp only [Bool.false_eq_true,if_false,List.mem_cons,List.not_mem_nil,or_false]at hm;rcases hm with rfl|rfl|rfl<;>decide
        ·simp only [if_true,List.mem_cons,List.not_mem_nil,or_false]at hm;rcases hm with rfl|rfl|rfl|rfl|rfl<;>first|exact htl|(show _≤30;decide)
       by_cases hT0:T.size=0
       ·have hTe:=empty_yes hT0;have hcn:(cntNe (st.blocks.take (j+1)):Int)=(cntNe (st.blocks.take j):Int):=by
         rw [cntNe_succ _ _ _ HX.out.1,if_pos (by
          have:=HX.out.2;rw [←this]at hT0;exact List.eq_nil_of_length_eq_zero (by rw [←hT0,Lib.size_eq])),Nat.add_zero]
        go_upto_region 18 with (fail)
        go_wp2_with fail;go_loopw [12] (fun u12 wq=>∃i:Nat,u12=.int .i64 (i:Int)∧i≤T.size+1∧Below WB.heap.size WB wq) (fun u12 _=>T.size+1 - (intOf u12).toNat)
        case atStart=>exact ⟨0,by go_num,Nat.zero_le _,Below.refl _ _⟩
        case round=>
         obtain ⟨i,rfl,hi3,hbq⟩:=hrel;have HBQ:=Lib.hid hbq;have k4q:=(hbq.cell (p:=⟨bb,4,none⟩) (Array.getElem?_eq_some_iff.1 HKB.out).1).trans k4;clear hbq;by_cases hit:i+text.size≤T.size
         ·exfalso;omega
         ·have hiti:(T.size:Int)<(i:Int)+(text.size:Int):=(by omega);go_wp2_with fail;go_roundw;case rel=>exact ⟨j+1,by rw [hcn],by go_num,by omega,HBB.out.trans (HBQ.out.mono HBB.out.size)⟩
          case measure=>simp [intOf];omega
       ·have hTe:=empty_no (s:=T) (by omega);have hcl:=cntNe_le st.blocks j;have hcn:(cntNe (st.blocks.take (j+1)):Int)=(cntNe (st.blocks.take j):Int)+1:=by
         rw [cntNe_succ _ _ _ HX.out.1,if_neg (by
          intro e;have:=HX.out.2;rw [e]at this;exact hT0 (by rw [←this];rfl))]
         omega
        have hcb:(cntNe (st.blocks.take j):Int)≤5:=by
         have:=HLW.out;have:st.blocks.length≤5:=(by rw [this];cases see<;>simp);omega
        go_upto_region 18 with (fail)
        go_wp2_with fail;go_loopw [12] (fun u12 wq=>∃i:Nat,u12=.int .i64 (i:Int)∧i≤T.size+1∧Below WB.heap.size WB wq) (fun u12 _=>T.size+1 - (intOf u12).toNat)
        case atStart=>exact ⟨0,by go_num,Nat.zero_le _,Below.refl _ _⟩
        case round=>
         obtain ⟨i,rfl,hi3,hbq⟩:=hrel;have HBQ:=Lib.hid hbq;have k4q:=(hbq.cell (p:=⟨bb,4,none⟩) (Array.getElem?_eq_some_iff.1 HKB.out).1).trans k4;clear hbq;by_cases hit:i+text.size≤T.size
         ·have hiti:(i:Int)+(text.size:Int)≤(T.size:Int):=(by omega);obtain ⟨S,hS⟩:∃S:ByteArray,T.extract i (i+text.size)=S:=⟨_,rfl⟩
          by_cases hSt:S=text
          ·have bt:=beq_self_bytes text;rw [hSt]at hS;have hs:=sees_str (HSA.out.below (HBB.out.trans (HBQ.out.mono HBB.out.size))) highL;rw [show (⟨highL.toArray⟩:ByteArray)=⟨#[104,105,103,104]⟩from rfl,HSS.out]at hs;have HS2:=Lib.hid hs;clear hs hSt;go_wp2_with fail;refine HS2.out.mono ?_;rintro e w6 ⟨rfl,hb6⟩;have HB6:=Lib.hid (HBQ.out.trans (hb6.mono HBQ.out.size));clear hb6;cases see
           ·have hab:text.data.toList=[97]∨text.data.toList=[98]:=by
             have hm:=List.mem_of_getElem? HX.out.1;have hTx:T.data.toList=x.text:=(by rw [←HX.out.2]);rw [HLW.out]at hm;simp only [Bool.false_eq_true,if_false,List.mem_cons,List.not_mem_nil,or_false]at hm;have hcut:(T.data.toList.drop i).take text.data.toList.length=text.data.toList:=by
              have:=congrArg (fun X:ByteArray=>X.data.toList) hS;simp only [ByteArray.data_extract,Array.toList_extract]at this;rw [List.extract_eq_take_drop,Nat.add_sub_cancel_left,Lib.size_eq]at this;exact this
             rw [hTx]at hcut;exact fen_hit i hcut HL2.out (fun e=>h0 (by rw [Lib.size_eq,e];rfl)) (by rcases hm with rfl|rfl|rfl<;>simp)
            rcases hab with hab|hab
            ·have q1:(text.toList==[97])=true:=(by rw [Lib.toList_data,hab];rfl);go_wp2_with fail;go_roundw;case rel=>exact ⟨i+1,by go_num,by omega,HB6.out⟩
             case measure=>simp [intOf];omega
            ·have q1:(text.toList==[97])=false:=(by rw [Lib.toList_data,hab];rfl);have q2:(text.toList==[98])=true:=(by rw [Lib.toList_data,hab];rfl);go_wp2_with fail;go_roundw;case rel=>exact ⟨i+1,by go_num,by omega,HB6.out⟩
             case measure=>simp [intOf];omega
           ·go_wp2_with fail;go_roundw;case rel=>exact ⟨i+1,by go_num,by omega,HB6.out⟩
            case measure=>simp [intOf];omega
          ·have bt:(S.toList==text.toList)=false:=by
            rw [Lib.toList_data,Lib.toList_data];cases hbb:(S.data.toList==text.data.toList)with
            |false=>rfl
            |true=>exact absurd (ByteArray.ext (Array.ext' (eq_of_beq hbb))) hSt
           clear hSt;go_wp2_with fail;go_roundw;case rel=>exact ⟨i+1,by go_num,by omega,HBQ.out⟩
           case measure=>simp [intOf];omega
         ·have hiti:(T.size:Int)<(i:Int)+(text.size:Int):=(by omega);go_wp2_with fail;go_roundw;case rel=>exact ⟨j+1,by rw [hcn],by go_num,by omega,HBB.out.trans (HBQ.out.mono HBB.out.size)⟩
          case measure=>simp [intOf];omega
      ·obtain rfl:j=nb:=(by omega);have hc2:(2:Int)≤(cntNe (st.blocks.take j):Int):=by
        have e:st.blocks.take j=st.blocks:=List.take_of_length_le (by rw [HNB.out];exact Nat.le_refl _);rw [e,HLW.out];generalize text.data.toList=tl;cases see
        ·simp [cntNe]
        ·by_cases htl:tl=[]<;>simp [cntNe,List.filter_cons,htl]
       go_wp2_with fail;go_ret;exact ⟨rfl,below_step HBA.out HBR.out⟩
end Go.Proofs.YtoccgnleiekomaaGreatDoor
