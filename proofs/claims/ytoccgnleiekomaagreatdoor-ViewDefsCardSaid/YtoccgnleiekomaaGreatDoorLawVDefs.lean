/-
  LawVDefs: a part of the proof.
-/
import Derived.Test.YtoccgnleiekomaaGreatDoorVwBZ
import Derived.Test.YtoccgnleiekomaaGreatDoorVwBZd
import Derived.Test.YtoccgnleiekomaaGreatDoorVwBO
namespace Go.Proofs.YtoccgnleiekomaaGreatDoor
open Go.RowKit
set_option maxRecDepth 100000
set_option linter.unusedVariables false
set_option linter.unusedSimpArgs false
def urls (n:Nat):List (List UInt8):=(List.range n).map fun i=>[47,117,UInt8.ofNat (48+i)]
def docAt (name:List UInt8) (n:Nat):List UInt8:=defsDoc name (urls n)
theorem docAt_zero (name:List UInt8):docAt name 0=[58,58,58,123,104,105,103,104,125,10,91]++name++[93,58,32,47,115,101,99,114,101,116,10,58,58,58,10]:=by
 simp [docAt,urls,defsDoc,defsLines,joinL,divLine,highL,defLine,secretL]
theorem docAt_succ (name:List UInt8) (i:Nat):docAt name (i+1)=docAt name i++([91]++name++[93,58,32,47,117]++[UInt8.ofNat (48+i)]++[10]):=by
 simp [docAt,urls,defsDoc,defsLines,joinL,defLine,List.range_succ]
theorem one_lit (W:World) (c:UInt8) (v:Int) (h:(c.toNat:Int)=v) (g:Nat) (hg:g=W.heap.size):
  (convert 39 9 (.slice (some ⟨g,0,none⟩) 1 1)).run Tryz.prog (W.alloc (.cells #[.int .u8 v] 5))=.ok (.string ⟨#[c]⟩) (W.alloc (.cells #[.int .u8 v] 5)):=by
 rw [←h];exact one_byte W c g hg
theorem urls_succ (M:Nat):urls (M+1)=[47,117,48]::(List.range M).map fun j=>[47,117,UInt8.ofNat (48+(j+1))]:=by
 unfold urls;rw [List.range_succ_eq_map,List.map_cons,List.map_map];rfl
theorem urls_ok (M:Nat) (hM:M<6):∀x∈([47,117,48]:List UInt8)::(List.range M).map (fun j=>[47,117,UInt8.ofNat (48+(j+1))]),UrlOk x:=by
 intro x hx;rcases List.mem_cons.1 hx with rfl|hx
 ·exact url_ok 0 (by omega)
 ·obtain ⟨j,hj,rfl⟩:=List.mem_map.1 hx;exact url_ok (j+1) (by have:=List.mem_range.1 hj;omega)
set_option maxHeartbeats 8000000 in
theorem law_vdefs (k n:Int) (name:ByteArray) (_wk:(Lit.int .i64 k).wf=true) (_wj:(Lit.int .i64 n).wf=true) (w:World) (hE:EnvI w):
  Calls Tryz.prog 4 #[.int .i64 k,.int .i64 n,.string name] w fun e w'=>e=.returned (.bool true)∧Below w.heap.size w w':=by
 by_cases hn1:n<1
 ·go_enter Tryz.func4,Tryz.ntmps4
  go_wp2_with fail;refine (alive23_any _ hE).mono ?_;rintro e w1 ⟨rfl,b1⟩;go_wp2_with fail;go_ret;exact ⟨rfl,b1⟩
 ·by_cases hn6:6<n
  ·go_enter Tryz.func4,Tryz.ntmps4
   go_wp2_with fail;refine (alive23_any _ hE).mono ?_;rintro e w1 ⟨rfl,b1⟩;go_wp2_with fail;go_ret;exact ⟨rfl,b1⟩
  ·by_cases h0:name.size=0
   ·have ht:=empty_yes h0;go_enter Tryz.func4,Tryz.ntmps4
    go_wp2_with fail;refine (alive23_any _ hE).mono ?_;rintro e w1 ⟨rfl,b1⟩;go_wp2_with fail;go_ret;exact ⟨rfl,b1⟩
   ·have ht:=empty_no (s:=name) (by omega);by_cases h20:(20:Int)<(name.size:Int)
    ·go_enter Tryz.func4,Tryz.ntmps4
     go_wp2_with fail;refine (alive23_any _ hE).mono ?_;rintro e w1 ⟨rfl,b1⟩;go_wp2_with fail;go_ret;exact ⟨rfl,b1⟩
    ·have HE:=Lib.hid hE;clear hE;go_enter Tryz.func4,Tryz.ntmps4
     go_wp2_with fail;refine (alive23_any _ HE.out).mono ?_;rintro e w1 ⟨rfl,b1⟩;go_wp2_with fail;go_loop [7] (fun ui=>∃i:Nat,i≤(name).size∧ui=.int .i64 i∧Letters ((name).data.toList.take i)) (fun ui=>(name).size - (intOf ui).toNat)
     case atStart=>exact ⟨0,Nat.zero_le _,rfl,fun b hb=>by simp at hb⟩
     case round=>
      obtain ⟨i,hi,rfl,hl⟩:=hrel;have HL:=Lib.hid hl;clear hl;by_cases hlt:i<(name).size
      ·have hg:=Lib.data_getElem? name i hlt;obtain ⟨d,hd⟩:∃d,(name)[i]=d:=⟨_,rfl⟩
       rw [hd]at hg;have HG:=Lib.hid hg;clear hg;by_cases t1:(d.toNat:Int)<97
       ·go_wp2_with fail;go_ret;exact ⟨rfl,b1⟩
       ·by_cases t2:(122:Int)<(d.toNat:Int)
        ·go_wp2_with fail;go_ret;exact ⟨rfl,b1⟩
        ·have HN:=Lib.hid (lettersV_take HL.out HG.out (by omega));go_wp2_with fail;go_round;case rel=>exact ⟨i+1,by omega,by go_num,HN.out⟩
         case measure=>simp [intOf];omega
      ·obtain rfl:i=name.size:=(by omega);have HL2:=Lib.hid (show Letters name.data.toList by have:=HL.out;rwa [take_all]at this);go_wp2_with fail;refine (see_any k _).mono ?_;rintro e w2 ⟨sb,v,K,rfl,hse,b2⟩;have HB2:=Lib.hid (below_step b1 b2);have HSE:=Lib.hid hse;clear b1 b2 hse HL;have hns:name.size≤20:=(by omega);obtain ⟨N,hN⟩:∃N:Nat,n=(N:Int):=⟨n.toNat,by omega⟩
       subst hN;obtain ⟨D0,hD0⟩:∃D0:ByteArray,((⟨#[58,58,58,123,104,105,103,104,125,10,91]⟩:ByteArray)++name++(⟨#[93,58,32,47,115,101,99,114,101,116,10,58,58,58,10]⟩:ByteArray))=D0:=⟨_,rfl⟩
       have hDl:D0.data.toList=docAt name.data.toList 0:=by
        rw [←hD0,docAt_zero];simp only [ByteArray.data_append,Array.toList_append]
       have hDs:D0.size≤60:=by
        rw [←hD0];simp only [ByteArray.size_append,show (⟨#[58,58,58,123,104,105,103,104,125,10,91]⟩:ByteArray).size=11 from rfl,show (⟨#[93,58,32,47,115,101,99,114,101,116,10,58,58,58,10]⟩:ByteArray).size=15 from rfl];omega
       have HDL:=Lib.hid hDl;clear hDl;go_upto_region 12 with (fail)
       clear hD0;go_wp2_with fail;go_loopw [10,11] (fun u10 u11 wr=>∃(i:Nat) (D:ByteArray),u10=.string D∧u11=.int .i64 (i:Int)∧i≤N∧Hid (D.data.toList=docAt name.data.toList i)∧D.size≤60+40*i∧Below w2.heap.size w2 wr) (fun _ u11 _=>N - (intOf u11).toNat)
       case atStart=>exact ⟨0,D0,rfl,by go_num,Nat.zero_le _,HDL,by omega,Below.refl _ _⟩
       case round=>
        obtain ⟨i,D,rfl,rfl,hi2,HD,hDz,hbw⟩:=hrel;have HBW:=Lib.hid hbw;clear hbw;by_cases hlt2:i<N
        ·have hii:(i:Int)<(N:Int):=(by omega);have hi6:i<6:=(by omega);obtain ⟨c,hc⟩:∃c,UInt8.ofNat (48+i)=c:=⟨_,rfl⟩
         have hcn:(c.toNat:Int)=48+(i:Int):=by
          rw [←hc,UInt8.toNat_ofNat_of_lt' (by show 48+i<256;omega)];omega
         have cvq:=one_lit wr c (48+(i:Int)) hcn wr.heap.size rfl;have HD2:=Lib.hid (show (D++((⟨#[91]⟩:ByteArray)++name++(⟨#[93,58,32,47,117]⟩:ByteArray)++(⟨#[c]⟩:ByteArray)++(⟨#[10]⟩:ByteArray))).data.toList=docAt name.data.toList (i+1)from by
          rw [docAt_succ,hc,←HD.out];simp only [ByteArray.data_append,Array.toList_append])
         have hDz2:(D++((⟨#[91]⟩:ByteArray)++name++(⟨#[93,58,32,47,117]⟩:ByteArray)++(⟨#[c]⟩:ByteArray)++(⟨#[10]⟩:ByteArray))).size≤60+40*(i+1):=by
          simp only [ByteArray.size_append,show (⟨#[91]⟩:ByteArray).size=1 from rfl,show (⟨#[93,58,32,47,117]⟩:ByteArray).size=5 from rfl,show (⟨#[c]⟩:ByteArray).size=1 from rfl,show (⟨#[10]⟩:ByteArray).size=1 from rfl];omega
         have HDZ:=Lib.hid hDz2;have HBW2:=Lib.hid (HBW.out.alloc HBW.out.size (.cells #[.int .u8 (48+(i:Int))] 5));clear hc hcn hDz2;go_wp2_with fail;go_roundw;case rel=>exact ⟨i+1,_,rfl,by go_num,by omega,HD2,HDZ.out,HBW2.out⟩
         case measure=>simp [intOf];omega
        ·obtain rfl:i=N:=(by omega);have HSE2:=Lib.hid (HSE.out.below HBW.out);have HB3:=Lib.hid (below_step HB2.out HBW.out);obtain ⟨st,hst⟩:∃st,buildL (diaSeer K) D.data.toList=st:=⟨_,rfl⟩
         obtain ⟨see,hsee⟩:∃b,(diaSeer K).see1 highL=b:=⟨_,rfl⟩
         obtain ⟨M,rfl⟩:∃M,i=M+1:=⟨i - 1,by omega⟩
         have hlaw:=defs_law (diaSeer K) name.data.toList [47,117,48] ((List.range M).map fun j=>[47,117,UInt8.ofNat (48+(j+1))]) HL2.out (fun e=>h0 (by rw [Lib.size_eq,e];rfl)) (by rw [←Lib.size_eq];exact hns) (urls_ok M (by omega)) (dia_known (J:=3) (by rw [dia_eq];rfl) K);rw [←urls_succ]at hlaw;rw [show defsDoc name.data.toList (urls (M+1))=D.data.toList from HD.out.symm,hst,hsee,List.length_map,List.length_range]at hlaw;have HST:=Lib.hid hst;have HLW:=Lib.hid hlaw;have HSS:=Lib.hid hsee;have hst2:=hst;have hds:D.size≤6000:=(by omega);have HV:=Lib.hid (view_any HSE2.out (HE.out.below HB3.out) D hds _ hst);clear hst hlaw hsee hst2;go_wp2_with fail;refine (HV.out).mono ?_;rintro e w3 ⟨o0,o1,o2,o3,c0,c1,c2,c3,rfl,hv,hb3⟩;have hse3:=(HSE2.out).below hb3;have hbA:=(Below.refl w3.heap.size w3).alloc (Nat.le_refl _) (.cells #[.slice o0 st.blocks.length c0,.slice o1 st.atoms.length c1,.slice o2 st.defs.length c2,.slice o3 st.diags.length c3] 33);have hvA:=hv.below hbA;have hseA:=hse3.below hbA;have hkA:=heap_alloc_new w3 (.cells #[.slice o0 st.blocks.length c0,.slice o1 st.atoms.length c1,.slice o2 st.defs.length c2,.slice o3 st.diags.length c3] 33);have HBA:=Lib.hid ((below_step HB3.out hb3).trans (hbA.mono (below_step HB3.out hb3).size));go_upto_region 17 with (fail)
         try simp only [List.length_cons,List.length_nil,List.length_replicate,Nat.zero_add,Nat.reduceAdd]
         generalize w3.alloc (.cells #[.slice o0 st.blocks.length c0,.slice o1 st.atoms.length c1,.slice o2 st.defs.length c2,.slice o3 st.diags.length c3] 33)=WA at hvA hseA hkA HBA⊢;obtain ⟨vb,hvb⟩:∃n,w3.heap.size=n:=⟨_,rfl⟩
         rw [hvb]at hkA⊢;have HKA:=Lib.hid hkA;have HVA:=Lib.hid hvA;have HSA:=Lib.hid hseA;clear hv hb3 hse3 hbA hvA hseA hkA hvb;have hs:=sees_str HSA.out highL;rw [show (⟨highL.toArray⟩:ByteArray)=⟨#[104,105,103,104]⟩from rfl,HSS.out]at hs;have HS2:=Lib.hid hs;clear hs;go_wp2_with fail;refine HS2.out.mono ?_;rintro e w5 ⟨rfl,hb5⟩;have hk5:=(hb5.block vb (Array.getElem?_eq_some_iff.1 HKA.out).1).trans HKA.out;have hv5:=HVA.out.below hb5;have HB5:=Lib.hid (below_step HBA.out hb5);obtain ⟨hd,hg⟩:=HLW.out;have l2:st.defs.length=1:=(by rw [hd];rfl);obtain ⟨g2,i2,rfl⟩:=RowR.addr hv5.df (by omega);obtain ⟨p0,p1,p2,p3,p4⟩:=RowR.dfn hv5.df 0 _ (by rw [hd];rfl);simp only [Nat.zero_mul,Nat.add_zero,Lib.mk_data]at p0 p1 p2 p3 p4;have k2:w5.cell? ⟨vb,2,none⟩=some (.slice (some ⟨g2,i2,none⟩) 1 c2):=(by rw [cell_of_row w5 vb _ _ _ _ hk5,l2];rfl);have bn:=beq_self_bytes name;cases see
         ·have l3:st.diags.length=M:=(by rw [hg];simp);have k3:w5.cell? ⟨vb,3,none⟩=some (.slice o3 M c3):=(by rw [cell_of_row w5 vb _ _ _ _ hk5,l3];rfl);have p1b:w5.cell? ⟨g2,i2+1,none⟩=some (.string ⟨#[47,117,48]⟩):=p1;clear hk5 hv5 hb5 HS2 HKA HVA HSA hd hg p1;go_wp2_with fail;go_ret;exact ⟨rfl,HB5.out⟩
         ·have l3:st.diags.length=(M+1):=(by rw [hg];simp);have k3:w5.cell? ⟨vb,3,none⟩=some (.slice o3 (M+1) c3):=(by rw [cell_of_row w5 vb _ _ _ _ hk5,l3];rfl);have p1b:w5.cell? ⟨g2,i2+1,none⟩=some (.string ⟨#[47,115,101,99,114,101,116]⟩):=p1;clear hk5 hv5 hb5 HS2 HKA HVA HSA hd hg p1;go_wp2_with fail;go_ret;exact ⟨rfl,HB5.out⟩
end Go.Proofs.YtoccgnleiekomaaGreatDoor
