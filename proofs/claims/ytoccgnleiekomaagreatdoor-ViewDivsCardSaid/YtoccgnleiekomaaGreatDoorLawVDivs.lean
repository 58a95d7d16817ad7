/-
  LawVDivs: a part of the proof.
-/
import Derived.Test.YtoccgnleiekomaaGreatDoorVwBZ
import Derived.Test.YtoccgnleiekomaaGreatDoorVwBZa
namespace Go.Proofs.YtoccgnleiekomaaGreatDoor
open Go.RowKit
set_option maxRecDepth 100000
set_option linter.unusedVariables false
set_option linter.unusedSimpArgs false
def oddL:List UInt8:=[111,100,100]
def names5:List (List UInt8):=diaNames++[oddL]
theorem names5_lits:names5.map strV=[.string ⟨#[108,111,119]⟩,.string ⟨#[108,101,102,116]⟩,.string ⟨#[114,105,103,104,116]⟩,.string ⟨#[104,105,103,104]⟩,.string ⟨#[111,100,100]⟩]:=by unfold names5;rw [dia_eq];rfl
theorem rem5 (k:Int):∃K:Nat,K<5∧(wrap64 (k.tmod 5+5)).tmod 5=(K:Int):=by
 have h1:=Int.lt_tmod_of_pos k (show (0:Int)<5 by decide);have h2:=Int.tmod_lt_of_pos k (show (0:Int)<5 by decide);obtain ⟨r,hr⟩:∃r,k.tmod 5=r:=⟨_,rfl⟩
 rw [hr]at h1 h2⊢;have:r= -4∨r= -3∨r= -2∨r= -1∨r=0∨r=1∨r=2∨r=3∨r=4:=(by omega);rcases this with rfl|rfl|rfl|rfl|rfl|rfl|rfl|rfl|rfl
 ·exact ⟨1,by decide,by decide+kernel⟩
 ·exact ⟨2,by decide,by decide+kernel⟩
 ·exact ⟨3,by decide,by decide+kernel⟩
 ·exact ⟨4,by decide,by decide+kernel⟩
 ·exact ⟨0,by decide,by decide+kernel⟩
 ·exact ⟨1,by decide,by decide+kernel⟩
 ·exact ⟨2,by decide,by decide+kernel⟩
 ·exact ⟨3,by decide,by decide+kernel⟩
 ·exact ⟨4,by decide,by decide+kernel⟩
theorem cell5 (w:World) {J:Nat} {x:List UInt8} (hx:names5[J]? =some x):(w.alloc (.cells #[.string ⟨#[108,111,119]⟩,.string ⟨#[108,101,102,116]⟩,.string ⟨#[114,105,103,104,116]⟩,.string ⟨#[104,105,103,104]⟩,.string ⟨#[111,100,100]⟩] 9)).cell? ⟨w.heap.size,J,none⟩=some (.string ⟨x.toArray⟩):=by
 have hrow:=row_new2 w [.string ⟨#[108,111,119]⟩,.string ⟨#[108,101,102,116]⟩,.string ⟨#[114,105,103,104,116]⟩,.string ⟨#[104,105,103,104]⟩,.string ⟨#[111,100,100]⟩] 9 1 5 w.heap.size rfl rfl (by omega);rw [←names5_lits]at hrow;have cJ:=StrR.at' (l:=names5) hrow J x hx;rw [Nat.zero_add]at cJ;exact cJ
theorem names5_facts {J:Nat} {x:List UInt8} (h:names5[J]? =some x):Letters x∧x≠[]∧x.length≤5:=by
 have hm:=List.mem_of_getElem? h;have h4:∀y∈names5,(y.all fun c=>decide (97≤c.toNat∧c.toNat≤122))=true∧y≠[]∧y.length≤5:=(by decide+kernel);obtain ⟨h1,h2,h3⟩:=h4 x hm;exact ⟨fun b hb=>by have:=List.all_eq_true.1 h1 b hb;simpa using this,h2,h3⟩
theorem unk5 {J:Nat} {x:List UInt8} (h:names5[J]? =some x) (k:Nat):(diaSeer k).unk x=decide (x=oddL):=by
 have hm:=List.mem_of_getElem? h;have h4:∀y∈names5,(!diaNames.contains y)=decide (y=oddL):=(by decide+kernel);exact h4 x hm
theorem beq_odd:∀A:ByteArray,(A==(⟨#[111,100,100]⟩:ByteArray))=true→A=(⟨#[111,100,100]⟩:ByteArray)
 |⟨A⟩,h=>by
  have h2:(A==#[111,100,100])=true:=h;rw [eq_of_beq h2]
set_option maxHeartbeats 8000000 in
theorem law_vdivs (k j:Int) (text:ByteArray) (_wk:(Lit.int .i64 k).wf=true) (_wj:(Lit.int .i64 j).wf=true) (w:World) (hE:EnvI w):
  Calls Tryz.prog 3 #[.int .i64 k,.int .i64 j,.string text] w fun e w'=>e=.returned (.bool true)∧Below w.heap.size w w':=by
 by_cases h0:text.size=0
 ·have ht:=empty_yes h0;by_cases h40:(40:Int)<(text.size:Int)
  ·omega
  ·go_enter Tryz.func3,Tryz.ntmps3
   go_wp2_with fail;refine (alive23_any _ hE).mono ?_;rintro e w1 ⟨rfl,b1⟩;go_wp2_with fail;go_ret;exact ⟨rfl,b1⟩
 ·have ht:=empty_no (s:=text) (by omega);by_cases h40:(40:Int)<(text.size:Int)
  ·go_enter Tryz.func3,Tryz.ntmps3
   go_wp2_with fail;refine (alive23_any _ hE).mono ?_;rintro e w1 ⟨rfl,b1⟩;go_wp2_with fail;go_ret;exact ⟨rfl,b1⟩
  ·have HE:=Lib.hid hE;clear hE;obtain ⟨J,hJ,hj⟩:=rem5 j;obtain ⟨x,hx⟩:∃x,names5[J]? =some x:=⟨_,List.getElem?_eq_getElem (by show J<5;exact hJ)⟩
   go_enter Tryz.func3,Tryz.ntmps3
   go_wp2_with fail;refine (alive23_any _ HE.out).mono ?_;rintro e w1 ⟨rfl,b1⟩;go_wp2_with fail;go_loop [7] (fun ui=>∃i:Nat,i≤(text).size∧ui=.int .i64 i∧Letters ((text).data.toList.take i)) (fun ui=>(text).size - (intOf ui).toNat)
   case atStart=>exact ⟨0,Nat.zero_le _,rfl,fun b hb=>by simp at hb⟩
   case round=>
    obtain ⟨i,hi,rfl,hl⟩:=hrel;have HL:=Lib.hid hl;clear hl;by_cases hlt:i<(text).size
    ·have hg:=Lib.data_getElem? text i hlt;obtain ⟨d,hd⟩:∃d,(text)[i]=d:=⟨_,rfl⟩
     rw [hd]at hg;have HG:=Lib.hid hg;clear hg;by_cases t1:(d.toNat:Int)<97
     ·go_wp2_with fail;go_ret;exact ⟨rfl,b1⟩
     ·by_cases t2:(122:Int)<(d.toNat:Int)
      ·go_wp2_with fail;go_ret;exact ⟨rfl,b1⟩
      ·have HN:=Lib.hid (lettersV_take HL.out HG.out (by omega));go_wp2_with fail;go_round;case rel=>exact ⟨i+1,by omega,by go_num,HN.out⟩
       case measure=>simp [intOf];omega
    ·obtain rfl:i=text.size:=(by omega);have HL2:=Lib.hid (show Letters text.data.toList by have:=HL.out;rwa [take_all]at this);have HX:=Lib.hid hx;go_wp2_with fail;refine (see_any k _).mono ?_;rintro e w2 ⟨sb,v,K,rfl,hse,b2⟩;have HB2:=Lib.hid (below_step b1 b2);have cJ:=cell5 w2 hx;have hJi:(J:Int)<5:=(by omega);have hJn:(0:Int)≤(J:Int):=(by omega);obtain ⟨lx,lne,lz⟩:=names5_facts hx;have hunk:=unk5 hx K;obtain ⟨L,hL⟩:∃X:ByteArray,(⟨x.toArray⟩:ByteArray)=X:=⟨_,rfl⟩
     have hLl:L.data.toList=x:=(by rw [←hL]);have hLs:L.size≤5:=(by rw [Lib.size_eq,hLl];exact lz);rw [hL]at cJ;have hz1:¬(9223372036854775807:Int)<((⟨#[97,10,58,58,58,123]⟩:ByteArray).size:Int)+(L.size:Int):=(by rw [show (⟨#[97,10,58,58,58,123]⟩:ByteArray).size=6 from rfl];omega);have hz2:¬(9223372036854775807:Int)<(((⟨#[97,10,58,58,58,123]⟩:ByteArray)++L).size:Int)+((⟨#[125,10,62,32]⟩:ByteArray).size:Int):=(by rw [ByteArray.size_append,show (⟨#[97,10,58,58,58,123]⟩:ByteArray).size=6 from rfl,show (⟨#[125,10,62,32]⟩:ByteArray).size=4 from rfl];omega);have hz3:¬(9223372036854775807:Int)<(((⟨#[97,10,58,58,58,123]⟩:ByteArray)++L++(⟨#[125,10,62,32]⟩:ByteArray)).size:Int)+(text.size:Int):=(by rw [ByteArray.size_append,ByteArray.size_append,show (⟨#[97,10,58,58,58,123]⟩:ByteArray).size=6 from rfl,show (⟨#[125,10,62,32]⟩:ByteArray).size=4 from rfl];omega);have hz4:¬(9223372036854775807:Int)<(((⟨#[97,10,58,58,58,123]⟩:ByteArray)++L++(⟨#[125,10,62,32]⟩:ByteArray)++text).size:Int)+((⟨#[10,58,58,58,10,98,10]⟩:ByteArray).size:Int):=(by rw [ByteArray.size_append,ByteArray.size_append,ByteArray.size_append,show (⟨#[97,10,58,58,58,123]⟩:ByteArray).size=6 from rfl,show (⟨#[125,10,62,32]⟩:ByteArray).size=4 from rfl,show (⟨#[10,58,58,58,10,98,10]⟩:ByteArray).size=7 from rfl];omega);have hdl:((⟨#[97,10,58,58,58,123]⟩:ByteArray)++L++(⟨#[125,10,62,32]⟩:ByteArray)++text++(⟨#[10,58,58,58,10,98,10]⟩:ByteArray)).data.toList=divsDoc x text.data.toList:=by
      simp only [ByteArray.data_append,Array.toList_append,hLl];simp [divsDoc,joinL,divLine]
     have hds:((⟨#[97,10,58,58,58,123]⟩:ByteArray)++L++(⟨#[125,10,62,32]⟩:ByteArray)++text++(⟨#[10,58,58,58,10,98,10]⟩:ByteArray)).size≤6000:=by
      simp only [ByteArray.size_append,show (⟨#[97,10,58,58,58,123]⟩:ByteArray).size=6 from rfl,show (⟨#[125,10,62,32]⟩:ByteArray).size=4 from rfl,show (⟨#[10,58,58,58,10,98,10]⟩:ByteArray).size=7 from rfl];omega
     have hst:=divs_law (diaSeer K) x text.data.toList lx lne (by omega) HL2.out (fun e=>by rw [Lib.size_eq,e]at h0;exact h0 rfl) (fun y hy=>restore_zero [] y (fun e=>by have:=hy _ e;exact absurd this.1 (by decide)));rw [←hdl,hunk]at hst;have HST:=Lib.hid hst;have HL3:=Lib.hid hL;have hbl:=(Below.refl w2.heap.size w2).alloc (Nat.le_refl _) (.cells #[.string ⟨#[108,111,119]⟩,.string ⟨#[108,101,102,116]⟩,.string ⟨#[114,105,103,104,116]⟩,.string ⟨#[104,105,103,104]⟩,.string ⟨#[111,100,100]⟩] 9);have HSL:=Lib.hid (hse.below hbl);have HBL:=Lib.hid (below_step HB2.out hbl);have HLL:=Lib.hid hLl;clear b1 b2 hx HL hL hdl hst hse hbl HB2 hunk hLl;obtain ⟨see,hsee⟩:∃b,(diaSeer K).see1 x=b:=⟨_,rfl⟩
     rw [hsee]at HST;have HSS:=Lib.hid hsee;clear hsee;cases see
     ·have hst2:=HST.out;simp only [Bool.false_eq_true,if_false]at hst2;have HV:=Lib.hid (view_any HSL.out (HE.out.below HBL.out) _ hds _ hst2);clear hds hst2 HST;go_wp2_with fail;refine (HV.out).mono ?_;rintro e w3 ⟨o0,o1,o2,o3,c0,c1,c2,c3,rfl,hv,hb3⟩;have hse3:=(HSL.out).below hb3;have hbA:=(Below.refl w3.heap.size w3).alloc (Nat.le_refl _) (.cells #[.slice o0 2 c0,.slice o1 0 c1,.slice o2 0 c2,.slice o3 0 c3] 33);have hvA:=hv.below hbA;have hseA:=hse3.below hbA;have hkA:=heap_alloc_new w3 (.cells #[.slice o0 2 c0,.slice o1 0 c1,.slice o2 0 c2,.slice o3 0 c3] 33);have HBA:=Lib.hid ((below_step HBL.out hb3).trans (hbA.mono (below_step HBL.out hb3).size));go_upto_region 13 with (fail)
      try simp only [List.length_cons,List.length_nil,List.length_replicate,Nat.zero_add,Nat.reduceAdd]
      generalize w3.alloc (.cells #[.slice o0 2 c0,.slice o1 0 c1,.slice o2 0 c2,.slice o3 0 c3] 33)=WA at hvA hseA hkA HBA⊢;obtain ⟨vb,hvb⟩:∃n,w3.heap.size=n:=⟨_,rfl⟩
      rw [hvb]at hkA⊢;have HKA:=Lib.hid hkA;have HVA:=Lib.hid hvA;have HSA:=Lib.hid hseA;clear hv hb3 hse3 hbA hvA hseA hkA hvb;have hs:=sees_str HSA.out x;rw [HL3.out,HSS.out]at hs;have HS2:=Lib.hid hs;clear hs hz1 hz2 hz3 hz4 cJ;have hkA:=HKA.out;have k0:WA.cell? ⟨vb,0,none⟩=some (.slice o0 2 c0):=(by rw [cell_of_row WA vb _ _ _ _ hkA];rfl);clear hkA;go_wp2_with fail;refine HS2.out.mono ?_;rintro e w5 ⟨rfl,hb5⟩;have hk5:=(hb5.block vb (Array.getElem?_eq_some_iff.1 HKA.out).1).trans HKA.out;have hv5:=HVA.out.below hb5;have HB5:=Lib.hid (below_step HBA.out hb5);clear k0;obtain ⟨g0,i0,rfl⟩:=RowR.addr hv5.bl (by simp);have k0:w5.cell? ⟨vb,0,none⟩=some (.slice (some ⟨g0,i0,none⟩) 2 c0):=(by rw [cell_of_row w5 vb _ _ _ _ hk5];rfl);have k3:w5.cell? ⟨vb,3,none⟩=some (.slice o3 0 c3):=(by rw [cell_of_row w5 vb _ _ _ _ hk5];rfl);obtain ⟨_,_,_,_,p4,_⟩:=RowR.blk hv5.bl 0 _ rfl;obtain ⟨_,_,_,_,q4,_⟩:=RowR.blk hv5.bl 1 _ rfl;simp only [Nat.zero_mul,Nat.one_mul,Nat.add_zero]at p4 q4;clear hk5 hv5 hb5 HS2 HKA HVA HSA;go_wp2_with fail;go_ret;exact ⟨rfl,HB5.out⟩
     ·have hst2:=HST.out;simp only [if_true]at hst2;by_cases hod:x=oddL
      ·have hLo:L=(⟨#[111,100,100]⟩:ByteArray):=(by rw [←HL3.out,hod];rfl);rw [if_pos (by simp [hod])]at hst2;subst hLo;clear hod;have HV:=Lib.hid (view_any HSL.out (HE.out.below HBL.out) _ hds _ hst2);clear hds hst2 HST;go_wp2_with fail;refine (HV.out).mono ?_;rintro e w3 ⟨o0,o1,o2,o3,c0,c1,c2,c3,rfl,hv,hb3⟩;have hse3:=(HSL.out).below hb3;have hbA:=(Below.refl w3.heap.size w3).alloc (Nat.le_refl _) (.cells #[.slice o0 5 c0,.slice o1 0 c1,.slice o2 0 c2,.slice o3 1 c3] 33);have hvA:=hv.below hbA;have hseA:=hse3.below hbA;have hkA:=heap_alloc_new w3 (.cells #[.slice o0 5 c0,.slice o1 0 c1,.slice o2 0 c2,.slice o3 1 c3] 33);have HBA:=Lib.hid ((below_step HBL.out hb3).trans (hbA.mono (below_step HBL.out hb3).size));go_upto_region 13 with (fail)
       try simp only [List.length_cons,List.length_nil,List.length_replicate,Nat.zero_add,Nat.reduceAdd]
       generalize w3.alloc (.cells #[.slice o0 5 c0,.slice o1 0 c1,.slice o2 0 c2,.slice o3 1 c3] 33)=WA at hvA hseA hkA HBA⊢;obtain ⟨vb,hvb⟩:∃n,w3.heap.size=n:=⟨_,rfl⟩
       rw [hvb]at hkA⊢;have HKA:=Lib.hid hkA;have HVA:=Lib.hid hvA;have HSA:=Lib.hid hseA;clear hv hb3 hse3 hbA hvA hseA hkA hvb;have hs:=sees_str HSA.out x;rw [HL3.out,HSS.out]at hs;have HS2:=Lib.hid hs;clear hs hz1 hz2 hz3 hz4 cJ;have hkA:=HKA.out;have k0:WA.cell? ⟨vb,0,none⟩=some (.slice o0 5 c0):=(by rw [cell_of_row WA vb _ _ _ _ hkA];rfl);clear hkA;go_wp2_with fail;refine HS2.out.mono ?_;rintro e w5 ⟨rfl,hb5⟩;have hk5:=(hb5.block vb (Array.getElem?_eq_some_iff.1 HKA.out).1).trans HKA.out;have hv5:=HVA.out.below hb5;have HB5:=Lib.hid (below_step HBA.out hb5);clear k0;obtain ⟨g0,i0,rfl⟩:=RowR.addr hv5.bl (by simp);have k0:w5.cell? ⟨vb,0,none⟩=some (.slice (some ⟨g0,i0,none⟩) 5 c0):=(by rw [cell_of_row w5 vb _ _ _ _ hk5];rfl);have k3:w5.cell? ⟨vb,3,none⟩=some (.slice o3 1 c3):=(by rw [cell_of_row w5 vb _ _ _ _ hk5];rfl);obtain ⟨p0,p1,p2,p3,p4,p5⟩:=RowR.blk hv5.bl 1 _ rfl;obtain ⟨q0,q1,q2,q3,q4,q5⟩:=RowR.blk hv5.bl 2 _ rfl;obtain ⟨r0,r1,r2,r3,r4,r5⟩:=RowR.blk hv5.bl 3 _ rfl;simp only [Nat.zero_mul,Nat.one_mul,Nat.add_zero,Lib.mk_data,HL3.out]at p0 p1 p2 p3 p4 p5 q0 q1 q2 q3 q4 q5 r0 r1 r2 r3 r4 r5;clear hk5 hv5 hb5 HS2 HKA HVA HSA;go_wp2_with fail;go_ret;exact ⟨rfl,HB5.out⟩
      ·have hLo:¬L=(⟨#[111,100,100]⟩:ByteArray):=fun e=>hod (by rw [←HLL.out,e];rfl);rw [if_neg (by simpa using hod)]at hst2;have hb1:(L==(⟨#[111,100,100]⟩:ByteArray))=false:=by
        cases hbb:(L==(⟨#[111,100,100]⟩:ByteArray))with
        |false=>rfl
        |true=>exact absurd (beq_odd L hbb) hLo
       have hb2:(L.toList==[111,100,100])=false:=by
        rw [Lib.toList_data,HLL.out];simpa [oddL]using hod
       clear hod;have HV:=Lib.hid (view_any HSL.out (HE.out.below HBL.out) _ hds _ hst2);clear hds hst2 HST;go_wp2_with fail;refine (HV.out).mono ?_;rintro e w3 ⟨o0,o1,o2,o3,c0,c1,c2,c3,rfl,hv,hb3⟩;have hse3:=(HSL.out).below hb3;have hbA:=(Below.refl w3.heap.size w3).alloc (Nat.le_refl _) (.cells #[.slice o0 5 c0,.slice o1 0 c1,.slice o2 0 c2,.slice o3 0 c3] 33);have hvA:=hv.below hbA;have hseA:=hse3.below hbA;have hkA:=heap_alloc_new w3 (.cells #[.slice o0 5 c0,.slice o1 0 c1,.slice o2 0 c2,.slice o3 0 c3] 33);have HBA:=Lib.hid ((below_step HBL.out hb3).trans (hbA.mono (below_step HBL.out hb3).size));go_upto_region 13 with (fail)
       try simp only [List.length_cons,List.length_nil,List.length_replicate,Nat.zero_add,Nat.reduceAdd]
       generalize w3.alloc (.cells #[.slice o0 5 c0,.slice o1 0 c1,.slice o2 0 c2,.slice o3 0 c3] 33)=WA at hvA hseA hkA HBA⊢;obtain ⟨vb,hvb⟩:∃n,w3.heap.size=n:=⟨_,rfl⟩
       rw [hvb]at hkA⊢;have HKA:=Lib.hid hkA;have HVA:=Lib.hid hvA;have HSA:=Lib.hid hseA;clear hv hb3 hse3 hbA hvA hseA hkA hvb;have hs:=sees_str HSA.out x;rw [HL3.out,HSS.out]at hs;have HS2:=Lib.hid hs;clear hs hz1 hz2 hz3 hz4 cJ;have hkA:=HKA.out;have k0:WA.cell? ⟨vb,0,none⟩=some (.slice o0 5 c0):=(by rw [cell_of_row WA vb _ _ _ _ hkA];rfl);clear hkA;go_wp2_with fail;refine HS2.out.mono ?_;rintro e w5 ⟨rfl,hb5⟩;have hk5:=(hb5.block vb (Array.getElem?_eq_some_iff.1 HKA.out).1).trans HKA.out;have hv5:=HVA.out.below hb5;have HB5:=Lib.hid (below_step HBA.out hb5);clear k0;obtain ⟨g0,i0,rfl⟩:=RowR.addr hv5.bl (by simp);have k0:w5.cell? ⟨vb,0,none⟩=some (.slice (some ⟨g0,i0,none⟩) 5 c0):=(by rw [cell_of_row w5 vb _ _ _ _ hk5];rfl);have k3:w5.cell? ⟨vb,3,none⟩=some (.slice o3 0 c3):=(by rw [cell_of_row w5 vb _ _ _ _ hk5];rfl);obtain ⟨p0,p1,p2,p3,p4,p5⟩:=RowR.blk hv5.bl 1 _ rfl;obtain ⟨q0,q1,q2,q3,q4,q5⟩:=RowR.blk hv5.bl 2 _ rfl;obtain ⟨r0,r1,r2,r3,r4,r5⟩:=RowR.blk hv5.bl 3 _ rfl;simp only [Nat.zero_mul,Nat.one_mul,Nat.add_zero,Lib.mk_data,HL3.out]at p0 p1 p2 p3 p4 p5 q0 q1 q2 q3 q4 q5 r0 r1 r2 r3 r4 r5;clear hk5 hv5 hb5 HS2 HKA HVA HSA;go_wp2_with fail;go_ret;exact ⟨rfl,HB5.out⟩
end Go.Proofs.YtoccgnleiekomaaGreatDoor
