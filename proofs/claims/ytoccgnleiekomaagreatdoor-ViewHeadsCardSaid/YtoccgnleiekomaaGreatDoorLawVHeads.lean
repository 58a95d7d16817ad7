/-
  LawVHeads: a part of the proof.
-/
import Derived.Test.YtoccgnleiekomaaGreatDoorVwBZ
namespace Go.Proofs.YtoccgnleiekomaaGreatDoor
open Go.RowKit
set_option maxRecDepth 100000
set_option linter.unusedVariables false
set_option linter.unusedSimpArgs false
set_option maxHeartbeats 8000000 in
theorem law_vheads (k j:Int) (text:ByteArray) (_wk:(Lit.int .i64 k).wf=true) (_wj:(Lit.int .i64 j).wf=true) (w:World) (hE:EnvI w):
  Calls Tryz.prog 7 #[.int .i64 k,.int .i64 j,.string text] w fun e w'=>e=.returned (.bool true)∧Below w.heap.size w w':=by
 by_cases h0:text.size=0
 ·have ht:=empty_yes h0
  go_enter Tryz.func7,Tryz.ntmps7
  go_wp2_with fail
  refine (alive23_any _ hE).mono ?_
  rintro e w1 ⟨rfl,b1⟩
  go_wp2_with fail
  go_ret
  exact ⟨rfl,b1⟩
 ·have ht:=empty_no (s:=text) (by omega)
  by_cases h40:(40:Int)<(text.size:Int)
  ·go_enter Tryz.func7,Tryz.ntmps7
   go_wp2_with fail
   refine (alive23_any _ hE).mono ?_
   rintro e w1 ⟨rfl,b1⟩
   go_wp2_with fail
   go_ret
   exact ⟨rfl,b1⟩
  ·have HE:=Lib.hid hE
   clear hE
   obtain ⟨J,hJ,hj⟩:=rem4 j
   obtain ⟨x,hx⟩:∃x,diaNames[J]? =some x:=⟨_,List.getElem?_eq_getElem (by show J<4;exact hJ)⟩
   go_enter Tryz.func7,Tryz.ntmps7
   go_wp2_with fail
   refine (alive23_any _ HE.out).mono ?_
   rintro e w1 ⟨rfl,b1⟩
   go_wp2_with fail
   go_loop [7] (fun ui=>∃i:Nat,i≤(text).size∧ui=.int .i64 i∧Letters ((text).data.toList.take i)) (fun ui=>(text).size - (intOf ui).toNat)
   case atStart=>exact ⟨0,Nat.zero_le _,rfl,fun b hb=>by simp at hb⟩
   case round=>
    obtain ⟨i,hi,rfl,hl⟩:=hrel
    have HL:=Lib.hid hl
    clear hl
    by_cases hlt:i<(text).size
    ·have hg:=Lib.data_getElem? text i hlt
     obtain ⟨d,hd⟩:∃d,(text)[i]=d:=⟨_,rfl⟩
     rw [hd]at hg
     have HG:=Lib.hid hg
     clear hg
     by_cases t1:(d.toNat:Int)<97
     ·go_wp2_with fail
      go_ret
      exact ⟨rfl,b1⟩
     ·by_cases t2:(122:Int)<(d.toNat:Int)
      ·go_wp2_with fail
       go_ret
       exact ⟨rfl,b1⟩
      ·have HN:=Lib.hid (lettersV_take HL.out HG.out (by omega))
       go_wp2_with fail
       go_round
       case rel=>exact ⟨i+1,by omega,by go_num,HN.out⟩
       case measure=>simp [intOf];omega
    ·obtain rfl:i=text.size:=by omega
     have HL2:=Lib.hid (show Letters text.data.toList by have:=HL.out;rwa [take_all]at this)
     have HX:=Lib.hid hx
     go_wp2_with fail
     refine (see_any k _).mono ?_
     rintro e w2 ⟨sb,v,K,rfl,hse,b2⟩
     have HB2:=Lib.hid (below_step b1 b2)
     have HSE:=Lib.hid hse
     have cJ:=dia_cell w2 hx
     have hJi:(J:Int)<4:=by omega
     have hJn:(0:Int)≤(J:Int):=by omega
     obtain ⟨lx,lne,lz⟩:=dia_letters hx
     obtain ⟨L,hL⟩:∃X:ByteArray,(⟨x.toArray⟩:ByteArray)=X:=⟨_,rfl⟩
     have hLl:L.data.toList=x:=by rw [←hL]
     have hLs:L.size≤5:=by rw [Lib.size_eq,hLl];exact lz
     rw [hL]at cJ
     have hz1:¬(9223372036854775807:Int)<((⟨#[97,10,35,35,32]⟩:ByteArray).size:Int)+(text.size:Int):=by rw [show (⟨#[97,10,35,35,32]⟩:ByteArray).size=5 from rfl];omega
     have hz2:¬(9223372036854775807:Int)<(((⟨#[97,10,35,35,32]⟩:ByteArray)++text).size:Int)+((⟨#[32,123,61]⟩:ByteArray).size:Int):=by rw [ByteArray.size_append,show (⟨#[97,10,35,35,32]⟩:ByteArray).size=5 from rfl,show (⟨#[32,123,61]⟩:ByteArray).size=3 from rfl];omega
     have hz3:¬(9223372036854775807:Int)<(((⟨#[97,10,35,35,32]⟩:ByteArray)++text++(⟨#[32,123,61]⟩:ByteArray)).size:Int)+(L.size:Int):=by rw [ByteArray.size_append,ByteArray.size_append,show (⟨#[97,10,35,35,32]⟩:ByteArray).size=5 from rfl,show (⟨#[32,123,61]⟩:ByteArray).size=3 from rfl];omega
     have hz4:¬(9223372036854775807:Int)<(((⟨#[97,10,35,35,32]⟩:ByteArray)++text++(⟨#[32,123,61]⟩:ByteArray)++L).size:Int)+((⟨#[125,10,98,10]⟩:ByteArray).size:Int):=by rw [ByteArray.size_append,ByteArray.size_append,ByteArray.size_append,show (⟨#[97,10,35,35,32]⟩:ByteArray).size=5 from rfl,show (⟨#[32,123,61]⟩:ByteArray).size=3 from rfl,show (⟨#[125,10,98,10]⟩:ByteArray).size=4 from rfl];omega
     have hdl:((⟨#[97,10,35,35,32]⟩:ByteArray)++text++(⟨#[32,123,61]⟩:ByteArray)++L++(⟨#[125,10,98,10]⟩:ByteArray)).data.toList=headsDoc text.data.toList x:=by
      simp only [ByteArray.data_append,Array.toList_append,hLl]
      simp [headsDoc,joinL,headLine]
     have hds:((⟨#[97,10,35,35,32]⟩:ByteArray)++text++(⟨#[32,123,61]⟩:ByteArray)++L++(⟨#[125,10,98,10]⟩:ByteArray)).size≤6000:=by
      simp only [ByteArray.size_append,show (⟨#[97,10,35,35,32]⟩:ByteArray).size=5 from rfl,show (⟨#[32,123,61]⟩:ByteArray).size=3 from rfl,show (⟨#[125,10,98,10]⟩:ByteArray).size=4 from rfl];omega
     have hst:=heads_law (diaSeer K) text.data.toList x HL2.out lx lne (by omega) (fun e=>by rw [Lib.size_eq,e]at h0;exact h0 rfl) (dia_known hx K) (fun y hy=>restore_zero [] [y] (by rcases hy with rfl|rfl<;>decide))
     rw [←hdl]at hst
     have HST:=Lib.hid hst
     have HL3:=Lib.hid hL
     clear b1 b2 hx HL hL hdl hst
     obtain ⟨see,hsee⟩:∃b,(diaSeer K).see1 x=b:=⟨_,rfl⟩
     rw [hsee]at HST
     have HSS:=Lib.hid hsee
     clear hsee
     have hbl:=(Below.refl w2.heap.size w2).alloc (Nat.le_refl _) (.cells #[.string ⟨#[108,111,119]⟩,.string ⟨#[108,101,102,116]⟩,.string ⟨#[114,105,103,104,116]⟩,.string ⟨#[104,105,103,104]⟩] 9)
     have HSL:=Lib.hid (hse.below hbl)
     have HBL:=Lib.hid (below_step HB2.out hbl)
     clear hse hbl HSE HB2
     cases see
     ·have hst2:=HST.out
      simp only [Bool.false_eq_true,if_false]at hst2
      have HV:=Lib.hid (view_any HSL.out (HE.out.below HBL.out) _ hds _ hst2)
      clear hds hst2 HST
      go_wp2_with fail
      refine (HV.out).mono ?_
      rintro e w3 ⟨o0,o1,o2,o3,c0,c1,c2,c3,rfl,hv,hb3⟩
      have hse3:=(HSL.out).below hb3
      have hbA:=(Below.refl w3.heap.size w3).alloc (Nat.le_refl _) (.cells #[.slice o0 2 c0,.slice o1 0 c1,.slice o2 0 c2,.slice o3 0 c3] 33)
      have hvA:=hv.below hbA
      have hseA:=hse3.below hbA
      have hkA:=heap_alloc_new w3 (.cells #[.slice o0 2 c0,.slice o1 0 c1,.slice o2 0 c2,.slice o3 0 c3] 33)
      have HBA:=Lib.hid ((below_step HBL.out hb3).trans (hbA.mono (below_step HBL.out hb3).size))
      go_upto_region 13 with (fail)
      try simp only [List.length_cons,List.length_nil,List.length_replicate,Nat.zero_add,Nat.reduceAdd]
      generalize w3.alloc (.cells #[.slice o0 2 c0,.slice o1 0 c1,.slice o2 0 c2,.slice o3 0 c3] 33)=WA at hvA hseA hkA HBA⊢
      obtain ⟨vb,hvb⟩:∃n,w3.heap.size=n:=⟨_,rfl⟩
      rw [hvb]at hkA⊢
      have HKA:=Lib.hid hkA
      have HVA:=Lib.hid hvA
      have HSA:=Lib.hid hseA
      clear hv hb3 hse3 hbA hvA hseA hkA hvb
      have hs:=sees_str HSA.out x
      rw [HL3.out,HSS.out]at hs
      have HS2:=Lib.hid hs
      clear hs hz1 hz2 hz3 hz4 cJ
      go_wp2_with fail
      refine HS2.out.mono ?_
      rintro e w5 ⟨rfl,hb5⟩
      have hk5:=(hb5.block vb (Array.getElem?_eq_some_iff.1 HKA.out).1).trans HKA.out
      have hv5:=HVA.out.below hb5
      have HB5:=Lib.hid (below_step HBA.out hb5)
      obtain ⟨g0,i0,rfl⟩:=RowR.addr hv5.bl (by simp)
      have k0:w5.cell? ⟨vb,0,none⟩=some (.slice (some ⟨g0,i0,none⟩) 2 c0):=by rw [cell_of_row w5 vb _ _ _ _ hk5];rfl
      obtain ⟨_,_,_,_,p4,_⟩:=RowR.blk hv5.bl 0 _ rfl
      obtain ⟨_,_,_,_,q4,_⟩:=RowR.blk hv5.bl 1 _ rfl
      simp only [Nat.zero_mul,Nat.one_mul,Nat.add_zero]at p4 q4
      clear hk5 hv5 hb5 HS2 HKA HVA HSA
      go_wp2_with fail
      go_ret
      exact ⟨rfl,HB5.out⟩
     ·have hst2:=HST.out
      simp only [if_true]at hst2
      have HV:=Lib.hid (view_any HSL.out (HE.out.below HBL.out) _ hds _ hst2)
      clear hds hst2 HST
      go_wp2_with fail
      refine (HV.out).mono ?_
      rintro e w3 ⟨o0,o1,o2,o3,c0,c1,c2,c3,rfl,hv,hb3⟩
      have hse3:=(HSL.out).below hb3
      have hbA:=(Below.refl w3.heap.size w3).alloc (Nat.le_refl _) (.cells #[.slice o0 3 c0,.slice o1 0 c1,.slice o2 0 c2,.slice o3 0 c3] 33)
      have hvA:=hv.below hbA
      have hseA:=hse3.below hbA
      have hkA:=heap_alloc_new w3 (.cells #[.slice o0 3 c0,.slice o1 0 c1,.slice o2 0 c2,.slice o3 0 c3] 33)
      have HBA:=Lib.hid ((below_step HBL.out hb3).trans (hbA.mono (below_step HBL.out hb3).size))
      go_upto_region 13 with (fail)
      try simp only [List.length_cons,List.length_nil,List.length_replicate,Nat.zero_add,Nat.reduceAdd]
      generalize w3.alloc (.cells #[.slice o0 3 c0,.slice o1 0 c1,.slice o2 0 c2,.slice o3 0 c3] 33)=WA at hvA hseA hkA HBA⊢
      obtain ⟨vb,hvb⟩:∃n,w3.heap.size=n:=⟨_,rfl⟩
      rw [hvb]at hkA⊢
      have HKA:=Lib.hid hkA
      have HVA:=Lib.hid hvA
      have HSA:=Lib.hid hseA
      clear hv hb3 hse3 hbA hvA hseA hkA hvb
      have hs:=sees_str HSA.out x
      rw [HL3.out,HSS.out]at hs
      have HS2:=Lib.hid hs
      clear hs hz1 hz2 hz3 hz4 cJ
      go_wp2_with fail
      refine HS2.out.mono ?_
      rintro e w5 ⟨rfl,hb5⟩
      have hk5:=(hb5.block vb (Array.getElem?_eq_some_iff.1 HKA.out).1).trans HKA.out
      have hv5:=HVA.out.below hb5
      have HB5:=Lib.hid (below_step HBA.out hb5)
      obtain ⟨g0,i0,rfl⟩:=RowR.addr hv5.bl (by simp)
      have k0:w5.cell? ⟨vb,0,none⟩=some (.slice (some ⟨g0,i0,none⟩) 3 c0):=by rw [cell_of_row w5 vb _ _ _ _ hk5];rfl
      obtain ⟨p0,p1,p2,p3,p4,p5⟩:=RowR.blk hv5.bl 1 _ rfl
      simp only [Nat.zero_mul,Nat.one_mul,Nat.add_zero,Lib.mk_data]at p0 p1 p2 p3 p4 p5
      clear hk5 hv5 hb5 HS2 HKA HVA HSA
      go_wp2_with fail
      go_ret
      exact ⟨rfl,HB5.out⟩
end Go.Proofs.YtoccgnleiekomaaGreatDoor
