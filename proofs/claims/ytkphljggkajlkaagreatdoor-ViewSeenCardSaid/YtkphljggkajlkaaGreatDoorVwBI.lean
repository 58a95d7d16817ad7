import Derived.Test.YtkphljggkajlkaaGreatDoorVwBH
set_option linter.unusedVariables false
set_option linter.unusedSimpArgs false
namespace Go.Proofs.YtkphljggkajlkaaGreatDoor
open Go.RowKit
set_option maxRecDepth 100000
set_option linter.unusedVariables false
set_option linter.unusedSimpArgs false
theorem head_none {s:List UInt8} (h:mayIn s=false∨rowL (restB s) 35<1∨6<rowL (restB s) 35∨(((restB s).drop (rowL (restB s) 35)).head?.any fun c=> !blankB c)=true):headL s=(0,[],false):=by
 unfold headL;simp only;rw [if_pos h]
def headOf (K:Nat) (R:List UInt8):Nat×List UInt8×Bool:=
 if rstripL (·==35) (trimB R)=[]∨((rstripL (·==35) (trimB R)).getLast?.any blankB)=true then (K,rstripL blankB (rstripL (·==35) (trimB R)),true)else (K,trimB R,true)
theorem head_some {s:List UInt8} (h:¬(mayIn s=false∨rowL (restB s) 35<1∨6<rowL (restB s) 35∨(((restB s).drop (rowL (restB s) 35)).head?.any fun c=> !blankB c)=true)):headL s=headOf (rowL (restB s) 35) ((restB s).drop (rowL (restB s) 35)):=by
 unfold headL headOf;simp only;rw [if_neg h]
set_option maxHeartbeats 8000000 in
theorem heading_any (s:ByteArray) (w:World) (hs:s.size≤1000000):
  Calls Tryz.prog 136 #[.string s] w fun e w'=>e=.returned (.tuple #[.int .i64 (headL s.data.toList).1,.string ⟨(headL s.data.toList).2.1.toArray⟩,.bool (headL s.data.toList).2.2])∧Below w.heap.size w w':=by
 have hbe:=fun W=>mbehind_any s W hs;have hXz:=restB_le s.data.toList;have hno:=head_none (s:=s.data.toList);have hso:=head_some (s:=s.data.toList);obtain ⟨X,hX⟩:∃X:ByteArray,(⟨(restB s.data.toList).toArray⟩:ByteArray)=X:=⟨_,rfl⟩
 have hXl:restB s.data.toList=X.data.toList:=(by rw [←hX]);rw [hX]at hbe;rw [hXl,←Lib.size_eq,←Lib.size_eq]at hXz;rw [hXl]at hno hso;obtain ⟨M,hM⟩:∃M,mayIn s.data.toList=M:=⟨_,rfl⟩
 rw [hM]at hbe hno hso;have hro:∀W,Calls Tryz.prog 170 #[.string X,.int .u8 35] W fun e w'=>e=.returned (.int .i64 (rowL X.data.toList 35))∧Below W.heap.size W w':=fun W=>mrow_any X 35 W (by omega) (by decide);have hKz:=rowL_le X.data.toList 35;rw [←Lib.size_eq]at hKz;obtain ⟨K,hK⟩:∃K,rowL X.data.toList 35=K:=⟨_,rfl⟩
 rw [hK]at hro hno hso hKz;obtain ⟨R,hR⟩:∃R:ByteArray,X.extract K X.size=R:=⟨_,rfl⟩
 have hRl:X.data.toList.drop K=R.data.toList:=(by rw [←hR,Lib.extract_to_end]);have hRz:R.size≤X.size:=(by rw [←hR];simp);rw [hRl]at hno hso;have hT:=fun W=>trLR_any R W (by omega);have hTz:=trimB_le R.data.toList;obtain ⟨T,hTT⟩:∃T:ByteArray,(⟨(trimB R.data.toList).toArray⟩:ByteArray)=T:=⟨_,rfl⟩
 have hTl:trimB R.data.toList=T.data.toList:=(by rw [←hTT]);rw [hTT]at hT;rw [hTl,←Lib.size_eq,←Lib.size_eq]at hTz;have hU:=fun W=>trR1_any T 35 (by decide) W (by omega);have hUz:=rstrip_le (·==35) T.data.toList;obtain ⟨U,hUU⟩:∃U:ByteArray,(⟨(rstripL (·==35) T.data.toList).toArray⟩:ByteArray)=U:=⟨_,rfl⟩
 have hUl:rstripL (·==35) T.data.toList=U.data.toList:=(by rw [←hUU]);rw [hUU]at hU;rw [hUl,←Lib.size_eq,←Lib.size_eq]at hUz;have hV:=fun W=>trR_any U W (by omega);obtain ⟨V,hVV⟩:∃V:ByteArray,(⟨(rstripL blankB U.data.toList).toArray⟩:ByteArray)=V:=⟨_,rfl⟩
 have hVl:rstripL blankB U.data.toList=V.data.toList:=(by rw [←hVV]);rw [hVV]at hV;have hUb:U.size≤1000000:=(by omega);have HBE:=Lib.hid hbe;have HRO:=Lib.hid hro;have HT:=Lib.hid hT;have HU:=Lib.hid hU;have HV:=Lib.hid hV;have HTL:=Lib.hid hTl;have HUL:=Lib.hid hUl;have HVL:=Lib.hid hVl;have HN:=Lib.hid hno;have HS:=Lib.hid hso;clear hbe hro hT hU hV hTl hUl hVl hno hso hX hXl hM hK hRl hTT hUU hVV hUz hTz hRz;go_enter Tryz.func136,Tryz.ntmps136
 go_wp2_with fail;refine (HBE.out _).mono ?_;rintro e w2 ⟨rfl,b2⟩;have HB2:=Lib.hid b2;clear b2;go_wp2_with fail;refine (HRO.out _).mono ?_;rintro e w3 ⟨rfl,b3⟩;have HB3:=Lib.hid (below_step HB2.out b3);clear b3;cases M
 ·have HQ:=Lib.hid (HN.out (Or.inl rfl));go_wp2_with fail;refine bodyPost_ret (v:=.tuple #[.int .i64 0,.string ⟨#[]⟩,.bool false]) (by simp [results,Tryz.results136,go_sem]) rfl ⟨(by rw [HQ.out];rfl),HB3.out⟩
 ·by_cases k1:K<1
  ·have HQ:=Lib.hid (HN.out (Or.inr (Or.inl k1)));have q1:(K:Int)<1:=(by omega);go_wp2_with fail;refine bodyPost_ret (v:=.tuple #[.int .i64 0,.string ⟨#[]⟩,.bool false]) (by simp [results,Tryz.results136,go_sem]) rfl ⟨(by rw [HQ.out];rfl),HB3.out⟩
  ·have q1:¬(K:Int)<1:=(by omega);by_cases k6:6<K
   ·have HQ:=Lib.hid (HN.out (Or.inr (Or.inr (Or.inl k6))));have q2:(6:Int)<(K:Int):=(by omega);go_wp2_with fail;refine bodyPost_ret (v:=.tuple #[.int .i64 0,.string ⟨#[]⟩,.bool false]) (by simp [results,Tryz.results136,go_sem]) rfl ⟨(by rw [HQ.out];rfl),HB3.out⟩
   ·have q2:¬(6:Int)<(K:Int):=(by omega);by_cases hr0:0<R.size
    ·have her:=empty_no hr0;obtain ⟨q,hq⟩:∃q,R[0]=q:=⟨_,rfl⟩
     have hh:=head_get R hr0;rw [hq]at hh;have hcq:=fun W=>crB_any q W;cases hbq:blankB q
     ·rw [hbq]at hcq;have HQ:=Lib.hid (HN.out (Or.inr (Or.inr (Or.inr (by rw [hh];simp [hbq])))));have HCQ:=Lib.hid hcq;clear hcq hh hbq k1 k6;go_wp2_with fail;refine (HCQ.out _).mono ?_;rintro e w4 ⟨rfl,b4⟩;have HB4:=Lib.hid (below_step HB3.out b4);clear b4;go_wp2_with fail;refine bodyPost_ret (v:=.tuple #[.int .i64 0,.string ⟨#[]⟩,.bool false]) (by simp [results,Tryz.results136,go_sem]) rfl ⟨(by rw [HQ.out];rfl),HB4.out⟩
     ·rw [hbq]at hcq;have hcond:¬(true=false∨K<1∨6<K∨(R.data.toList.head?.any fun c=> !blankB c)=true):=by
       rintro (h|h|h|h)
       ·cases h
       ·exact k1 h
       ·exact k6 h
       ·rw [hh]at h;simp [hbq]at h
      have HCQ:=Lib.hid hcq;clear hcq hh hbq k1 k6;go_wp2_with fail;refine (HCQ.out _).mono ?_;rintro e w4 ⟨rfl,b4⟩;have hB4:=below_step HB3.out b4;have HHB:=Lib.hid hB4;go_wp2_with fail;refine (HT.out _).mono ?_;rintro e w5 ⟨rfl,b5⟩;have HB5:=Lib.hid (below_step HHB.out b5);clear b5;go_wp2_with fail;refine (HU.out _).mono ?_;rintro e w6 ⟨rfl,hw6⟩;obtain rfl:=hw6.symm;by_cases hu0:0<U.size
      ·have heu:=empty_no hu0;obtain ⟨y,hy⟩:∃y,∀h,U[U.size - 1]'h=y:=⟨U[U.size - 1]'(by omega),fun _=>rfl⟩
       have hyl:U.data.toList.getLast? =some y:=(by rw [last_get U hu0,hy]);have hcy:=fun W=>crB_any y W;cases hby:blankB y
       ·rw [hby]at hcy;have HF:=Lib.hid (show headL s.data.toList=(K,T.data.toList,true) by
         rw [HS.out hcond];unfold headOf;rw [HTL.out,HUL.out,if_neg];rintro (h|h)
         ·rw [h]at hyl;cases hyl
         ·rw [hyl]at h;simp [hby]at h)
        have HCY:=Lib.hid hcy;clear hcy hyl hby hcond;go_wp2_with fail;refine (HCY.out _).mono ?_;rintro e w7 ⟨rfl,b7⟩;have HB7:=Lib.hid (below_step HB5.out b7);clear b7;go_wp2_with fail;refine bodyPost_ret (v:=.tuple #[.int .i64 K,.string T,.bool true]) (by simp [results,Tryz.results136,go_sem]) rfl ⟨(by rw [HF.out]),HB7.out⟩
       ·rw [hby]at hcy;have HF:=Lib.hid (show headL s.data.toList=(K,V.data.toList,true) by
         rw [HS.out hcond];unfold headOf;rw [HTL.out,HUL.out,if_pos (Or.inr (by rw [hyl];simp [hby])),HVL.out])
        have HCY:=Lib.hid hcy;clear hcy hyl hby hcond;go_wp2_with fail;refine (HCY.out _).mono ?_;rintro e w7 ⟨rfl,b7⟩;have HB7:=Lib.hid (below_step HB5.out b7);clear b7;go_wp2_with fail;refine (HV.out _).mono ?_;rintro e w8 ⟨rfl,b8⟩;have HB8:=Lib.hid (below_step HB7.out b8);clear b8;go_wp2_with fail;refine bodyPost_ret (v:=.tuple #[.int .i64 K,.string V,.bool true]) (by simp [results,Tryz.results136,go_sem]) rfl ⟨(by rw [HF.out]),HB8.out⟩
      ·have heu:=empty_yes (s:=U) (by omega);have HF:=Lib.hid (show headL s.data.toList=(K,V.data.toList,true) by
        rw [HS.out hcond];unfold headOf;rw [HTL.out,HUL.out,if_pos (Or.inl (head_nil U (by omega))),HVL.out])
       clear hcond;go_wp2_with fail;refine (HV.out _).mono ?_;rintro e w8 ⟨rfl,b8⟩;have HB8:=Lib.hid (below_step HB5.out b8);clear b8;go_wp2_with fail;refine bodyPost_ret (v:=.tuple #[.int .i64 K,.string V,.bool true]) (by simp [results,Tryz.results136,go_sem]) rfl ⟨(by rw [HF.out]),HB8.out⟩
    ·have her:=empty_yes (s:=R) (by omega);have hcond:¬(true=false∨K<1∨6<K∨(R.data.toList.head?.any fun c=> !blankB c)=true):=by
      rintro (h|h|h|h)
      ·cases h
      ·exact k1 h
      ·exact k6 h
      ·rw [head_nil R (by omega)]at h;simp at h
     have hB4:=HB3.out;clear k1 k6;have HHB:=Lib.hid hB4;go_wp2_with fail;refine (HT.out _).mono ?_;rintro e w5 ⟨rfl,b5⟩;have HB5:=Lib.hid (below_step HHB.out b5);clear b5;go_wp2_with fail;refine (HU.out _).mono ?_;rintro e w6 ⟨rfl,hw6⟩;obtain rfl:=hw6.symm;by_cases hu0:0<U.size
     ·have heu:=empty_no hu0;obtain ⟨y,hy⟩:∃y,∀h,U[U.size - 1]'h=y:=⟨U[U.size - 1]'(by omega),fun _=>rfl⟩
      have hyl:U.data.toList.getLast? =some y:=(by rw [last_get U hu0,hy]);have hcy:=fun W=>crB_any y W;cases hby:blankB y
      ·rw [hby]at hcy;have HF:=Lib.hid (show headL s.data.toList=(K,T.data.toList,true) by
        rw [HS.out hcond];unfold headOf;rw [HTL.out,HUL.out,if_neg];rintro (h|h)
        ·rw [h]at hyl;cases hyl
        ·rw [hyl]at h;simp [hby]at h)
       have HCY:=Lib.hid hcy;clear hcy hyl hby hcond;go_wp2_with fail;refine (HCY.out _).mono ?_;rintro e w7 ⟨rfl,b7⟩;have HB7:=Lib.hid (below_step HB5.out b7);clear b7;go_wp2_with fail;refine bodyPost_ret (v:=.tuple #[.int .i64 K,.string T,.bool true]) (by simp [results,Tryz.results136,go_sem]) rfl ⟨(by rw [HF.out]),HB7.out⟩
      ·rw [hby]at hcy;have HF:=Lib.hid (show headL s.data.toList=(K,V.data.toList,true) by
        rw [HS.out hcond];unfold headOf;rw [HTL.out,HUL.out,if_pos (Or.inr (by rw [hyl];simp [hby])),HVL.out])
       have HCY:=Lib.hid hcy;clear hcy hyl hby hcond;go_wp2_with fail;refine (HCY.out _).mono ?_;rintro e w7 ⟨rfl,b7⟩;have HB7:=Lib.hid (below_step HB5.out b7);clear b7;go_wp2_with fail;refine (HV.out _).mono ?_;rintro e w8 ⟨rfl,b8⟩;have HB8:=Lib.hid (below_step HB7.out b8);clear b8;go_wp2_with fail;refine bodyPost_ret (v:=.tuple #[.int .i64 K,.string V,.bool true]) (by simp [results,Tryz.results136,go_sem]) rfl ⟨(by rw [HF.out]),HB8.out⟩
     ·have heu:=empty_yes (s:=U) (by omega);have HF:=Lib.hid (show headL s.data.toList=(K,V.data.toList,true) by
       rw [HS.out hcond];unfold headOf;rw [HTL.out,HUL.out,if_pos (Or.inl (head_nil U (by omega))),HVL.out])
      clear hcond;go_wp2_with fail;refine (HV.out _).mono ?_;rintro e w8 ⟨rfl,b8⟩;have HB8:=Lib.hid (below_step HB5.out b8);clear b8;go_wp2_with fail;refine bodyPost_ret (v:=.tuple #[.int .i64 K,.string V,.bool true]) (by simp [results,Tryz.results136,go_sem]) rfl ⟨(by rw [HF.out]),HB8.out⟩
set_option maxHeartbeats 8000000 in
theorem closes_any (s:ByteArray) (c:UInt8) (n:Nat) (w:World) (hs:s.size≤1000000) (hca:c.toNat<128) (hn:n≤1000000000):
  Calls Tryz.prog 175 #[.string s,.int .u8 (c.toNat:Int),.int .i64 n] w fun e w'=>e=.returned (.bool (closesF s.data.toList c n))∧Below w.heap.size w w':=by
 have hbe:=fun W=>mbehind_any s W hs;have hXz:=restB_le s.data.toList;obtain ⟨X,hX⟩:∃X:ByteArray,(⟨(restB s.data.toList).toArray⟩:ByteArray)=X:=⟨_,rfl⟩
 have hXl:restB s.data.toList=X.data.toList:=(by rw [←hX]);rw [hX]at hbe;rw [hXl,←Lib.size_eq,←Lib.size_eq]at hXz;obtain ⟨M,hM⟩:∃M,mayIn s.data.toList=M:=⟨_,rfl⟩
 rw [hM]at hbe;have hro:=fun W=>mrow_any X c W (by omega) hca;have hKz:=rowL_le X.data.toList c;rw [←Lib.size_eq]at hKz;have hv:closesF s.data.toList c n=(M&&decide (max n 1≤rowL X.data.toList c)&&blankV (X.data.toList.drop (rowL X.data.toList c))):=by
  unfold closesF;rw [hM,hXl]
 obtain ⟨K,hK⟩:∃K,rowL X.data.toList c=K:=⟨_,rfl⟩
 rw [hK]at hro hKz hv;obtain ⟨R,hR⟩:∃R:ByteArray,X.extract K X.size=R:=⟨_,rfl⟩
 have hRl:X.data.toList.drop K=R.data.toList:=(by rw [←hR,Lib.extract_to_end]);have hRz:R.size≤X.size:=(by rw [←hR];simp);rw [hRl]at hv;have hbl:=fun W=>blank_any R W (by omega);obtain ⟨B,hB⟩:∃B,blankV R.data.toList=B:=⟨_,rfl⟩
 rw [hB]at hbl hv;obtain ⟨m,hm⟩:∃m,max n 1=m:=⟨_,rfl⟩
 rw [hm]at hv;have hmI:max (n:Int) 1=(m:Int):=(by omega);have HBE:=Lib.hid hbe;have HRO:=Lib.hid hro;have HBL:=Lib.hid hbl;have HV:=Lib.hid hv;clear hbe hro hbl hv hM hXl hX hK hRl hB hRz hm;go_enter Tryz.func175,Tryz.ntmps175
 go_wp2_with fail;refine (HBE.out _).mono ?_;rintro e w2 ⟨rfl,b2⟩;have HB2:=Lib.hid b2;clear b2;go_wp2_with fail;refine (HRO.out _).mono ?_;rintro e w3 ⟨rfl,b3⟩;have HB3:=Lib.hid (below_step HB2.out b3);clear b3;cases M
 ·have HQ:=Lib.hid (show closesF s.data.toList c n=false by rw [HV.out];rfl);go_wp2_with fail;go_ret;exact ⟨by rw [HQ.out];try rfl,HB3.out⟩
 ·by_cases km:m≤K
  ·have qm:(m:Int)≤(K:Int):=(by omega);have HQ:=Lib.hid (show closesF s.data.toList c n=B by rw [HV.out,decide_eq_true km];simp);go_wp2_with fail;refine (HBL.out _).mono ?_;rintro e w4 ⟨rfl,b4⟩;have HB4:=Lib.hid (below_step HB3.out b4);clear b4;go_wp2_with fail;go_ret;exact ⟨by rw [HQ.out];try rfl,HB4.out⟩
  ·have qm:¬(m:Int)≤(K:Int):=(by omega);have HQ:=Lib.hid (show closesF s.data.toList c n=false by rw [HV.out,decide_eq_false km];simp);go_wp2_with fail;go_ret;exact ⟨by rw [HQ.out];try rfl,HB3.out⟩
theorem quote_eq {s:List UInt8} {X:ByteArray} {M:Bool} (hX:restB s=X.data.toList) (hM:mayIn s=M):quoteL s=if M=true∧(preAt 62 X.data.toList).2=true then (Lib.trimPrefix (preAt 62 X.data.toList).1 [32],true)else ([],false):=by
 unfold quoteL;rw [hX,hM]
set_option maxHeartbeats 8000000 in
theorem quote_any (s:ByteArray) (w:World) (hs:s.size≤1000000):
  Calls Tryz.prog 176 #[.string s] w fun e w'=>e=.returned (.tuple #[.string ⟨(quoteL s.data.toList).1.toArray⟩,.bool (quoteL s.data.toList).2])∧Below w.heap.size w w':=by
 have hbe:=fun W=>mbehind_any s W hs;have hXz:=restB_le s.data.toList;obtain ⟨X,hX⟩:∃X:ByteArray,(⟨(restB s.data.toList).toArray⟩:ByteArray)=X:=⟨_,rfl⟩
 have hXl:restB s.data.toList=X.data.toList:=(by rw [←hX]);rw [hX]at hbe;rw [hXl,←Lib.size_eq,←Lib.size_eq]at hXz;obtain ⟨M,hM⟩:∃M,mayIn s.data.toList=M:=⟨_,rfl⟩
 rw [hM]at hbe;have hv:=quote_eq hXl hM;have hp:=fun W=>pre_any 62 X W;obtain ⟨R,hR⟩:∃R:ByteArray,(⟨(preAt 62 X.data.toList).1.toArray⟩:ByteArray)=R:=⟨_,rfl⟩
 have hRl:(preAt 62 X.data.toList).1=R.data.toList:=(by rw [←hR]);obtain ⟨P,hP⟩:∃P,(preAt 62 X.data.toList).2=P:=⟨_,rfl⟩
 rw [hR,hP]at hp;rw [hP,hRl]at hv;have ht:=fun W=>Tryz.strings_TrimPrefix R ⟨#[32]⟩ W;obtain ⟨T,hT⟩:∃T:ByteArray,(⟨(Lib.trimPrefix R.data.toList [32]).toArray⟩:ByteArray)=T:=⟨_,rfl⟩
 have hTl:Lib.trimPrefix R.data.toList [32]=T.data.toList:=(by rw [←hT]);have ht2:∀W,Calls Tryz.prog 207 #[.string R,.string ⟨#[32]⟩] W fun e w'=>e=.returned (.string T)∧w'=W:=fun W=>by
  rw [←hT];exact ht W
 rw [hTl]at hv;have HBE:=Lib.hid hbe;have HP:=Lib.hid hp;have HT:=Lib.hid ht2;have HV:=Lib.hid hv;clear hbe hp ht ht2 hv hM hXl hX hR hRl hP hT hTl;go_enter Tryz.func176,Tryz.ntmps176
 go_wp2_with fail;refine (HBE.out _).mono ?_;rintro e w2 ⟨rfl,b2⟩;have HB2:=Lib.hid b2;clear b2;go_wp2_with fail;refine (HP.out _).mono ?_;rintro e w3 ⟨rfl,hw3⟩;obtain rfl:=hw3.symm;cases M
 ·have HQ:=Lib.hid (show quoteL s.data.toList=([],false) by rw [HV.out,if_neg (by simp)]);go_wp2_with fail
  go_ret2
  exact ⟨by rw [HQ.out];try rfl,HB2.out⟩
 ·cases P
  ·have HQ:=Lib.hid (show quoteL s.data.toList=([],false) by rw [HV.out,if_neg (by simp)]);go_wp2_with fail
   go_ret2
   exact ⟨by rw [HQ.out];try rfl,HB2.out⟩
  ·have HQ:=Lib.hid (show quoteL s.data.toList=(T.data.toList,true) by rw [HV.out,if_pos (by simp)]);go_wp2_with fail;refine (HT.out _).mono ?_;rintro e w4 ⟨rfl,hw4⟩;obtain rfl:=hw4.symm;go_wp2_with fail
   go_ret2
   exact ⟨ret_sb HQ.out,HB2.out⟩
theorem trimOne_empty (l:List UInt8) (c:UInt8):(Lib.trimB l c).isEmpty=l.all (·==c):=by
 have h:=trimS_empty l [c];have e:(fun x=>([c]:List UInt8).contains x)=(·==c):=by
  funext x;rw [List.contains_cons];simp
 unfold Lib.trimS Lib.trimLeftS Lib.trimRightS at h;rw [e]at h;exact h
set_option maxHeartbeats 8000000 in
theorem under_any (s:ByteArray) (w:World) (hs:s.size≤1000000):
  Calls Tryz.prog 181 #[.string s] w fun e w'=>e=.returned (.int .i64 (underL s.data.toList))∧Below w.heap.size w w':=by
 have hbe:=fun W=>mbehind_any s W hs;have hXz:=restB_le s.data.toList;obtain ⟨X,hX⟩:∃X:ByteArray,(⟨(restB s.data.toList).toArray⟩:ByteArray)=X:=⟨_,rfl⟩
 have hXl:restB s.data.toList=X.data.toList:=(by rw [←hX]);rw [hX]at hbe;rw [hXl,←Lib.size_eq,←Lib.size_eq]at hXz;obtain ⟨M,hM⟩:∃M,mayIn s.data.toList=M:=⟨_,rfl⟩
 rw [hM]at hbe;have hr:=fun W=>trR_any X W (by omega);have hYz:=rstrip_le blankB X.data.toList;obtain ⟨Y,hY⟩:∃Y:ByteArray,(⟨(rstripL blankB X.data.toList).toArray⟩:ByteArray)=Y:=⟨_,rfl⟩
 have hYl:rstripL blankB X.data.toList=Y.data.toList:=(by rw [←hY]);rw [hY]at hr;rw [hYl,←Lib.size_eq,←Lib.size_eq]at hYz;have hv:underL s.data.toList=if M=false∨Y.data.toList=[]then 0 else if Y.data.toList.all (·==61)then 1 else if Y.data.toList.all (·==45)then 2 else 0:=by
  unfold underL;simp only;rw [hXl,hYl,hM]
 have t1:=fun W=>Tryz.strings_Trim_one Y 61 (by decide) W (by omega);have t2:=fun W=>Tryz.strings_Trim_one Y 45 (by decide) W (by omega);have e1:=trimOne_empty Y.data.toList 61;have e2:=trimOne_empty Y.data.toList 45;obtain ⟨T1,hT1⟩:∃T:ByteArray,(⟨(Lib.trimB Y.data.toList 61).toArray⟩:ByteArray)=T:=⟨_,rfl⟩
 obtain ⟨T2,hT2⟩:∃T:ByteArray,(⟨(Lib.trimB Y.data.toList 45).toArray⟩:ByteArray)=T:=⟨_,rfl⟩
 have hTl1:Lib.trimB Y.data.toList 61=T1.data.toList:=(by rw [←hT1]);have hTl2:Lib.trimB Y.data.toList 45=T2.data.toList:=(by rw [←hT2]);rw [hT1]at t1;rw [hT2]at t2;rw [hTl1,←Lib.toList_data]at e1;rw [hTl2,←Lib.toList_data]at e2;have s1:∀W,Calls Tryz.prog 171 #[.string Y,.string ⟨#[61]⟩] W fun e w'=>e=.returned (.string T1)∧Below W.heap.size W w':=fun W=>(t1 W).mono (by
  rintro e w' ⟨rfl,h|h⟩
  ·rw [h];exact ⟨rfl,Below.refl _ _⟩
  ·rw [h];exact ⟨rfl,(Below.refl _ _).drew⟩)
 have s2:∀W,Calls Tryz.prog 171 #[.string Y,.string ⟨#[45]⟩] W fun e w'=>e=.returned (.string T2)∧Below W.heap.size W w':=fun W=>(t2 W).mono (by
  rintro e w' ⟨rfl,h|h⟩
  ·rw [h];exact ⟨rfl,Below.refl _ _⟩
  ·rw [h];exact ⟨rfl,(Below.refl _ _).drew⟩)
 obtain ⟨E1,hE1⟩:∃E,Y.data.toList.all (·==61)=E:=⟨_,rfl⟩
 obtain ⟨E2,hE2⟩:∃E,Y.data.toList.all (·==45)=E:=⟨_,rfl⟩
 rw [hE1]at e1 hv;rw [hE2]at e2 hv;have HBE:=Lib.hid hbe;have HR:=Lib.hid hr;have HV:=Lib.hid hv;have HT1:=Lib.hid s1;have HT2:=Lib.hid s2;clear hbe hr hv t1 t2 s1 s2 hM hXl hX hY hYl hT1 hT2 hTl1 hTl2 hE1 hE2 hYz;go_enter Tryz.func181,Tryz.ntmps181
 go_wp2_with fail;refine (HBE.out _).mono ?_;rintro e w2 ⟨rfl,b2⟩;have HB2:=Lib.hid b2;clear b2;go_wp2_with fail;refine (HR.out _).mono ?_;rintro e w3 ⟨rfl,b3⟩;have HB3:=Lib.hid (below_step HB2.out b3);clear b3;by_cases h0:0<Y.size
 ·have he:=empty_no h0;have hne:Y.data.toList≠[]:=(by intro h;rw [Lib.size_eq,h]at h0;exact absurd h0 (by simp));cases M
  ·have HQ:=Lib.hid (show underL s.data.toList=0 by rw [HV.out,if_pos (Or.inl rfl)]);clear hne HV;go_wp2_with fail;go_ret;exact ⟨by rw [HQ.out];try rfl,HB3.out⟩
  ·cases E1
   ·cases E2
    ·have HQ:=Lib.hid (show underL s.data.toList=0 by rw [HV.out,if_neg (by rintro (h|h)<;>first|exact hne h|cases h)];rfl);clear hne HV;go_wp2_with fail;refine (HT1.out _).mono ?_;rintro e w4 ⟨rfl,b4⟩;have HB4:=Lib.hid (below_step HB3.out b4);clear b4;go_wp2_with fail;refine (HT2.out _).mono ?_;rintro e w5 ⟨rfl,b5⟩;have HB5:=Lib.hid (below_step HB4.out b5);clear b5;go_wp2_with fail;go_ret;exact ⟨by rw [HQ.out];try rfl,HB5.out⟩
    ·have HQ:=Lib.hid (show underL s.data.toList=2 by rw [HV.out,if_neg (by rintro (h|h)<;>first|exact hne h|cases h)];rfl);clear hne HV;go_wp2_with fail;refine (HT1.out _).mono ?_;rintro e w4 ⟨rfl,b4⟩;have HB4:=Lib.hid (below_step HB3.out b4);clear b4;go_wp2_with fail;refine (HT2.out _).mono ?_;rintro e w5 ⟨rfl,b5⟩;have HB5:=Lib.hid (below_step HB4.out b5);clear b5;go_wp2_with fail;go_ret;exact ⟨by rw [HQ.out];try rfl,HB5.out⟩
   ·have HQ:=Lib.hid (show underL s.data.toList=1 by rw [HV.out,if_neg (by rintro (h|h)<;>first|exact hne h|cases h)];rfl);clear hne HV;go_wp2_with fail;refine (HT1.out _).mono ?_;rintro e w4 ⟨rfl,b4⟩;have HB4:=Lib.hid (below_step HB3.out b4);clear b4;go_wp2_with fail;go_ret;exact ⟨by rw [HQ.out];try rfl,HB4.out⟩
 ·have he:=empty_yes (s:=Y) (by omega);have HQ:=Lib.hid (show underL s.data.toList=0 by rw [HV.out,if_pos (Or.inr (head_nil Y (by omega)))]);clear HV;cases M
  all_goals
   go_wp2_with fail;go_ret;exact ⟨by rw [HQ.out];try rfl,HB3.out⟩
theorem or32:∀r:UInt8,(((97:UInt8)≤(r ||| 32)&&(r ||| 32)≤122&&65≤r)=(decide ((97:Int)≤((r ||| 32).toNat:Int))&&decide (((r ||| 32).toNat:Int)≤122)&&decide ((65:Int)≤(r.toNat:Int)))):=fun r=>
 allB (p:=fun r=>(((97:UInt8)≤(r ||| 32)&&(r ||| 32)≤122&&65≤r)=(decide ((97:Int)≤((r ||| 32).toNat:Int))&&decide (((r ||| 32).toNat:Int)≤122)&&decide ((65:Int)≤(r.toNat:Int))))) (by unfold AllB;decide+kernel) r
theorem bits_or32 (r:UInt8):bits BinOp.or IntKind.u8 (r.toNat:Int) 32=((r ||| 32).toNat:Int):=
 allB (p:=fun r=>bits BinOp.or IntKind.u8 (r.toNat:Int) 32=((r ||| 32).toNat:Int)) (by unfold AllB;decide+kernel) r
theorem html_eq {s:List UInt8} {X R:ByteArray} {M P:Bool} (hX:restB s=X.data.toList) (hM:mayIn s=M) (hP:(preAt 60 X.data.toList).2=P) (hR:(preAt 60 X.data.toList).1=R.data.toList):
  htmlL s=if M=false∨P=false then false else match R.data.toList.head? with
   |none=>false
   |some r=>(decide ((97:Int)≤((r ||| 32).toNat:Int))&&decide (((r ||| 32).toNat:Int)≤122)&&decide ((65:Int)≤(r.toNat:Int)))||[47,33,63].contains r:=by
 unfold htmlL;simp only;rw [hX,hM,hP,hR];split
 ·rfl
 ·cases R.data.toList.head? with
  |none=>rfl
  |some r=>
   simp only;rw [←or32 r]
set_option maxHeartbeats 8000000 in
theorem html_any (s:ByteArray) (w:World) (hs:s.size≤1000000):
  Calls Tryz.prog 147 #[.string s] w fun e w'=>e=.returned (.bool (htmlL s.data.toList))∧Below w.heap.size w w':=by
 have hbe:=fun W=>mbehind_any s W hs;have hXz:=restB_le s.data.toList;obtain ⟨X,hX⟩:∃X:ByteArray,(⟨(restB s.data.toList).toArray⟩:ByteArray)=X:=⟨_,rfl⟩
 have hXl:restB s.data.toList=X.data.toList:=(by rw [←hX]);rw [hX]at hbe;rw [hXl,←Lib.size_eq,←Lib.size_eq]at hXz;obtain ⟨M,hM⟩:∃M,mayIn s.data.toList=M:=⟨_,rfl⟩
 rw [hM]at hbe;have hp:=fun W=>pre_any 60 X W;obtain ⟨R,hR⟩:∃R:ByteArray,(⟨(preAt 60 X.data.toList).1.toArray⟩:ByteArray)=R:=⟨_,rfl⟩
 have hRl:(preAt 60 X.data.toList).1=R.data.toList:=(by rw [←hR]);obtain ⟨P,hP⟩:∃P,(preAt 60 X.data.toList).2=P:=⟨_,rfl⟩
 rw [hR,hP]at hp;have hv:=html_eq hXl hM hP hRl;have HBE:=Lib.hid hbe;have HP:=Lib.hid hp;have HV:=Lib.hid hv;clear hbe hp hv hM hXl hX hR hRl hP;go_enter Tryz.func147,Tryz.ntmps147
 go_wp2_with fail;refine (HBE.out _).mono ?_;rintro e w2 ⟨rfl,b2⟩;have HB2:=Lib.hid b2;clear b2;go_wp2_with fail;refine (HP.out _).mono ?_;rintro e w3 ⟨rfl,hw3⟩;obtain rfl:=hw3.symm;cases M
 ·have HQ:=Lib.hid (show htmlL s.data.toList=false by rw [HV.out,if_pos (Or.inl rfl)]);clear HV;go_wp2_with fail;go_ret;exact ⟨by rw [HQ.out];try rfl,HB2.out⟩
 ·cases P
  ·have HQ:=Lib.hid (show htmlL s.data.toList=false by rw [HV.out,if_pos (Or.inr rfl)]);clear HV;go_wp2_with fail;go_ret;exact ⟨by rw [HQ.out];try rfl,HB2.out⟩
  ·by_cases h0:0<R.size
   ·have he:=empty_no h0;obtain ⟨r,hr⟩:∃r,R[0]=r:=⟨_,rfl⟩
    have hh:=head_get R h0;rw [hr]at hh;have hv2:=HV.out;rw [if_neg (by simp),hh]at hv2;simp only at hv2;have hor:=bits_or32 r;obtain ⟨C,hC⟩:∃C:Int,((r ||| 32).toNat:Int)=C:=⟨_,rfl⟩
    rw [hC]at hv2 hor;have hcr:∀W,Calls Tryz.prog 101 #[.string ⟨#[47,33,63]⟩,.int .i32 (wrap32 (r.toNat:Int))] W fun e w'=>e=.returned (.bool (([47,33,63]:List UInt8).contains r))∧Below W.heap.size W w':=fun W=>cr_any ⟨#[47,33,63]⟩ (by unfold AllAscii;decide) (by decide) r W;obtain ⟨I,hI⟩:∃I,([47,33,63]:List UInt8).contains r=I:=⟨_,rfl⟩
    rw [hI]at hcr hv2;have HV2:=Lib.hid hv2;have HCR:=Lib.hid hcr;have HCR2:=HCR;rw [wrap32_byte]at HCR2;clear HV hv2 hcr hh hI hC;by_cases k1:(97:Int)≤C
    ·by_cases k2:C≤122
     ·by_cases k3:(65:Int)≤(r.toNat:Int)
      ·have HQ:=Lib.hid (show htmlL s.data.toList=true by rw [HV2.out,decide_eq_true k1,decide_eq_true k2,decide_eq_true k3];rfl);go_wp2_with fail;go_ret;exact ⟨by rw [HQ.out];try rfl,HB2.out⟩
      ·have HQ:=Lib.hid (show htmlL s.data.toList=I by rw [HV2.out,decide_eq_true k1,decide_eq_true k2,decide_eq_false k3];rfl);go_wp2_with fail;first|refine (HCR.out _).mono ?_|refine (HCR2.out _).mono ?_
       rintro e w4 ⟨rfl,b4⟩;have HB4:=Lib.hid (below_step HB2.out b4);clear b4;go_wp2_with fail;go_ret;refine ⟨?_,HB4.out⟩;rw [HQ.out];show Ending.returned (Value.bool (decide ((65:Int)≤(r.toNat:Int))||I))=_;rw [decide_eq_false (by omega)];rfl
     ·have HQ:=Lib.hid (show htmlL s.data.toList=I by rw [HV2.out,decide_eq_true k1,decide_eq_false k2];rfl);go_wp2_with fail;first|refine (HCR.out _).mono ?_|refine (HCR2.out _).mono ?_
      rintro e w4 ⟨rfl,b4⟩;have HB4:=Lib.hid (below_step HB2.out b4);clear b4;go_wp2_with fail;go_ret;exact ⟨by rw [HQ.out];try rfl,HB4.out⟩
    ·have HQ:=Lib.hid (show htmlL s.data.toList=I by rw [HV2.out,decide_eq_false k1];rfl);go_wp2_with fail;first|refine (HCR.out _).mono ?_|refine (HCR2.out _).mono ?_
     rintro e w4 ⟨rfl,b4⟩;have HB4:=Lib.hid (below_step HB2.out b4);clear b4;go_wp2_with fail;go_ret;exact ⟨by rw [HQ.out];try rfl,HB4.out⟩
   ·have he:=empty_yes (s:=R) (by omega);have HQ:=Lib.hid (show htmlL s.data.toList=false by rw [HV.out,if_neg (by simp),head_nil R (by omega)];rfl);clear HV;go_wp2_with fail;go_ret;exact ⟨by rw [HQ.out];try rfl,HB2.out⟩
end Go.Proofs.YtkphljggkajlkaaGreatDoor
