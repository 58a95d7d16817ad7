import Derived.Test.YtcannffahjbjnaaGreatDoorVwBH
set_option linter.unusedVariables false
set_option linter.unusedSimpArgs false
set_option maxRecDepth 100000
set_option maxHeartbeats 64000000
namespace Go.Proofs.YtcannffahjbjnaaGreatDoor
open Go.RowKit
theorem zr {s:List UInt8} (h:dV s=false∨eC (ak s) 35<1∨6<eC (ak s) 35∨(((ak s).drop (eC (ak s) 35)).head?.any fun c=> !aM c)=true):eK s=(0,[],false):=by
 unfold eK;simp only;rw [if_pos h]
def kc (K:Nat) (R:List UInt8):Nat×List UInt8×Bool:=
 if aD (·==35) (trimB R)=[]∨((aD (·==35) (trimB R)).getLast?.any aM)=true then (K,aD aM (aD (·==35) (trimB R)),true)else (K,trimB R,true)
theorem zt {s:List UInt8} (h:¬(dV s=false∨eC (ak s) 35<1∨6<eC (ak s) 35∨(((ak s).drop (eC (ak s) 35)).head?.any fun c=> !aM c)=true)):eK s=kc (eC (ak s) 35) ((ak s).drop (eC (ak s) 35)):=by
 unfold eK kc;simp only;rw [if_neg h]
theorem oH (s:ByteArray) (w:World) (hs:s.size <= 1000000):
  Calls Tryz.prog 153 #[.string s] w fun e w'=>e=.returned (.tuple #[.int .i64 (eK s.data.toList).1,.string ⟨(eK s.data.toList).2.1.toArray⟩,.bool (eK s.data.toList).2.2])∧Below w.heap.size w w':=by
 have hbe:=fun W=>d8 s W hs;have hXz:=eA s.data.toList;have hno:=zr (s:=s.data.toList);have hso:=zt (s:=s.data.toList);obtain ⟨X,hX⟩:∃X:ByteArray,(⟨(ak s.data.toList).toArray⟩:ByteArray)=X:=⟨_,rfl⟩
 have hXl:ak s.data.toList=X.data.toList:=(by rw [<- hX]);rw [hX]at hbe;rw [hXl,<- Lib.size_eq,<- Lib.size_eq]at hXz;rw [hXl]at hno hso;obtain ⟨M,hM⟩:∃M,dV s.data.toList=M:=⟨_,rfl⟩
 rw [hM]at hbe hno hso;have hro:∀W,Calls Tryz.prog 188 #[.string X,.int .u8 35] W fun e w'=>e=.returned (.int .i64 (eC X.data.toList 35))∧Below W.heap.size W w':=fun W=>ni X 35 W (by omega) (by decide);have hKz:=nr X.data.toList 35;rw [<- Lib.size_eq]at hKz;obtain ⟨K,hK⟩:∃K,eC X.data.toList 35=K:=⟨_,rfl⟩
 rw [hK]at hro hno hso hKz;obtain ⟨R,hR⟩:∃R:ByteArray,X.extract K X.size=R:=⟨_,rfl⟩
 have hRl:X.data.toList.drop K=R.data.toList:=(by rw [<- hR,Lib.extract_to_end]);have hRz:R.size <= X.size:=(by rw [<- hR];simp);rw [hRl]at hno hso;have hT:=fun W=>vy R W (by omega);have hTz:=CM R.data.toList;obtain ⟨T,hTT⟩:∃T:ByteArray,(⟨(trimB R.data.toList).toArray⟩:ByteArray)=T:=⟨_,rfl⟩
 have hTl:trimB R.data.toList=T.data.toList:=(by rw [<- hTT]);rw [hTT]at hT;rw [hTl,<- Lib.size_eq,<- Lib.size_eq]at hTz;have hU:=fun W=>qM T 35 (by decide) W (by omega);have hUz:=iN (·==35) T.data.toList;obtain ⟨U,hUU⟩:∃U:ByteArray,(⟨(aD (·==35) T.data.toList).toArray⟩:ByteArray)=U:=⟨_,rfl⟩
 have hUl:aD (·==35) T.data.toList=U.data.toList:=(by rw [<- hUU]);rw [hUU]at hU;rw [hUl,<- Lib.size_eq,<- Lib.size_eq]at hUz;have hV:=fun W=>nE U W (by omega);obtain ⟨V,hVV⟩:∃V:ByteArray,(⟨(aD aM U.data.toList).toArray⟩:ByteArray)=V:=⟨_,rfl⟩
 have hVl:aD aM U.data.toList=V.data.toList:=(by rw [<- hVV]);rw [hVV]at hV;have hUb:U.size <= 1000000:=(by omega);have HBE:=zh hbe;have HRO:=zh hro;have HT:=zh hT;have HU:=zh hU;have HV:=zh hV;have HTL:=zh hTl;have HUL:=zh hUl;have HVL:=zh hVl;have HN:=zh hno;have HS:=zh hso;clear hbe hro hT hU hV hTl hUl hVl hno hso hX hXl hM hK hRl hTT hUU hVV hUz hTz hRz;go_enter Tryz.func153,Tryz.ntmps153
 go_wp2_with fail;refine (HBE.out _).mono ?_;rintro e w2 ⟨rfl,b2⟩;have HB2:=zh b2;clear b2;go_wp2_with fail;refine (HRO.out _).mono ?_;rintro e w3 ⟨rfl,b3⟩;have HB3:=zh (aa HB2.out b3);clear b3;cases M
 ·have HQ:=zh (HN.out (Or.inl rfl));go_wp2_with fail;refine bodyPost_ret (v:=.tuple #[.int .i64 0,.string ⟨#[]⟩,.bool false]) (by simp [results,Tryz.results153,go_sem]) rfl ⟨(by rw [HQ.out];rfl),HB3.out⟩
 ·by_cases k1:K<1
  ·have HQ:=zh (HN.out (Or.inr (Or.inl k1)));have q1:(K:Int)<1:=(by omega);go_wp2_with fail;refine bodyPost_ret (v:=.tuple #[.int .i64 0,.string ⟨#[]⟩,.bool false]) (by simp [results,Tryz.results153,go_sem]) rfl ⟨(by rw [HQ.out];rfl),HB3.out⟩
  ·have q1:¬(K:Int)<1:=(by omega);by_cases k6:6<K
   ·have HQ:=zh (HN.out (Or.inr (Or.inr (Or.inl k6))));have q2:(6:Int)<(K:Int):=(by omega);go_wp2_with fail;refine bodyPost_ret (v:=.tuple #[.int .i64 0,.string ⟨#[]⟩,.bool false]) (by simp [results,Tryz.results153,go_sem]) rfl ⟨(by rw [HQ.out];rfl),HB3.out⟩
   ·have q2:¬(6:Int)<(K:Int):=(by omega);by_cases hr0:0<R.size
    ·have her:=cS hr0;obtain ⟨q,hq⟩:∃q,R[0]=q:=⟨_,rfl⟩
     have hh:=gA R hr0;rw [hq]at hh;have hcq:=fun W=>sV q W;cases hbq:aM q
     ·rw [hbq]at hcq;have HQ:=zh (HN.out (Or.inr (Or.inr (Or.inr (by rw [hh];simp [hbq])))));have HCQ:=zh hcq;clear hcq hh hbq k1 k6;go_wp2_with fail;refine (HCQ.out _).mono ?_;rintro e w4 ⟨rfl,b4⟩;have HB4:=zh (aa HB3.out b4);clear b4;go_wp2_with fail;refine bodyPost_ret (v:=.tuple #[.int .i64 0,.string ⟨#[]⟩,.bool false]) (by simp [results,Tryz.results153,go_sem]) rfl ⟨(by rw [HQ.out];rfl),HB4.out⟩
     ·rw [hbq]at hcq;have hcond:¬(true=false∨K<1∨6<K∨(R.data.toList.head?.any fun c=> !aM c)=true):=by
       rintro (h|h|h|h)
       ·cases h
       ·exact k1 h
       ·exact k6 h
       ·rw [hh]at h;simp [hbq]at h
      have HCQ:=zh hcq;clear hcq hh hbq k1 k6;go_wp2_with fail;refine (HCQ.out _).mono ?_;rintro e w4 ⟨rfl,b4⟩;have hB4:=aa HB3.out b4;have HHB:=zh hB4;go_wp2_with fail;refine (HT.out _).mono ?_;rintro e w5 ⟨rfl,b5⟩;have HB5:=zh (aa HHB.out b5);clear b5;go_wp2_with fail;refine (HU.out _).mono ?_;rintro e w6 ⟨rfl,hw6⟩;obtain rfl:=hw6.symm;by_cases hu0:0<U.size
      ·have heu:=cS hu0;obtain ⟨y,hy⟩:∃y,∀h,U[U.size - 1]'h=y:=⟨U[U.size - 1]'(by omega),fun _=>rfl⟩
       have hyl:U.data.toList.getLast? =some y:=(by rw [uw U hu0,hy]);have hcy:=fun W=>sV y W;cases hby:aM y
       ·rw [hby]at hcy;have HF:=zh (show eK s.data.toList=(K,T.data.toList,true) by
         rw [HS.out hcond];unfold kc;rw [HTL.out,HUL.out,if_neg];rintro (h|h)
         ·rw [h]at hyl;cases hyl
         ·rw [hyl]at h;simp [hby]at h)
        have HCY:=zh hcy;clear hcy hyl hby hcond;go_wp2_with fail;refine (HCY.out _).mono ?_;rintro e w7 ⟨rfl,b7⟩;have HB7:=zh (aa HB5.out b7);clear b7;go_wp2_with fail;refine bodyPost_ret (v:=.tuple #[.int .i64 K,.string T,.bool true]) (by simp [results,Tryz.results153,go_sem]) rfl ⟨(by rw [HF.out]),HB7.out⟩
       ·rw [hby]at hcy;have HF:=zh (show eK s.data.toList=(K,V.data.toList,true) by
         rw [HS.out hcond];unfold kc;rw [HTL.out,HUL.out,if_pos (Or.inr (by rw [hyl];simp [hby])),HVL.out])
        have HCY:=zh hcy;clear hcy hyl hby hcond;go_wp2_with fail;refine (HCY.out _).mono ?_;rintro e w7 ⟨rfl,b7⟩;have HB7:=zh (aa HB5.out b7);clear b7;go_wp2_with fail;refine (HV.out _).mono ?_;rintro e w8 ⟨rfl,b8⟩;have HB8:=zh (aa HB7.out b8);clear b8;go_wp2_with fail;refine bodyPost_ret (v:=.tuple #[.int .i64 K,.string V,.bool true]) (by simp [results,Tryz.results153,go_sem]) rfl ⟨(by rw [HF.out]),HB8.out⟩
      ·have heu:=cE (s:=U) (by omega);have HF:=zh (show eK s.data.toList=(K,V.data.toList,true) by
        rw [HS.out hcond];unfold kc;rw [HTL.out,HUL.out,if_pos (Or.inl (ef U (by omega))),HVL.out])
       clear hcond;go_wp2_with fail;refine (HV.out _).mono ?_;rintro e w8 ⟨rfl,b8⟩;have HB8:=zh (aa HB5.out b8);clear b8;go_wp2_with fail;refine bodyPost_ret (v:=.tuple #[.int .i64 K,.string V,.bool true]) (by simp [results,Tryz.results153,go_sem]) rfl ⟨(by rw [HF.out]),HB8.out⟩
    ·have her:=cE (s:=R) (by omega);have hcond:¬(true=false∨K<1∨6<K∨(R.data.toList.head?.any fun c=> !aM c)=true):=by
      rintro (h|h|h|h)
      ·cases h
      ·exact k1 h
      ·exact k6 h
      ·rw [ef R (by omega)]at h;simp at h
     have hB4:=HB3.out;clear k1 k6;have HHB:=zh hB4;go_wp2_with fail;refine (HT.out _).mono ?_;rintro e w5 ⟨rfl,b5⟩;have HB5:=zh (aa HHB.out b5);clear b5;go_wp2_with fail;refine (HU.out _).mono ?_;rintro e w6 ⟨rfl,hw6⟩;obtain rfl:=hw6.symm;by_cases hu0:0<U.size
     ·have heu:=cS hu0;obtain ⟨y,hy⟩:∃y,∀h,U[U.size - 1]'h=y:=⟨U[U.size - 1]'(by omega),fun _=>rfl⟩
      have hyl:U.data.toList.getLast? =some y:=(by rw [uw U hu0,hy]);have hcy:=fun W=>sV y W;cases hby:aM y
      ·rw [hby]at hcy;have HF:=zh (show eK s.data.toList=(K,T.data.toList,true) by
        rw [HS.out hcond];unfold kc;rw [HTL.out,HUL.out,if_neg];rintro (h|h)
        ·rw [h]at hyl;cases hyl
        ·rw [hyl]at h;simp [hby]at h)
       have HCY:=zh hcy;clear hcy hyl hby hcond;go_wp2_with fail;refine (HCY.out _).mono ?_;rintro e w7 ⟨rfl,b7⟩;have HB7:=zh (aa HB5.out b7);clear b7;go_wp2_with fail;refine bodyPost_ret (v:=.tuple #[.int .i64 K,.string T,.bool true]) (by simp [results,Tryz.results153,go_sem]) rfl ⟨(by rw [HF.out]),HB7.out⟩
      ·rw [hby]at hcy;have HF:=zh (show eK s.data.toList=(K,V.data.toList,true) by
        rw [HS.out hcond];unfold kc;rw [HTL.out,HUL.out,if_pos (Or.inr (by rw [hyl];simp [hby])),HVL.out])
       have HCY:=zh hcy;clear hcy hyl hby hcond;go_wp2_with fail;refine (HCY.out _).mono ?_;rintro e w7 ⟨rfl,b7⟩;have HB7:=zh (aa HB5.out b7);clear b7;go_wp2_with fail;refine (HV.out _).mono ?_;rintro e w8 ⟨rfl,b8⟩;have HB8:=zh (aa HB7.out b8);clear b8;go_wp2_with fail;refine bodyPost_ret (v:=.tuple #[.int .i64 K,.string V,.bool true]) (by simp [results,Tryz.results153,go_sem]) rfl ⟨(by rw [HF.out]),HB8.out⟩
     ·have heu:=cE (s:=U) (by omega);have HF:=zh (show eK s.data.toList=(K,V.data.toList,true) by
       rw [HS.out hcond];unfold kc;rw [HTL.out,HUL.out,if_pos (Or.inl (ef U (by omega))),HVL.out])
      clear hcond;go_wp2_with fail;refine (HV.out _).mono ?_;rintro e w8 ⟨rfl,b8⟩;have HB8:=zh (aa HB5.out b8);clear b8;go_wp2_with fail;refine bodyPost_ret (v:=.tuple #[.int .i64 K,.string V,.bool true]) (by simp [results,Tryz.results153,go_sem]) rfl ⟨(by rw [HF.out]),HB8.out⟩
theorem wg (s:ByteArray) (c:UInt8) (n:Nat) (w:World) (hs:s.size <= 1000000) (hca:c.toNat<128) (hn:n <= 1000000000):
  Calls Tryz.prog 192 #[.string s,.int .u8 (c.toNat:Int),.int .i64 n] w fun e w'=>e=.returned (.bool (eG s.data.toList c n))∧Below w.heap.size w w':=by
 have hbe:=fun W=>d8 s W hs;have hXz:=eA s.data.toList;obtain ⟨X,hX⟩:∃X:ByteArray,(⟨(ak s.data.toList).toArray⟩:ByteArray)=X:=⟨_,rfl⟩
 have hXl:ak s.data.toList=X.data.toList:=(by rw [<- hX]);rw [hX]at hbe;rw [hXl,<- Lib.size_eq,<- Lib.size_eq]at hXz;obtain ⟨M,hM⟩:∃M,dV s.data.toList=M:=⟨_,rfl⟩
 rw [hM]at hbe;have hro:=fun W=>ni X c W (by omega) hca;have hKz:=nr X.data.toList c;rw [<- Lib.size_eq]at hKz;have hv:eG s.data.toList c n=(M&&decide (max n 1 <= eC X.data.toList c)&&aJ (X.data.toList.drop (eC X.data.toList c))):=by
  unfold eG;rw [hM,hXl]
 obtain ⟨K,hK⟩:∃K,eC X.data.toList c=K:=⟨_,rfl⟩
 rw [hK]at hro hKz hv;obtain ⟨R,hR⟩:∃R:ByteArray,X.extract K X.size=R:=⟨_,rfl⟩
 have hRl:X.data.toList.drop K=R.data.toList:=(by rw [<- hR,Lib.extract_to_end]);have hRz:R.size <= X.size:=(by rw [<- hR];simp);rw [hRl]at hv;have hbl:=fun W=>dZ R W (by omega);obtain ⟨B,hB⟩:∃B,aJ R.data.toList=B:=⟨_,rfl⟩
 rw [hB]at hbl hv;obtain ⟨m,hm⟩:∃m,max n 1=m:=⟨_,rfl⟩
 rw [hm]at hv;have hmI:max (n:Int) 1=(m:Int):=(by omega);have HBE:=zh hbe;have HRO:=zh hro;have HBL:=zh hbl;have HV:=zh hv;clear hbe hro hbl hv hM hXl hX hK hRl hB hRz hm;go_enter Tryz.func192,Tryz.ntmps192
 go_wp2_with fail;refine (HBE.out _).mono ?_;rintro e w2 ⟨rfl,b2⟩;have HB2:=zh b2;clear b2;go_wp2_with fail;refine (HRO.out _).mono ?_;rintro e w3 ⟨rfl,b3⟩;have HB3:=zh (aa HB2.out b3);clear b3;cases M
 ·have HQ:=zh (show eG s.data.toList c n=false by rw [HV.out];rfl);go_wp2_with fail;go_ret;exact ⟨by rw [HQ.out];try rfl,HB3.out⟩
 ·by_cases km:m <= K
  ·have qm:(m:Int) <= (K:Int):=(by omega);have HQ:=zh (show eG s.data.toList c n=B by rw [HV.out,decide_eq_true km];simp);go_wp2_with fail;refine (HBL.out _).mono ?_;rintro e w4 ⟨rfl,b4⟩;have HB4:=zh (aa HB3.out b4);clear b4;go_wp2_with fail;go_ret;exact ⟨by rw [HQ.out];try rfl,HB4.out⟩
  ·have qm:¬(m:Int) <= (K:Int):=(by omega);have HQ:=zh (show eG s.data.toList c n=false by rw [HV.out,decide_eq_false km];simp);go_wp2_with fail;go_ret;exact ⟨by rw [HQ.out];try rfl,HB3.out⟩
theorem Ci {s:List UInt8} {X:ByteArray} {M:Bool} (hX:ak s=X.data.toList) (hM:dV s=M):dK s=if M=true∧(bM 62 X.data.toList).2=true then (Lib.trimPrefix (bM 62 X.data.toList).1 [32],true)else ([],false):=by
 unfold dK;rw [hX,hM]
theorem sl (s:ByteArray) (w:World) (hs:s.size <= 1000000):
  Calls Tryz.prog 193 #[.string s] w fun e w'=>e=.returned (.tuple #[.string ⟨(dK s.data.toList).1.toArray⟩,.bool (dK s.data.toList).2])∧Below w.heap.size w w':=by
 have hbe:=fun W=>d8 s W hs;have hXz:=eA s.data.toList;obtain ⟨X,hX⟩:∃X:ByteArray,(⟨(ak s.data.toList).toArray⟩:ByteArray)=X:=⟨_,rfl⟩
 have hXl:ak s.data.toList=X.data.toList:=(by rw [<- hX]);rw [hX]at hbe;rw [hXl,<- Lib.size_eq,<- Lib.size_eq]at hXz;obtain ⟨M,hM⟩:∃M,dV s.data.toList=M:=⟨_,rfl⟩
 rw [hM]at hbe;have hv:=Ci hXl hM;have hp:=fun W=>fy 62 X W;obtain ⟨R,hR⟩:∃R:ByteArray,(⟨(bM 62 X.data.toList).1.toArray⟩:ByteArray)=R:=⟨_,rfl⟩
 have hRl:(bM 62 X.data.toList).1=R.data.toList:=(by rw [<- hR]);obtain ⟨P,hP⟩:∃P,(bM 62 X.data.toList).2=P:=⟨_,rfl⟩
 rw [hR,hP]at hp;rw [hP,hRl]at hv;have ht:=fun W=>Tryz.strings_TrimPrefix R ⟨#[32]⟩ W;obtain ⟨T,hT⟩:∃T:ByteArray,(⟨(Lib.trimPrefix R.data.toList [32]).toArray⟩:ByteArray)=T:=⟨_,rfl⟩
 have hTl:Lib.trimPrefix R.data.toList [32]=T.data.toList:=(by rw [<- hT]);have ht2:∀W,Calls Tryz.prog 223 #[.string R,.string ⟨#[32]⟩] W fun e w'=>e=.returned (.string T)∧w'=W:=fun W=>by
  rw [<- hT];exact ht W
 rw [hTl]at hv;have HBE:=zh hbe;have HP:=zh hp;have HT:=zh ht2;have HV:=zh hv;clear hbe hp ht ht2 hv hM hXl hX hR hRl hP hT hTl;go_enter Tryz.func193,Tryz.ntmps193
 go_wp2_with fail;refine (HBE.out _).mono ?_;rintro e w2 ⟨rfl,b2⟩;have HB2:=zh b2;clear b2;go_wp2_with fail;refine (HP.out _).mono ?_;rintro e w3 ⟨rfl,hw3⟩;obtain rfl:=hw3.symm;cases M
 ·have HQ:=zh (show dK s.data.toList=([],false) by rw [HV.out,if_neg (by simp)]);go_wp2_with fail
  go_ret2
  exact ⟨by rw [HQ.out];try rfl,HB2.out⟩
 ·cases P
  ·have HQ:=zh (show dK s.data.toList=([],false) by rw [HV.out,if_neg (by simp)]);go_wp2_with fail
   go_ret2
   exact ⟨by rw [HQ.out];try rfl,HB2.out⟩
  ·have HQ:=zh (show dK s.data.toList=(T.data.toList,true) by rw [HV.out,if_pos (by simp)]);go_wp2_with fail;refine (HT.out _).mono ?_;rintro e w4 ⟨rfl,hw4⟩;obtain rfl:=hw4.symm;go_wp2_with fail
   go_ret2
   exact ⟨iw HQ.out,HB2.out⟩
theorem lK (l:List UInt8) (c:UInt8):(Lib.trimB l c).isEmpty=l.all (·==c):=by
 have h:=kF l [c];have e:(fun x=>([c]:List UInt8).contains x)=(·==c):=by
  funext x;rw [List.contains_cons];simp
 unfold Lib.trimS Lib.trimLeftS Lib.trimRightS at h;rw [e]at h;exact h
theorem Ar (s:ByteArray) (w:World) (hs:s.size <= 1000000):
  Calls Tryz.prog 197 #[.string s] w fun e w'=>e=.returned (.int .i64 (e6 s.data.toList))∧Below w.heap.size w w':=by
 have hbe:=fun W=>d8 s W hs;have hXz:=eA s.data.toList;obtain ⟨X,hX⟩:∃X:ByteArray,(⟨(ak s.data.toList).toArray⟩:ByteArray)=X:=⟨_,rfl⟩
 have hXl:ak s.data.toList=X.data.toList:=(by rw [<- hX]);rw [hX]at hbe;rw [hXl,<- Lib.size_eq,<- Lib.size_eq]at hXz;obtain ⟨M,hM⟩:∃M,dV s.data.toList=M:=⟨_,rfl⟩
 rw [hM]at hbe;have hr:=fun W=>nE X W (by omega);have hYz:=iN aM X.data.toList;obtain ⟨Y,hY⟩:∃Y:ByteArray,(⟨(aD aM X.data.toList).toArray⟩:ByteArray)=Y:=⟨_,rfl⟩
 have hYl:aD aM X.data.toList=Y.data.toList:=(by rw [<- hY]);rw [hY]at hr;rw [hYl,<- Lib.size_eq,<- Lib.size_eq]at hYz;have hv:e6 s.data.toList=if M=false∨Y.data.toList=[]then 0 else if Y.data.toList.all (·==61)then 1 else if Y.data.toList.all (·==45)then 2 else 0:=by
  unfold e6;simp only;rw [hXl,hYl,hM]
 have t1:=fun W=>Tryz.strings_Trim_one Y 61 (by decide) W (by omega);have t2:=fun W=>Tryz.strings_Trim_one Y 45 (by decide) W (by omega);have e1:=lK Y.data.toList 61;have e2:=lK Y.data.toList 45;obtain ⟨T1,hT1⟩:∃T:ByteArray,(⟨(Lib.trimB Y.data.toList 61).toArray⟩:ByteArray)=T:=⟨_,rfl⟩
 obtain ⟨T2,hT2⟩:∃T:ByteArray,(⟨(Lib.trimB Y.data.toList 45).toArray⟩:ByteArray)=T:=⟨_,rfl⟩
 have hTl1:Lib.trimB Y.data.toList 61=T1.data.toList:=(by rw [<- hT1]);have hTl2:Lib.trimB Y.data.toList 45=T2.data.toList:=(by rw [<- hT2]);rw [hT1]at t1;rw [hT2]at t2;rw [hTl1,<- Lib.toList_data]at e1;rw [hTl2,<- Lib.toList_data]at e2;have s1:∀W,Calls Tryz.prog 189 #[.string Y,.string ⟨#[61]⟩] W fun e w'=>e=.returned (.string T1)∧Below W.heap.size W w':=fun W=>(t1 W).mono (by
  rintro e w' ⟨rfl,h|h⟩
  ·rw [h];exact ⟨rfl,Below.refl _ _⟩
  ·rw [h];exact ⟨rfl,(Below.refl _ _).drew⟩)
 have s2:∀W,Calls Tryz.prog 189 #[.string Y,.string ⟨#[45]⟩] W fun e w'=>e=.returned (.string T2)∧Below W.heap.size W w':=fun W=>(t2 W).mono (by
  rintro e w' ⟨rfl,h|h⟩
  ·rw [h];exact ⟨rfl,Below.refl _ _⟩
  ·rw [h];exact ⟨rfl,(Below.refl _ _).drew⟩)
 obtain ⟨E1,hE1⟩:∃E,Y.data.toList.all (·==61)=E:=⟨_,rfl⟩
 obtain ⟨E2,hE2⟩:∃E,Y.data.toList.all (·==45)=E:=⟨_,rfl⟩
 rw [hE1]at e1 hv;rw [hE2]at e2 hv;have HBE:=zh hbe;have HR:=zh hr;have HV:=zh hv;have HT1:=zh s1;have HT2:=zh s2;clear hbe hr hv t1 t2 s1 s2 hM hXl hX hY hYl hT1 hT2 hTl1 hTl2 hE1 hE2 hYz;go_enter Tryz.func197,Tryz.ntmps197
 go_wp2_with fail;refine (HBE.out _).mono ?_;rintro e w2 ⟨rfl,b2⟩;have HB2:=zh b2;clear b2;go_wp2_with fail;refine (HR.out _).mono ?_;rintro e w3 ⟨rfl,b3⟩;have HB3:=zh (aa HB2.out b3);clear b3;by_cases h0:0<Y.size
 ·have he:=cS h0;have hne:Y.data.toList≠[]:=(by intro h;rw [Lib.size_eq,h]at h0;exact absurd h0 (by simp));cases M
  ·have HQ:=zh (show e6 s.data.toList=0 by rw [HV.out,if_pos (Or.inl rfl)]);clear hne HV;go_wp2_with fail;go_ret;exact ⟨by rw [HQ.out];try rfl,HB3.out⟩
  ·cases E1
   ·cases E2
    ·have HQ:=zh (show e6 s.data.toList=0 by rw [HV.out,if_neg (by rintro (h|h)<;>first|exact hne h|cases h)];rfl);clear hne HV;go_wp2_with fail;refine (HT1.out _).mono ?_;rintro e w4 ⟨rfl,b4⟩;have HB4:=zh (aa HB3.out b4);clear b4;go_wp2_with fail;refine (HT2.out _).mono ?_;rintro e w5 ⟨rfl,b5⟩;have HB5:=zh (aa HB4.out b5);clear b5;go_wp2_with fail;go_ret;exact ⟨by rw [HQ.out];try rfl,HB5.out⟩
    ·have HQ:=zh (show e6 s.data.toList=2 by rw [HV.out,if_neg (by rintro (h|h)<;>first|exact hne h|cases h)];rfl);clear hne HV;go_wp2_with fail;refine (HT1.out _).mono ?_;rintro e w4 ⟨rfl,b4⟩;have HB4:=zh (aa HB3.out b4);clear b4;go_wp2_with fail;refine (HT2.out _).mono ?_;rintro e w5 ⟨rfl,b5⟩;have HB5:=zh (aa HB4.out b5);clear b5;go_wp2_with fail;go_ret;exact ⟨by rw [HQ.out];try rfl,HB5.out⟩
   ·have HQ:=zh (show e6 s.data.toList=1 by rw [HV.out,if_neg (by rintro (h|h)<;>first|exact hne h|cases h)];rfl);clear hne HV;go_wp2_with fail;refine (HT1.out _).mono ?_;rintro e w4 ⟨rfl,b4⟩;have HB4:=zh (aa HB3.out b4);clear b4;go_wp2_with fail;go_ret;exact ⟨by rw [HQ.out];try rfl,HB4.out⟩
 ·have he:=cE (s:=Y) (by omega);have HQ:=zh (show e6 s.data.toList=0 by rw [HV.out,if_pos (Or.inr (ef Y (by omega)))]);clear HV;cases M
  all_goals
   go_wp2_with fail;go_ret;exact ⟨by rw [HQ.out];try rfl,HB3.out⟩
theorem E6:∀r:UInt8,(((97:UInt8) <= (r ||| 32)&&(r ||| 32) <= 122&&65 <= r)=(decide ((97:Int) <= ((r ||| 32).toNat:Int))&&decide (((r ||| 32).toNat:Int) <= 122)&&decide ((65:Int) <= (r.toNat:Int)))):=fun r=>
 vS (p:=fun r=>(((97:UInt8) <= (r ||| 32)&&(r ||| 32) <= 122&&65 <= r)=(decide ((97:Int) <= ((r ||| 32).toNat:Int))&&decide (((r ||| 32).toNat:Int) <= 122)&&decide ((65:Int) <= (r.toNat:Int))))) (by unfold tI;decide+kernel) r
theorem yQ (r:UInt8):bits BinOp.or IntKind.u8 (r.toNat:Int) 32=((r ||| 32).toNat:Int):=
 vS (p:=fun r=>bits BinOp.or IntKind.u8 (r.toNat:Int) 32=((r ||| 32).toNat:Int)) (by unfold tI;decide+kernel) r
theorem Ds {s:List UInt8} {X R:ByteArray} {M P:Bool} (hX:ak s=X.data.toList) (hM:dV s=M) (hP:(bM 60 X.data.toList).2=P) (hR:(bM 60 X.data.toList).1=R.data.toList):
  jA s=if M=false∨P=false then false else match R.data.toList.head? with
   |none=>false
   |some r=>(decide ((97:Int) <= ((r ||| 32).toNat:Int))&&decide (((r ||| 32).toNat:Int) <= 122)&&decide ((65:Int) <= (r.toNat:Int)))||[47,33,63].contains r:=by
 unfold jA;simp only;rw [hX,hM,hP,hR];split
 ·rfl
 ·cases R.data.toList.head? with
  |none=>rfl
  |some r=>
   simp only;rw [<- E6 r]
theorem Bw (s:ByteArray) (w:World) (hs:s.size <= 1000000):
  Calls Tryz.prog 164 #[.string s] w fun e w'=>e=.returned (.bool (jA s.data.toList))∧Below w.heap.size w w':=by
 have hbe:=fun W=>d8 s W hs;have hXz:=eA s.data.toList;obtain ⟨X,hX⟩:∃X:ByteArray,(⟨(ak s.data.toList).toArray⟩:ByteArray)=X:=⟨_,rfl⟩
 have hXl:ak s.data.toList=X.data.toList:=(by rw [<- hX]);rw [hX]at hbe;rw [hXl,<- Lib.size_eq,<- Lib.size_eq]at hXz;obtain ⟨M,hM⟩:∃M,dV s.data.toList=M:=⟨_,rfl⟩
 rw [hM]at hbe;have hp:=fun W=>fy 60 X W;obtain ⟨R,hR⟩:∃R:ByteArray,(⟨(bM 60 X.data.toList).1.toArray⟩:ByteArray)=R:=⟨_,rfl⟩
 have hRl:(bM 60 X.data.toList).1=R.data.toList:=(by rw [<- hR]);obtain ⟨P,hP⟩:∃P,(bM 60 X.data.toList).2=P:=⟨_,rfl⟩
 rw [hR,hP]at hp;have hv:=Ds hXl hM hP hRl;have HBE:=zh hbe;have HP:=zh hp;have HV:=zh hv;clear hbe hp hv hM hXl hX hR hRl hP;go_enter Tryz.func164,Tryz.ntmps164
 go_wp2_with fail;refine (HBE.out _).mono ?_;rintro e w2 ⟨rfl,b2⟩;have HB2:=zh b2;clear b2;go_wp2_with fail;refine (HP.out _).mono ?_;rintro e w3 ⟨rfl,hw3⟩;obtain rfl:=hw3.symm;cases M
 ·have HQ:=zh (show jA s.data.toList=false by rw [HV.out,if_pos (Or.inl rfl)]);clear HV;go_wp2_with fail;go_ret;exact ⟨by rw [HQ.out];try rfl,HB2.out⟩
 ·cases P
  ·have HQ:=zh (show jA s.data.toList=false by rw [HV.out,if_pos (Or.inr rfl)]);clear HV;go_wp2_with fail;go_ret;exact ⟨by rw [HQ.out];try rfl,HB2.out⟩
  ·by_cases h0:0<R.size
   ·have he:=cS h0;obtain ⟨r,hr⟩:∃r,R[0]=r:=⟨_,rfl⟩
    have hh:=gA R h0;rw [hr]at hh;have hv2:=HV.out;rw [if_neg (by simp),hh]at hv2;simp only at hv2;have hor:=yQ r;obtain ⟨C,hC⟩:∃C:Int,((r ||| 32).toNat:Int)=C:=⟨_,rfl⟩
    rw [hC]at hv2 hor;have hcr:∀W,Calls Tryz.prog 118 #[.string ⟨#[47,33,63]⟩,.int .i32 (wrap32 (r.toNat:Int))] W fun e w'=>e=.returned (.bool (([47,33,63]:List UInt8).contains r))∧Below W.heap.size W w':=fun W=>sX ⟨#[47,33,63]⟩ (by unfold cQ;decide) (by decide) r W;obtain ⟨I,hI⟩:∃I,([47,33,63]:List UInt8).contains r=I:=⟨_,rfl⟩
    rw [hI]at hcr hv2;have HV2:=zh hv2;have HCR:=zh hcr;have HCR2:=HCR;rw [o8]at HCR2;clear HV hv2 hcr hh hI hC;by_cases k1:(97:Int) <= C
    ·by_cases k2:C <= 122
     ·by_cases k3:(65:Int) <= (r.toNat:Int)
      ·have HQ:=zh (show jA s.data.toList=true by rw [HV2.out,decide_eq_true k1,decide_eq_true k2,decide_eq_true k3];rfl);go_wp2_with fail;go_ret;exact ⟨by rw [HQ.out];try rfl,HB2.out⟩
      ·have HQ:=zh (show jA s.data.toList=I by rw [HV2.out,decide_eq_true k1,decide_eq_true k2,decide_eq_false k3];rfl);go_wp2_with fail;first|refine (HCR.out _).mono ?_|refine (HCR2.out _).mono ?_
       rintro e w4 ⟨rfl,b4⟩;have HB4:=zh (aa HB2.out b4);clear b4;go_wp2_with fail;go_ret;refine ⟨?_,HB4.out⟩;rw [HQ.out];show Ending.returned (Value.bool (decide ((65:Int) <= (r.toNat:Int))||I))=_;rw [decide_eq_false (by omega)];rfl
     ·have HQ:=zh (show jA s.data.toList=I by rw [HV2.out,decide_eq_true k1,decide_eq_false k2];rfl);go_wp2_with fail;first|refine (HCR.out _).mono ?_|refine (HCR2.out _).mono ?_
      rintro e w4 ⟨rfl,b4⟩;have HB4:=zh (aa HB2.out b4);clear b4;go_wp2_with fail;go_ret;exact ⟨by rw [HQ.out];try rfl,HB4.out⟩
    ·have HQ:=zh (show jA s.data.toList=I by rw [HV2.out,decide_eq_false k1];rfl);go_wp2_with fail;first|refine (HCR.out _).mono ?_|refine (HCR2.out _).mono ?_
     rintro e w4 ⟨rfl,b4⟩;have HB4:=zh (aa HB2.out b4);clear b4;go_wp2_with fail;go_ret;exact ⟨by rw [HQ.out];try rfl,HB4.out⟩
   ·have he:=cE (s:=R) (by omega);have HQ:=zh (show jA s.data.toList=false by rw [HV.out,if_neg (by simp),ef R (by omega)];rfl);clear HV;go_wp2_with fail;go_ret;exact ⟨by rw [HQ.out];try rfl,HB2.out⟩
end Go.Proofs.YtcannffahjbjnaaGreatDoor
