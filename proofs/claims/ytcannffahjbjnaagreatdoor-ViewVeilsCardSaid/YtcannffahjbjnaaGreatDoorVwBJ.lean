import Derived.Test.YtcannffahjbjnaaGreatDoorVwBH
set_option linter.unusedVariables false
set_option linter.unusedSimpArgs false
set_option maxRecDepth 100000
set_option maxHeartbeats 64000000
namespace Go.Proofs.YtcannffahjbjnaaGreatDoor
open Go.RowKit
theorem Cv (c:UInt8) (l:List UInt8):l.all (fun y=>([32,9,c]:List UInt8).contains y)=l.all (fun y=>aM y||y==c):=by
 congr 1;funext y;unfold aM;rw [List.contains_cons,List.contains_cons,List.contains_cons];simp [Bool.or_assoc]
theorem Cu {s:List UInt8} {X:ByteArray} {M:Bool} {c:UInt8} (hX:ak s=X.data.toList) (hM:dV s=M) (hc:X.data.toList.head? =some c):
  fA s=(M&&[45,42,95].contains c&&decide (3 <= X.data.toList.count c)&&X.data.toList.all fun y=>aM y||y==c):=by
 unfold fA;simp only;rw [hX,hc,hM];simp only;rw [List.count_eq_length_filter]
theorem z8 {s:List UInt8} {X:ByteArray} (hX:ak s=X.data.toList) (h:X.size=0):fA s=false:=by
 unfold fA;simp only;rw [hX,ef X h];rfl
theorem qB (s:ByteArray) (w:World) (hs:s.size <= 1000000):
  Calls Tryz.prog 159 #[.string s] w fun e w'=>e=.returned (.bool (fA s.data.toList))∧Below w.heap.size w w':=by
 have hbe:=fun W=>d8 s W hs;have hXz:=eA s.data.toList;obtain ⟨X,hX⟩:∃X:ByteArray,(⟨(ak s.data.toList).toArray⟩:ByteArray)=X:=⟨_,rfl⟩
 have hXl:ak s.data.toList=X.data.toList:=(by rw [<- hX]);rw [hX]at hbe;rw [hXl,<- Lib.size_eq,<- Lib.size_eq]at hXz;obtain ⟨M,hM⟩:∃M,dV s.data.toList=M:=⟨_,rfl⟩
 rw [hM]at hbe;by_cases h0:0<X.size
 ·have he:=cS h0;obtain ⟨c,hc⟩:∃c,X[0]=c:=⟨_,rfl⟩
  have hh:=gA X h0;rw [hc]at hh;have hv:=Cu hXl hM hh;have hcr:∀W,Calls Tryz.prog 118 #[.string ⟨#[45,42,95]⟩,.int .i32 (wrap32 (c.toNat:Int))] W fun e w'=>e=.returned (.bool (([45,42,95]:List UInt8).contains c))∧Below W.heap.size W w':=fun W=>sX ⟨#[45,42,95]⟩ (by unfold cQ;decide) (by decide) c W;obtain ⟨I,hI⟩:∃I,([45,42,95]:List UInt8).contains c=I:=⟨_,rfl⟩
  rw [hI]at hcr hv;cases M
  ·have HQ:=zh (show fA s.data.toList=false by rw [hv];rfl);have HBE:=zh hbe;clear hbe hcr hv hI hh hM hXl hX;go_enter Tryz.func159,Tryz.ntmps159
   go_wp2_with fail;refine (HBE.out _).mono ?_;rintro e w2 ⟨rfl,b2⟩;have HB2:=zh b2;clear b2;go_wp2_with fail;go_ret;exact ⟨by rw [HQ.out];try rfl,HB2.out⟩
  ·cases I
   ·have HQ:=zh (show fA s.data.toList=false by rw [hv];rfl);have HBE:=zh hbe;have HCR:=zh hcr;clear hbe hcr hv hI hh hM hXl hX;go_enter Tryz.func159,Tryz.ntmps159
    go_wp2_with fail;refine (HBE.out _).mono ?_;rintro e w2 ⟨rfl,b2⟩;have HB2:=zh b2;clear b2;go_wp2_with fail;refine (HCR.out _).mono ?_;rintro e w3 ⟨rfl,b3⟩;have HB3:=zh (aa HB2.out b3);clear b3;go_wp2_with fail;go_ret;exact ⟨by rw [HQ.out];try rfl,HB3.out⟩
   ·have hcm:c∈([45,42,95]:List UInt8):=(by simpa using hI);have hca:c.toNat<128:=by
     simp at hcm;rcases hcm with rfl|rfl|rfl<;>decide
    obtain ⟨O,hO⟩:∃O:ByteArray,X.extract 0 1=O:=⟨_,rfl⟩
    have hOc:O=⟨#[c]⟩:=by
     rw [<- hO];apply iC;rw [Lib.extract_data];have:=cZ X 0 h0;rw [List.drop_zero,hc]at this;rw [this];rfl
    have hct:=fun W=>Tryz.strings_Count_one X c W;obtain ⟨N,hN⟩:∃N,X.data.toList.count c=N:=⟨_,rfl⟩
    have hcN:Lib.countByte X.data.toList c=N:=hN;rw [hcN]at hct;rw [<- hOc]at hct;rw [hN]at hv;obtain ⟨Z,hZ⟩:∃Z:ByteArray,(⟨#[32,9]⟩:ByteArray)++O=Z:=⟨_,rfl⟩
    have hZl:Z.data.toList=[32,9,c]:=(by rw [<- hZ,hOc];simp);have hZs:∀(j:Nat) b,Z.data.toList[j]? =some b ->b.toNat<128:=by
     intro j b hb;rw [hZl]at hb;have:=List.mem_of_getElem? hb;simp at this;rcases this with rfl|rfl|rfl
     ·decide
     ·decide
     ·exact hca
    have htr:=fun W=>Any.strings_Trim_laid Tryz.lays160 (by kernel_rfl) X Z W (by omega) (by rw [Lib.size_eq,hZl];simp) hZs;rw [hZl]at htr;have hte:=kF X.data.toList [32,9,c];rw [Cv]at hte;obtain ⟨T,hT⟩:∃T:ByteArray,(⟨(Lib.trimS X.data.toList [32,9,c]).toArray⟩:ByteArray)=T:=⟨_,rfl⟩
    have hTl:Lib.trimS X.data.toList [32,9,c]=T.data.toList:=(by rw [<- hT]);rw [hTl]at hte;have htr2:∀W,Calls Tryz.prog 189 #[.string X,.string Z] W fun e w'=>e=.returned (.string T)∧Below W.heap.size W w':=fun W=>by
     have:=htr W;rw [hT]at this;exact this
    obtain ⟨E,hE⟩:∃E,(X.data.toList.all fun y=>aM y||y==c)=E:=⟨_,rfl⟩
    rw [hE]at hte hv;have hte2:T.toList.isEmpty=E:=(by rw [Lib.toList_data];exact hte);have HCT:=zh hct;have HTR:=zh htr2;have HBE:=zh hbe;have HCR:=zh hcr;have hO1:O.size=1:=(by rw [hOc];rfl);have HV:=zh hv;have hXI:(1:Int) <= (X.size:Int):=(by omega);clear hct htr htr2 hbe hcr hv hI hh hM hXl hX hcm hca hOc hN hcN hZl hZs hte hTl hT hE;go_enter Tryz.func159,Tryz.ntmps159
    go_wp2_with fail;refine (HBE.out _).mono ?_;rintro e w2 ⟨rfl,b2⟩;have HB2:=zh b2;clear b2;go_wp2_with fail;refine (HCR.out _).mono ?_;rintro e w3 ⟨rfl,b3⟩;have HB3:=zh (aa HB2.out b3);clear b3;go_wp2_with fail;refine (HCT.out _).mono ?_;rintro e w4 ⟨rfl,hw4⟩;obtain rfl:=hw4.symm;by_cases k3:3 <= N
    ·have q3:(3:Int) <= (N:Int):=(by omega);have HQ:=zh (show fA s.data.toList=E by rw [HV.out,decide_eq_true k3];simp);go_wp2_with fail;refine (HTR.out _).mono ?_;rintro e w5 ⟨rfl,b5⟩;have HB5:=zh (aa HB3.out b5);clear b5;go_wp2_with fail;go_ret;exact ⟨by rw [HQ.out];try rfl,HB5.out⟩
    ·have q3:¬(3:Int) <= (N:Int):=(by omega);have HQ:=zh (show fA s.data.toList=false by rw [HV.out,decide_eq_false k3];simp);go_wp2_with fail;go_ret;exact ⟨by rw [HQ.out];try rfl,HB3.out⟩
 ·have he:=cE (s:=X) (by omega);have HQ:=zh (z8 hXl (by omega));have HBE:=zh hbe;clear hbe hM hXl hX;cases M
  all_goals
   go_enter Tryz.func159,Tryz.ntmps159
   go_wp2_with fail;refine (HBE.out _).mono ?_;rintro e w2 ⟨rfl,b2⟩;have HB2:=zh b2;clear b2;go_wp2_with fail;go_ret;exact ⟨by rw [HQ.out];try rfl,HB2.out⟩
theorem wD {s:List UInt8} {X:ByteArray} {M:Bool} (hX:ak s=X.data.toList) (hM:dV s=M) (h:X.size=0∨M=false∨∃c,X.data.toList.head? =some c∧(c≠96∧c≠126∨eC X.data.toList c<3∨c=96∧(trimB (X.data.toList.drop (eC X.data.toList c))).contains 96=true)):cU s=(0,0,[],false):=by
 unfold cU;simp only;rw [hX,hM];cases hh:X.data.toList.head? with
 |none=>rfl
 |some c=>
  simp only;by_cases h1:M=false∨(c≠96∧c≠126)
  ·rw [if_pos h1]
  ·rw [if_neg h1,if_pos];rcases h with h|h|⟨c',hc',h⟩
   ·rw [ef X h]at hh;cases hh
   ·exact absurd (Or.inl h) h1
   ·rw [hh]at hc';obtain rfl:=Option.some.inj hc';rcases h with h|h
    ·exact absurd (Or.inr h) h1
    ·exact h
theorem wE {s:List UInt8} {X:ByteArray} {c:UInt8} (hX:ak s=X.data.toList) (hM:dV s=true) (hc:X.data.toList.head? =some c) (h1:c=96∨c=126) (h2:¬eC X.data.toList c<3) (h3:¬(c=96∧(trimB (X.data.toList.drop (eC X.data.toList c))).contains 96=true)):
  cU s=(c,eC X.data.toList c,trimB (X.data.toList.drop (eC X.data.toList c)),true):=by
 unfold cU;simp only;rw [hX,hM,hc];simp only;rw [if_neg (by
  rintro (h|⟨ha,hb⟩)
  ·cases h
  ·rcases h1 with h1|h1
   ·exact ha h1
   ·exact hb h1),if_neg (by rintro (h|h)<;>first|exact h2 h|exact h3 h)]
theorem rG (s:ByteArray) (w:World) (hs:s.size <= 1000000):
  Calls Tryz.prog 152 #[.string s] w fun e w'=>e=.returned (.tuple #[.int .u8 ((cU s.data.toList).1.toNat:Int),.int .i64 (cU s.data.toList).2.1,.string ⟨(cU s.data.toList).2.2.1.toArray⟩,.bool (cU s.data.toList).2.2.2])∧Below w.heap.size w w':=by
 have hbe:=fun W=>d8 s W hs;have hXz:=eA s.data.toList;obtain ⟨X,hX⟩:∃X:ByteArray,(⟨(ak s.data.toList).toArray⟩:ByteArray)=X:=⟨_,rfl⟩
 have hXl:ak s.data.toList=X.data.toList:=(by rw [<- hX]);rw [hX]at hbe;rw [hXl,<- Lib.size_eq,<- Lib.size_eq]at hXz;obtain ⟨M,hM⟩:∃M,dV s.data.toList=M:=⟨_,rfl⟩
 rw [hM]at hbe;have hno:=wD hXl hM;have hso:=fun c h=>wE (c:=c) hXl h;rw [hM]at hso;have HBE:=zh hbe;have HN:=zh hno;have HS:=zh hso;clear hbe hno hso hM hXl hX;go_enter Tryz.func152,Tryz.ntmps152
 go_wp2_with fail;refine (HBE.out _).mono ?_;rintro e w2 ⟨rfl,b2⟩;have HB2:=zh b2;clear b2;cases M
 ·have HQ:=zh (HN.out (Or.inr (Or.inl rfl)));go_wp2_with fail;refine bodyPost_ret (v:=.tuple #[.int .u8 0,.int .i64 0,.string ⟨#[]⟩,.bool false]) (by simp [results,Tryz.results152,go_sem]) rfl ⟨(by rw [HQ.out];rfl),HB2.out⟩
 ·by_cases h0:0<X.size
  ·have he:=cS h0;obtain ⟨c,hc⟩:∃c,X[0]=c:=⟨_,rfl⟩
   have hh:=gA X h0;rw [hc]at hh;by_cases hcc:c=96∨c=126
   ·have hca:c.toNat<128:=(by rcases hcc with rfl|rfl<;>decide);have hro:=fun W=>ni X c W (by omega) hca;have hKz:=nr X.data.toList c;rw [<- Lib.size_eq]at hKz;obtain ⟨K,hK⟩:∃K,eC X.data.toList c=K:=⟨_,rfl⟩
    rw [hK]at hro hKz;obtain ⟨R,hR⟩:∃R:ByteArray,X.extract K X.size=R:=⟨_,rfl⟩
    have hRl:X.data.toList.drop K=R.data.toList:=(by rw [<- hR,Lib.extract_to_end]);have hRz:R.size <= X.size:=(by rw [<- hR];simp);have hT:=fun W=>vy R W (by omega);obtain ⟨T,hTT⟩:∃T:ByteArray,(⟨(trimB R.data.toList).toArray⟩:ByteArray)=T:=⟨_,rfl⟩
    have hTl:trimB R.data.toList=T.data.toList:=(by rw [<- hTT]);rw [hTT]at hT;have hno:=HN.out;have hso:=HS.out c rfl hh hcc;rw [hK,hRl,hTl]at hso;have hno2:(K<3∨c=96∧T.data.toList.contains 96=true) ->cU s.data.toList=(0,0,[],false):=fun h=>hno (Or.inr (Or.inr ⟨c,hh,Or.inr (by rw [hK,hRl,hTl];exact h)⟩));have hin:∀W,Calls Tryz.prog 141 #[.string T,.string ⟨#[96]⟩] W fun e w'=>e=.returned (.bool (T.data.toList.contains 96))∧w'=W:=fun W=>by
     refine (Tryz.strings_Contains_one T 96 W).mono ?_;rintro e w' ⟨rfl,rfl⟩;rw [jY];exact ⟨rfl,rfl⟩
    obtain ⟨J,hJ⟩:∃J,T.data.toList.contains 96=J:=⟨_,rfl⟩
    rw [hJ]at hin hso hno2;have HRO:=zh hro;have HT:=zh hT;have HN2:=zh hno2;have HS2:=zh hso;have HIN:=zh hin;clear hro hT hno hno2 hso hin hJ hTl hTT hRl hK hh hca hRz;by_cases k3:K<3
    ·have q3:(K:Int)<3:=(by omega);have HQ:=zh (HN2.out (Or.inl k3));rcases hcc with rfl|rfl
     all_goals
      go_wp2_with fail;refine (HRO.out _).mono ?_;rintro e w3 ⟨rfl,b3⟩;have HB3:=zh (aa HB2.out b3);clear b3;go_wp2_with fail;refine (HT.out _).mono ?_;rintro e w4 ⟨rfl,b4⟩;have HB4:=zh (aa HB3.out b4);clear b4;go_wp2_with fail;refine bodyPost_ret (v:=.tuple #[.int .u8 0,.int .i64 0,.string ⟨#[]⟩,.bool false]) (by simp [results,Tryz.results152,go_sem]) rfl ⟨(by rw [HQ.out];rfl),HB4.out⟩
    ·have q3:¬(K:Int)<3:=(by omega);rcases hcc with rfl|rfl
     ·cases J
      ·have HQ:=zh (HS2.out k3 (by simp));clear HS2 HN2;go_wp2_with fail;refine (HRO.out _).mono ?_;rintro e w3 ⟨rfl,b3⟩;have HB3:=zh (aa HB2.out b3);clear b3;go_wp2_with fail;refine (HT.out _).mono ?_;rintro e w4 ⟨rfl,b4⟩;have HB4:=zh (aa HB3.out b4);clear b4;go_wp2_with fail;refine (HIN.out _).mono ?_;rintro e w5 ⟨rfl,hw5⟩;obtain rfl:=hw5.symm;go_wp2_with fail;refine bodyPost_ret (v:=.tuple #[.int .u8 96,.int .i64 K,.string T,.bool true]) (by simp [results,Tryz.results152,go_sem]) rfl ⟨(by rw [HQ.out];simp only [Lib.mk_data];rfl),HB4.out⟩
      ·have HQ:=zh (HN2.out (Or.inr ⟨rfl,rfl⟩));clear HS2 HN2;go_wp2_with fail;refine (HRO.out _).mono ?_;rintro e w3 ⟨rfl,b3⟩;have HB3:=zh (aa HB2.out b3);clear b3;go_wp2_with fail;refine (HT.out _).mono ?_;rintro e w4 ⟨rfl,b4⟩;have HB4:=zh (aa HB3.out b4);clear b4;go_wp2_with fail;refine (HIN.out _).mono ?_;rintro e w5 ⟨rfl,hw5⟩;obtain rfl:=hw5.symm;go_wp2_with fail;refine bodyPost_ret (v:=.tuple #[.int .u8 0,.int .i64 0,.string ⟨#[]⟩,.bool false]) (by simp [results,Tryz.results152,go_sem]) rfl ⟨(by rw [HQ.out];rfl),HB4.out⟩
     ·have HQ:=zh (HS2.out k3 (by rintro ⟨h,_⟩;cases h));clear HS2 HN2;go_wp2_with fail;refine (HRO.out _).mono ?_;rintro e w3 ⟨rfl,b3⟩;have HB3:=zh (aa HB2.out b3);clear b3;go_wp2_with fail;refine (HT.out _).mono ?_;rintro e w4 ⟨rfl,b4⟩;have HB4:=zh (aa HB3.out b4);clear b4;go_wp2_with fail;refine bodyPost_ret (v:=.tuple #[.int .u8 126,.int .i64 K,.string T,.bool true]) (by simp [results,Tryz.results152,go_sem]) rfl ⟨(by rw [HQ.out];simp only [Lib.mk_data];rfl),HB4.out⟩
   ·have h96:c≠96:=fun e=>hcc (Or.inl e);have h126:c≠126:=fun e=>hcc (Or.inr e);have HQ:=zh (HN.out (Or.inr (Or.inr ⟨c,hh,Or.inl ⟨h96,h126⟩⟩)));have t1:((c.toNat:Int) !=96)=true:=gD (d:=96) h96;have t2:((c.toNat:Int) !=126)=true:=gD (d:=126) h126;clear hh hcc h96 h126;go_wp2_with fail;refine bodyPost_ret (v:=.tuple #[.int .u8 0,.int .i64 0,.string ⟨#[]⟩,.bool false]) (by simp [results,Tryz.results152,go_sem]) rfl ⟨(by rw [HQ.out];rfl),HB2.out⟩
  ·have he:=cE (s:=X) (by omega);have HQ:=zh (HN.out (Or.inl (by omega)));go_wp2_with fail;refine bodyPost_ret (v:=.tuple #[.int .u8 0,.int .i64 0,.string ⟨#[]⟩,.bool false]) (by simp [results,Tryz.results152,go_sem]) rfl ⟨(by rw [HQ.out];rfl),HB2.out⟩
theorem oP:∀(l:List UInt8) (i v:Nat),(bP l i v).1 <= i+l.length
 |[],i,v=>by simp [bP]
 |c::t,i,v=>by
  rw [bP];split
  ·simp
  ·have:=oP t (i+1) (v*10+(c.toNat - 48));simp only [List.length_cons];omega
theorem Bj {c:UInt8} (h:¬57<c):c.toNat <= 57:=by
 rw [UInt8.lt_iff_toNat_lt]at h;have:(57:UInt8).toNat=57:=rfl;omega
theorem Bi {c:UInt8} (h:¬c<48):48 <= c.toNat:=by
 rw [UInt8.lt_iff_toNat_lt]at h;have:(48:UInt8).toNat=48:=rfl;omega
theorem Cg {v i d:Nat} (h:v<10 ^ i) (hd:d <= 9):v*10+d<10 ^ (i+1):=by
 rw [Nat.pow_succ];omega
theorem Cf {v i:Nat} (h:v<10 ^ i) (hi:i <= 9):v<1000000000:=Nat.lt_of_lt_of_le h (Nat.pow_le_pow_right (n:=10) (by omega) hi)
def AM (s:ByteArray) (w:World) (pos v:Nat) (wr:World):Prop:=
 wr.heap[w.heap.size]? =some (.stringIter s pos)∧Below w.heap.size w wr∧pos <= s.size∧pos <= 9∧v<10 ^ pos∧bP (s.data.toList.drop pos) pos v=bP s.data.toList 0 0
theorem uE (s:ByteArray) (w:World) (hs:s.size <= 1000000000):
  Calls Tryz.prog 224 #[.string s] w fun e w'=>e=.returned (.tuple #[.int .i64 (bP s.data.toList 0 0).1,.int .i64 (bP s.data.toList 0 0).2])∧(bP s.data.toList 0 0).1 <= 9∧(bP s.data.toList 0 0).2<1000000000∧Below w.heap.size w w':=by
 go_enter Tryz.func224,Tryz.ntmps224
 go_wp2_with fail;go_loopw [4] (fun u4 wr=>∃pos v:Nat,u4=.int .i64 v∧AM s w pos v wr) (fun _ wr=>s.size - wr.iterPos w.heap.size)
 case atStart=>
  refine ⟨0,0,rfl,?_,(Below.refl _ w).alloc (Nat.le_refl _) _,Nat.zero_le _,by omega,by simp,by simp⟩;have:=World.iter_heap w s 0;simpa using this
 case round=>
  obtain ⟨pos,v,rfl,hit,hbw,hps,hp9,hv,hnu⟩:=hrel;have hsz:w.heap.size<wr.heap.size:=(Array.getElem?_eq_some_iff.1 hit).1;have hvb:=Cf hv hp9;have HV:=zh hv;have HNU:=zh hnu;clear hv hnu;by_cases hp:pos<s.size
  ·have hnx:∀ty,(Instr.next (.pointer (some ⟨w.heap.size,0,none⟩)) true ty).run Tryz.prog wr=_:=fun ty=>Lib.run_next_any_at wr w.heap.size s pos ty hit hp;have hit2:=Lib.iterAt_heap wr w.heap.size s pos (pos+(Utf8.decode s pos).2) hit;have hbw2:=Lib.below_iterAt hbw (k:=w.heap.size) (by omega) s (pos+(Utf8.decode s pos).2);have hdl:=Lib.decodeL_drop s pos;have hda:=cZ s pos hp;obtain ⟨b,hb⟩:∃b,s[pos]=b:=⟨_,rfl⟩
   rw [hb]at hda;obtain ⟨r,n,hrn⟩:∃r n,Lib.decodeL (s.data.toList.drop pos)=(r,n):=⟨_,_,rfl⟩
   have hr1:b.toNat<128 ->r=b.toNat∧n=1:=fun h=>by
    have:=Lib.decodeL_ascii b (s.data.toList.drop (pos+1)) h;rw [<- hda,hrn]at this;exact ⟨congrArg (·.1) this,congrArg (·.2) this⟩
   have hr2:128 <= b.toNat ->128 <= r:=fun h=>by
    have:=gQ b (s.data.toList.drop (pos+1)) h;rw [<- hda,hrn]at this;exact this
   rw [<- hdl,hrn]at hnx hit2 hbw2;simp only at hnx hit2 hbw2;by_cases hst:b<48∨57<b∨pos=9
   ·have hN:=HNU.out;rw [hda,bP,if_pos hst]at hN;have HN:=zh hN;have hcl:((r:Int)<48)∨(¬(r:Int)<48∧57<(r:Int))∨(¬(r:Int)<48∧¬57<(r:Int)∧((pos:Int)==9)=true):=by
     rcases hst with h|h|h
     ·left;rw [UInt8.lt_iff_toNat_lt]at h;have e48:(48:UInt8).toNat=48:=rfl;have:=hr1 (by omega);omega
     ·right;left;rw [UInt8.lt_iff_toNat_lt]at h;have e57:(57:UInt8).toNat=57:=rfl;by_cases h2:b.toNat<128
      ·have:=hr1 h2;omega
      ·have:=hr2 (by omega);omega
     ·by_cases h1:(r:Int)<48
      ·exact .inl h1
      ·by_cases h2:57<(r:Int)
       ·exact .inr (.inl ⟨h1,h2⟩)
       ·exact .inr (.inr ⟨h1,h2,by subst h;rfl⟩)
    have HB:=zh hbw2;clear hit2 hbw2 hbw hr1 hr2 hda hdl hb hrn hst hN;rcases hcl with k1|⟨k1,k2⟩|⟨k1,k2,k3⟩
    all_goals
     go_wp2_with fail
     go_ret2
     exact ⟨by rw [<- HN.out];rfl,by rw [<- HN.out];exact hp9,by rw [<- HN.out];exact hvb,HB.out⟩
   ·have h1:¬b<48:=fun e=>hst (Or.inl e);have h2:¬57<b:=fun e=>hst (Or.inr (Or.inl e));have h3:pos≠9:=fun e=>hst (Or.inr (Or.inr e));have d1:=Bj h2;have d2:=Bi h1;obtain ⟨rfl,rfl⟩:=hr1 (by omega);have k1:¬(b.toNat:Int)<48:=(by omega);have k2:¬57<(b.toNat:Int):=(by omega);have k3:((pos:Int)==9)=false:=(by simp;omega);have hN:=HNU.out;rw [hda,bP,if_neg hst]at hN;have hv2:=Cg HV.out (show b.toNat - 48 <= 9 by omega);obtain ⟨wi,hwi⟩:∃wi,wr.iterAt w.heap.size s (pos+1)=wi:=⟨_,rfl⟩
    rw [hwi]at hit2 hbw2;have HR:=zh (show AM s w (pos+1) (v*10+(b.toNat - 48)) wi from ⟨hit2,hbw2,by omega,by omega,hv2,hN⟩);clear hit2 hbw2 hbw hr2 hda hdl hb hrn hst hN h1 h2 hv2;go_wp2_with fail;go_roundw;case rel=>exact ⟨pos+1,v*10+(b.toNat - 48),by go_num,HR.out⟩
    case measure=>simp only [World.iterPos,HR.out.1,hit];omega
  ·have hnx:∀ty,(Instr.next (.pointer (some ⟨w.heap.size,0,none⟩)) true ty).run Tryz.prog wr=_:=fun ty=>Lib.run_next_end_at wr w.heap.size s pos ty hit hp;have hN:=HNU.out;rw [ee s pos (by omega)]at hN;obtain rfl:pos=s.size:=(by omega);have HN:=zh (show (s.size,v)=bP s.data.toList 0 0 from hN);have HB:=zh hbw;clear hN hbw;go_wp2_with fail
   go_ret2
   exact ⟨by rw [<- HN.out];rfl,by rw [<- HN.out];exact hp9,by rw [<- HN.out];exact hvb,HB.out⟩
def mR (R:List UInt8):Nat:=if 4<eC R 32∨eC R 32=R.length then 1 else eC R 32
theorem zC {s R:List UInt8} {N V:Nat} {sign:UInt8} (hM:dV s=true) (h0:ak s≠[]) (hr:fA s=false) (hn:bP (ak s) 0 0=(N,V)) (hs:(ak s)[N]? =some sign)
  (h1:¬((N=0∧[45,43,42].contains sign=false)∨(0<N∧sign≠46∧sign≠41))) (hR:(ak s).drop (N+1)=R) (h2:(R.head?.any fun c=>c !=32)=false):
  aH s=(sign,if N=0 then -1 else (V:Int),bz s+N+1+mR R,R.drop (min (mR R) R.length),true):=by
 unfold aH;simp only;rw [if_neg (by rintro (h|h|h)<;>first|exact h0 h|(rw [hM]at h;cases h)|(rw [hr]at h;cases h)),hn];simp only;rw [hs];simp only;rw [if_neg h1,hR,if_neg (by rw [h2];simp)];rfl
theorem zB {s:List UInt8} (h:dV s=false∨ak s=[]∨fA s=true∨(ak s)[(bP (ak s) 0 0).1]? =none∨∃sign,(ak s)[(bP (ak s) 0 0).1]? =some sign∧
  (((bP (ak s) 0 0).1=0∧[45,43,42].contains sign=false)∨(0<(bP (ak s) 0 0).1∧sign≠46∧sign≠41)∨(((ak s).drop ((bP (ak s) 0 0).1+1)).head?.any fun c=>c !=32)=true)):
  aH s=(0,0,0,[],false):=by
 unfold aH;simp only;by_cases hb:dV s=false∨ak s=[]∨fA s=true
 ·rw [if_pos hb]
 ·rw [if_neg hb];rcases h with h|h|h|h|⟨sign,hs,h⟩
  ·exact absurd (Or.inl h) hb
  ·exact absurd (Or.inr (Or.inl h)) hb
  ·exact absurd (Or.inr (Or.inr h)) hb
  ·rw [h]
  ·rw [hs];simp only;by_cases hc:((bP (ak s) 0 0).1=0∧[45,43,42].contains sign=false)∨(0<(bP (ak s) 0 0).1∧sign≠46∧sign≠41)
   ·rw [if_pos hc]
   ·rw [if_neg hc,if_pos];rcases h with h|h|h
    ·exact absurd (Or.inl h) hc
    ·exact absurd (Or.inr h) hc
    ·exact h
theorem mW (s:ByteArray) (w:World) (hs:s.size <= 1000000):
  Calls Tryz.prog 195 #[.string s] w fun e w'=>e=.returned (.tuple #[.int .u8 ((aH s.data.toList).1.toNat:Int),.int .i64 (aH s.data.toList).2.1,.int .i64 ((aH s.data.toList).2.2.1:Nat),.string ⟨(aH s.data.toList).2.2.2.1.toArray⟩,.bool (aH s.data.toList).2.2.2.2])∧Below w.heap.size w w':=by
 have hbe:=fun W=>d8 s W hs;have hru:=fun W=>qB s W hs;have hno:=zB (s:=s.data.toList);have hso:=fun R N V sign=>zC (s:=s.data.toList) (R:=R) (N:=N) (V:=V) (sign:=sign);have hcol:=lU s.data.toList 0;rw [<- Lib.size_eq]at hcol;change bz s.data.toList <= _ at hcol;have hXz:=eA s.data.toList;obtain ⟨X,hX⟩:∃X:ByteArray,(⟨(ak s.data.toList).toArray⟩:ByteArray)=X:=⟨_,rfl⟩
 have hXl:ak s.data.toList=X.data.toList:=(by rw [<- hX]);rw [hX]at hbe;rw [hXl,<- Lib.size_eq,<- Lib.size_eq]at hXz;rw [hXl]at hno hso;obtain ⟨M,hM⟩:∃M,dV s.data.toList=M:=⟨_,rfl⟩
 obtain ⟨I,hI⟩:∃I,bz s.data.toList=I:=⟨_,rfl⟩
 obtain ⟨B,hB⟩:∃B,fA s.data.toList=B:=⟨_,rfl⟩
 rw [hM,hI]at hbe;rw [hB]at hru;rw [hM,hB]at hno hso;rw [hI]at hso hcol;have hnu:=fun W=>uE X W (by omega);have hNz:=oP X.data.toList 0 0;rw [<- Lib.size_eq]at hNz;obtain ⟨N,V,hNV⟩:∃N V,bP X.data.toList 0 0=(N,V):=⟨_,_,rfl⟩
 rw [hNV]at hnu hno hNz;simp only at hnu hno hNz;have HBE:=zh hbe;have HRU:=zh hru;have HNU:=zh hnu;have HNO0:=zh hno;have HSO0:=zh hso;have HNV:=zh hNV;clear hbe hru hnu hno hso hM hXl hX hI hB hNV;go_enter Tryz.func195,Tryz.ntmps195
 go_wp2_with fail;refine (HBE.out _).mono ?_;rintro e w2 ⟨rfl,b2⟩;have HB2:=zh b2;clear b2;cases M
 ·have HQ:=zh (HNO0.out (Or.inl rfl));go_wp2_with fail;refine bodyPost_ret (v:=.tuple #[.int .u8 0,.int .i64 0,.int .i64 0,.string ⟨#[]⟩,.bool false]) (by simp [results,Tryz.results195,go_sem]) rfl ⟨(by rw [HQ.out];rfl),HB2.out⟩
 ·by_cases h0:0<X.size
  ·have he:=cS h0;go_wp2_with fail;refine (HRU.out _).mono ?_;rintro e w3 ⟨rfl,b3⟩;have HB3:=zh (aa HB2.out b3);clear b3;cases B
   ·go_wp2_with fail;refine (HNU.out _).mono ?_;rintro e w4 ⟨rfl,hN9,hVb,b4⟩;have HB4:=zh (aa HB3.out b4);clear b4;have hne:X.data.toList≠[]:=(by intro h;rw [Lib.size_eq,h]at h0;exact absurd h0 (by simp));by_cases hN:N=X.size
    ·have hge:X.data.toList.length <= N:=(by rw [<- Lib.size_eq];omega);have HQ:=zh (HNO0.out (Or.inr (Or.inr (Or.inr (Or.inl (List.getElem?_eq_none hge))))));clear hge;have k0:((N:Int)==0)=false:=(by simp;omega);have k1:((N:Int)==(X.size:Int))=true:=(by rw [hN];simp);clear hne hN;go_wp2_with fail;refine bodyPost_ret (v:=.tuple #[.int .u8 0,.int .i64 0,.int .i64 0,.string ⟨#[]⟩,.bool false]) (by simp [results,Tryz.results195,go_sem]) rfl ⟨(by rw [HQ.out];rfl),HB4.out⟩
    ·have hNlt:N<X.size:=(by omega);have k1:((N:Int)==(X.size:Int))=false:=(by simp;omega);obtain ⟨c,hc⟩:∃c,X[N]=c:=⟨_,rfl⟩
     have hg:=Lib.data_getElem? X N hNlt;rw [hc]at hg;have hno:=fun h=>HNO0.out (Or.inr (Or.inr (Or.inr (Or.inr ⟨c,hg,h⟩))));obtain ⟨R,hR⟩:∃R:ByteArray,X.extract (N+1) X.size=R:=⟨_,rfl⟩
     have hRl:X.data.toList.drop (N+1)=R.data.toList:=(by rw [<- hR,Lib.extract_to_end]);have hRz:R.size <= X.size:=(by rw [<- hR];simp);have hso:=fun h1=>HSO0.out R.data.toList N V c (by simp) hne (by simp) HNV.out hg h1 hRl;rw [hRl]at hno;have hro:∀W,Calls Tryz.prog 188 #[.string R,.int .u8 32] W fun e w'=>e=.returned (.int .i64 (eC R.data.toList 32))∧Below W.heap.size W w':=fun W=>ni R 32 W (by omega) (by decide);have hGz:=nr R.data.toList 32;rw [<- Lib.size_eq]at hGz;obtain ⟨G,hG⟩:∃G,eC R.data.toList 32=G:=⟨_,rfl⟩
     rw [hG]at hro hGz;have HRO:=zh hro;have HG:=zh hG;have HNO:=zh hno;have HSO:=zh hso;have hN1:(N:Int)+1 <= (X.size:Int):=(by omega);clear hno hso hro hG hRl hg hne hN HNU;by_cases hN0:N=0
     ·subst hN0;simp only [Nat.zero_add]at hR;have hX1:(1:Int) <= (X.size:Int):=(by omega);have hcr:∀W,Calls Tryz.prog 118 #[.string ⟨#[45,43,42]⟩,.int .i32 (wrap32 (c.toNat:Int))] W fun e w'=>e=.returned (.bool (([45,43,42]:List UInt8).contains c))∧Below W.heap.size W w':=fun W=>sX ⟨#[45,43,42]⟩ (by unfold cQ;decide) (by decide) c W;obtain ⟨J,hJ⟩:∃J,([45,43,42]:List UInt8).contains c=J:=⟨_,rfl⟩
      rw [hJ]at hcr;have HCR:=zh hcr;have HJ:=zh hJ;clear hcr hJ;go_wp2_with fail;refine (HCR.out _).mono ?_;rintro e w5 ⟨rfl,b5⟩;have HB5:=zh (aa HB4.out b5);clear b5;cases J
      ·have HQ:=zh (HNO.out (Or.inl ⟨by simp,HJ.out⟩));go_wp2_with fail;refine bodyPost_ret (v:=.tuple #[.int .u8 0,.int .i64 0,.int .i64 0,.string ⟨#[]⟩,.bool false]) (by simp [results,Tryz.results195,go_sem]) rfl ⟨(by rw [HQ.out];rfl),HB5.out⟩
      ·go_wp2_with fail;go_quiet (fail)
       have HBQ:=zh (dm HB5.out nq);by_cases hr0:0<R.size
       ·have her:=cS hr0;obtain ⟨q,hq⟩:∃q,R[0]=q:=⟨_,rfl⟩
        have hh:=gA R hr0;rw [hq]at hh;by_cases q32:q=32
        ·have HS:=zh (HSO.out (by rw [HJ.out];simp) (by rw [hh,q32];rfl));have t1:((q.toNat:Int) !=32)=false:=ke (d:=32) q32;have hB6:=HBQ.out;clear hh q32;have HHB:=zh hB6;go_wp2_with fail;refine (HRO.out _).mono ?_;rintro e w6 ⟨rfl,b6⟩;have HB6:=zh (aa HHB.out b6);clear b6;by_cases g4:4<G
         ·have hgap:(if 4<G∨G=R.size then 1 else G)=1:=if_pos (Or.inl g4);have q4:(4:Int)<(G:Int):=(by omega);obtain ⟨m,hm⟩:∃m,min 1 R.size=m:=⟨_,rfl⟩
          have hmI:min (1:Int) (R.size:Int)=(m:Int):=(by omega);have hmz:(m:Int) <= (R.size:Int):=(by omega);obtain ⟨Z,hZ⟩:∃Z:ByteArray,R.extract m R.size=Z:=⟨_,rfl⟩
          have hZl:R.data.toList.drop m=Z.data.toList:=(by rw [<- hZ,Lib.extract_to_end]);have HQ:=zh (show aH s.data.toList=(c,((-1):Int),I+0+1+1,Z.data.toList,true) by
           rw [HS.out];unfold mR;rw [HG.out,<- Lib.size_eq,hgap,hm,hZl];first|rfl|rw [if_neg (by omega)])
          clear hm hZl hgap;go_wp2_with fail;go_quiet (fail)
          go_wp2_with fail;refine bodyPost_ret (v:=.tuple #[.int .u8 (c.toNat:Int),.int .i64 (-1),.int .i64 (I+0+1+1:Nat),.string Z,.bool true]) (by simp [results,Tryz.results195,go_sem,hZ,hmI]) rfl ⟨(by rw [HQ.out]),dm HB6.out _⟩
         ·have q4:¬(4:Int)<(G:Int):=(by omega);by_cases gl:G=R.size
          ·have hgap:(if 4<G∨G=R.size then 1 else G)=1:=if_pos (Or.inr gl);have ql:((G:Int)==(R.size:Int))=true:=(by rw [gl];simp);clear gl;obtain ⟨m,hm⟩:∃m,min 1 R.size=m:=⟨_,rfl⟩
           have hmI:min (1:Int) (R.size:Int)=(m:Int):=(by omega);have hmz:(m:Int) <= (R.size:Int):=(by omega);obtain ⟨Z,hZ⟩:∃Z:ByteArray,R.extract m R.size=Z:=⟨_,rfl⟩
           have hZl:R.data.toList.drop m=Z.data.toList:=(by rw [<- hZ,Lib.extract_to_end]);have HQ:=zh (show aH s.data.toList=(c,((-1):Int),I+0+1+1,Z.data.toList,true) by
            rw [HS.out];unfold mR;rw [HG.out,<- Lib.size_eq,hgap,hm,hZl];first|rfl|rw [if_neg (by omega)])
           clear hm hZl hgap;go_wp2_with fail;go_quiet (fail)
           go_wp2_with fail;refine bodyPost_ret (v:=.tuple #[.int .u8 (c.toNat:Int),.int .i64 (-1),.int .i64 (I+0+1+1:Nat),.string Z,.bool true]) (by simp [results,Tryz.results195,go_sem,hZ,hmI]) rfl ⟨(by rw [HQ.out]),dm HB6.out _⟩
          ·have hgap:(if 4<G∨G=R.size then 1 else G)=G:=if_neg (by rintro (h|h)<;>first|exact g4 h|exact gl h);have ql:((G:Int)==(R.size:Int))=false:=(by simp;omega);obtain ⟨m,hm⟩:∃m,min G R.size=m:=⟨_,rfl⟩
           have hmI:min (G:Int) (R.size:Int)=(m:Int):=(by omega);have hmz:(m:Int) <= (R.size:Int):=(by omega);obtain ⟨Z,hZ⟩:∃Z:ByteArray,R.extract m R.size=Z:=⟨_,rfl⟩
           have hZl:R.data.toList.drop m=Z.data.toList:=(by rw [<- hZ,Lib.extract_to_end]);have HQ:=zh (show aH s.data.toList=(c,((-1):Int),I+0+1+G,Z.data.toList,true) by
            rw [HS.out];unfold mR;rw [HG.out,<- Lib.size_eq,hgap,hm,hZl];first|rfl|rw [if_neg (by omega)])
           clear hm hZl hgap;go_wp2_with fail;go_quiet (fail)
           go_wp2_with fail;refine bodyPost_ret (v:=.tuple #[.int .u8 (c.toNat:Int),.int .i64 (-1),.int .i64 (I+0+1+G:Nat),.string Z,.bool true]) (by simp [results,Tryz.results195,go_sem,hZ,hmI]) rfl ⟨(by rw [HQ.out]),dm HB6.out _⟩
        ·have HQ:=zh (HNO.out (Or.inr (Or.inr (by rw [hh];simp [q32]))));have t1:((q.toNat:Int) !=32)=true:=gD (d:=32) q32;clear hh q32;go_wp2_with fail;refine bodyPost_ret (v:=.tuple #[.int .u8 0,.int .i64 0,.int .i64 0,.string ⟨#[]⟩,.bool false]) (by simp [results,Tryz.results195,go_sem]) rfl ⟨(by rw [HQ.out];rfl),HBQ.out⟩
       ·have her:=cE (s:=R) (by omega);have HS:=zh (HSO.out (by rw [HJ.out];simp) (by rw [ef R (by omega)];rfl));have hB6:=HBQ.out;have HHB:=zh hB6;go_wp2_with fail;refine (HRO.out _).mono ?_;rintro e w6 ⟨rfl,b6⟩;have HB6:=zh (aa HHB.out b6);clear b6;have q4:¬(4:Int)<(G:Int):=(by omega);have hgap:(if 4<G∨G=R.size then 1 else G)=1:=if_pos (Or.inr (by omega));have ql:((G:Int)==(R.size:Int))=true:=(by simp;omega);obtain ⟨m,hm⟩:∃m,min 1 R.size=m:=⟨_,rfl⟩
        have hmI:min (1:Int) (R.size:Int)=(m:Int):=(by omega);have hmz:(m:Int) <= (R.size:Int):=(by omega);obtain ⟨Z,hZ⟩:∃Z:ByteArray,R.extract m R.size=Z:=⟨_,rfl⟩
        have hZl:R.data.toList.drop m=Z.data.toList:=(by rw [<- hZ,Lib.extract_to_end]);have HQ:=zh (show aH s.data.toList=(c,((-1):Int),I+0+1+1,Z.data.toList,true) by
         rw [HS.out];unfold mR;rw [HG.out,<- Lib.size_eq,hgap,hm,hZl];first|rfl|rw [if_neg (by omega)])
        clear hm hZl hgap;go_wp2_with fail;go_quiet (fail)
        go_wp2_with fail;refine bodyPost_ret (v:=.tuple #[.int .u8 (c.toNat:Int),.int .i64 (-1),.int .i64 (I+0+1+1:Nat),.string Z,.bool true]) (by simp [results,Tryz.results195,go_sem,hZ,hmI]) rfl ⟨(by rw [HQ.out]),dm HB6.out _⟩
     ·have k0:((N:Int)==0)=false:=(by simp;omega);have k2:(0:Int)<(N:Int):=(by omega);by_cases c46:c=46
      ·have t46:((c.toNat:Int) !=46)=false:=ke (d:=46) c46;have H1:=zh (show¬((N=0∧([45,43,42]:List UInt8).contains c=false)∨(0<N∧c≠46∧c≠41)) by
        rintro (⟨h,_⟩|⟨_,h,_⟩)
        ·exact hN0 h
        ·exact h c46)
       clear c46 hN0;go_wp2_with fail;go_quiet (fail)
       have HBQ:=zh (dm HB4.out nq);by_cases hr0:0<R.size
       ·have her:=cS hr0;obtain ⟨q,hq⟩:∃q,R[0]=q:=⟨_,rfl⟩
        have hh:=gA R hr0;rw [hq]at hh;by_cases q32:q=32
        ·have HS:=zh (HSO.out H1.out (by rw [hh,q32];rfl));have t1:((q.toNat:Int) !=32)=false:=ke (d:=32) q32;have hB6:=HBQ.out;clear hh q32;have HHB:=zh hB6;go_wp2_with fail;refine (HRO.out _).mono ?_;rintro e w6 ⟨rfl,b6⟩;have HB6:=zh (aa HHB.out b6);clear b6;by_cases g4:4<G
         ·have hgap:(if 4<G∨G=R.size then 1 else G)=1:=if_pos (Or.inl g4);have q4:(4:Int)<(G:Int):=(by omega);obtain ⟨m,hm⟩:∃m,min 1 R.size=m:=⟨_,rfl⟩
          have hmI:min (1:Int) (R.size:Int)=(m:Int):=(by omega);have hmz:(m:Int) <= (R.size:Int):=(by omega);obtain ⟨Z,hZ⟩:∃Z:ByteArray,R.extract m R.size=Z:=⟨_,rfl⟩
          have hZl:R.data.toList.drop m=Z.data.toList:=(by rw [<- hZ,Lib.extract_to_end]);have HQ:=zh (show aH s.data.toList=(c,(V:Int),I+N+1+1,Z.data.toList,true) by
           rw [HS.out];unfold mR;rw [HG.out,<- Lib.size_eq,hgap,hm,hZl];first|rfl|rw [if_neg (by omega)])
          clear hm hZl hgap;go_wp2_with fail;go_quiet (fail)
          go_wp2_with fail;refine bodyPost_ret (v:=.tuple #[.int .u8 (c.toNat:Int),.int .i64 V,.int .i64 (I+N+1+1:Nat),.string Z,.bool true]) (by simp [results,Tryz.results195,go_sem,hZ,hmI]) rfl ⟨(by rw [HQ.out]),dm HB6.out _⟩
         ·have q4:¬(4:Int)<(G:Int):=(by omega);by_cases gl:G=R.size
          ·have hgap:(if 4<G∨G=R.size then 1 else G)=1:=if_pos (Or.inr gl);have ql:((G:Int)==(R.size:Int))=true:=(by rw [gl];simp);clear gl;obtain ⟨m,hm⟩:∃m,min 1 R.size=m:=⟨_,rfl⟩
           have hmI:min (1:Int) (R.size:Int)=(m:Int):=(by omega);have hmz:(m:Int) <= (R.size:Int):=(by omega);obtain ⟨Z,hZ⟩:∃Z:ByteArray,R.extract m R.size=Z:=⟨_,rfl⟩
           have hZl:R.data.toList.drop m=Z.data.toList:=(by rw [<- hZ,Lib.extract_to_end]);have HQ:=zh (show aH s.data.toList=(c,(V:Int),I+N+1+1,Z.data.toList,true) by
            rw [HS.out];unfold mR;rw [HG.out,<- Lib.size_eq,hgap,hm,hZl];first|rfl|rw [if_neg (by omega)])
           clear hm hZl hgap;go_wp2_with fail;go_quiet (fail)
           go_wp2_with fail;refine bodyPost_ret (v:=.tuple #[.int .u8 (c.toNat:Int),.int .i64 V,.int .i64 (I+N+1+1:Nat),.string Z,.bool true]) (by simp [results,Tryz.results195,go_sem,hZ,hmI]) rfl ⟨(by rw [HQ.out]),dm HB6.out _⟩
          ·have hgap:(if 4<G∨G=R.size then 1 else G)=G:=if_neg (by rintro (h|h)<;>first|exact g4 h|exact gl h);have ql:((G:Int)==(R.size:Int))=false:=(by simp;omega);obtain ⟨m,hm⟩:∃m,min G R.size=m:=⟨_,rfl⟩
           have hmI:min (G:Int) (R.size:Int)=(m:Int):=(by omega);have hmz:(m:Int) <= (R.size:Int):=(by omega);obtain ⟨Z,hZ⟩:∃Z:ByteArray,R.extract m R.size=Z:=⟨_,rfl⟩
           have hZl:R.data.toList.drop m=Z.data.toList:=(by rw [<- hZ,Lib.extract_to_end]);have HQ:=zh (show aH s.data.toList=(c,(V:Int),I+N+1+G,Z.data.toList,true) by
            rw [HS.out];unfold mR;rw [HG.out,<- Lib.size_eq,hgap,hm,hZl];first|rfl|rw [if_neg (by omega)])
           clear hm hZl hgap;go_wp2_with fail;go_quiet (fail)
           go_wp2_with fail;refine bodyPost_ret (v:=.tuple #[.int .u8 (c.toNat:Int),.int .i64 V,.int .i64 (I+N+1+G:Nat),.string Z,.bool true]) (by simp [results,Tryz.results195,go_sem,hZ,hmI]) rfl ⟨(by rw [HQ.out]),dm HB6.out _⟩
        ·have HQ:=zh (HNO.out (Or.inr (Or.inr (by rw [hh];simp [q32]))));have t1:((q.toNat:Int) !=32)=true:=gD (d:=32) q32;clear hh q32;go_wp2_with fail;refine bodyPost_ret (v:=.tuple #[.int .u8 0,.int .i64 0,.int .i64 0,.string ⟨#[]⟩,.bool false]) (by simp [results,Tryz.results195,go_sem]) rfl ⟨(by rw [HQ.out];rfl),HBQ.out⟩
       ·have her:=cE (s:=R) (by omega);have HS:=zh (HSO.out H1.out (by rw [ef R (by omega)];rfl));have hB6:=HBQ.out;have HHB:=zh hB6;go_wp2_with fail;refine (HRO.out _).mono ?_;rintro e w6 ⟨rfl,b6⟩;have HB6:=zh (aa HHB.out b6);clear b6;have q4:¬(4:Int)<(G:Int):=(by omega);have hgap:(if 4<G∨G=R.size then 1 else G)=1:=if_pos (Or.inr (by omega));have ql:((G:Int)==(R.size:Int))=true:=(by simp;omega);obtain ⟨m,hm⟩:∃m,min 1 R.size=m:=⟨_,rfl⟩
        have hmI:min (1:Int) (R.size:Int)=(m:Int):=(by omega);have hmz:(m:Int) <= (R.size:Int):=(by omega);obtain ⟨Z,hZ⟩:∃Z:ByteArray,R.extract m R.size=Z:=⟨_,rfl⟩
        have hZl:R.data.toList.drop m=Z.data.toList:=(by rw [<- hZ,Lib.extract_to_end]);have HQ:=zh (show aH s.data.toList=(c,(V:Int),I+N+1+1,Z.data.toList,true) by
         rw [HS.out];unfold mR;rw [HG.out,<- Lib.size_eq,hgap,hm,hZl];first|rfl|rw [if_neg (by omega)])
        clear hm hZl hgap;go_wp2_with fail;go_quiet (fail)
        go_wp2_with fail;refine bodyPost_ret (v:=.tuple #[.int .u8 (c.toNat:Int),.int .i64 V,.int .i64 (I+N+1+1:Nat),.string Z,.bool true]) (by simp [results,Tryz.results195,go_sem,hZ,hmI]) rfl ⟨(by rw [HQ.out]),dm HB6.out _⟩
      ·have t46:((c.toNat:Int) !=46)=true:=gD (d:=46) c46;by_cases c41:c=41
       ·have t41:((c.toNat:Int) !=41)=false:=ke (d:=41) c41;have H1:=zh (show¬((N=0∧([45,43,42]:List UInt8).contains c=false)∨(0<N∧c≠46∧c≠41)) by
         rintro (⟨h,_⟩|⟨_,_,h⟩)
         ·exact hN0 h
         ·exact h c41)
        clear c46 c41 hN0;go_wp2_with fail;go_quiet (fail)
        have HBQ:=zh (dm HB4.out nq);by_cases hr0:0<R.size
        ·have her:=cS hr0;obtain ⟨q,hq⟩:∃q,R[0]=q:=⟨_,rfl⟩
         have hh:=gA R hr0;rw [hq]at hh;by_cases q32:q=32
         ·have HS:=zh (HSO.out H1.out (by rw [hh,q32];rfl));have t1:((q.toNat:Int) !=32)=false:=ke (d:=32) q32;have hB6:=HBQ.out;clear hh q32;have HHB:=zh hB6;go_wp2_with fail;refine (HRO.out _).mono ?_;rintro e w6 ⟨rfl,b6⟩;have HB6:=zh (aa HHB.out b6);clear b6;by_cases g4:4<G
          ·have hgap:(if 4<G∨G=R.size then 1 else G)=1:=if_pos (Or.inl g4);have q4:(4:Int)<(G:Int):=(by omega);obtain ⟨m,hm⟩:∃m,min 1 R.size=m:=⟨_,rfl⟩
           have hmI:min (1:Int) (R.size:Int)=(m:Int):=(by omega);have hmz:(m:Int) <= (R.size:Int):=(by omega);obtain ⟨Z,hZ⟩:∃Z:ByteArray,R.extract m R.size=Z:=⟨_,rfl⟩
           have hZl:R.data.toList.drop m=Z.data.toList:=(by rw [<- hZ,Lib.extract_to_end]);have HQ:=zh (show aH s.data.toList=(c,(V:Int),I+N+1+1,Z.data.toList,true) by
            rw [HS.out];unfold mR;rw [HG.out,<- Lib.size_eq,hgap,hm,hZl];first|rfl|rw [if_neg (by omega)])
           clear hm hZl hgap;go_wp2_with fail;go_quiet (fail)
           go_wp2_with fail;refine bodyPost_ret (v:=.tuple #[.int .u8 (c.toNat:Int),.int .i64 V,.int .i64 (I+N+1+1:Nat),.string Z,.bool true]) (by simp [results,Tryz.results195,go_sem,hZ,hmI]) rfl ⟨(by rw [HQ.out]),dm HB6.out _⟩
          ·have q4:¬(4:Int)<(G:Int):=(by omega);by_cases gl:G=R.size
           ·have hgap:(if 4<G∨G=R.size then 1 else G)=1:=if_pos (Or.inr gl);have ql:((G:Int)==(R.size:Int))=true:=(by rw [gl];simp);clear gl;obtain ⟨m,hm⟩:∃m,min 1 R.size=m:=⟨_,rfl⟩
            have hmI:min (1:Int) (R.size:Int)=(m:Int):=(by omega);have hmz:(m:Int) <= (R.size:Int):=(by omega);obtain ⟨Z,hZ⟩:∃Z:ByteArray,R.extract m R.size=Z:=⟨_,rfl⟩
            have hZl:R.data.toList.drop m=Z.data.toList:=(by rw [<- hZ,Lib.extract_to_end]);have HQ:=zh (show aH s.data.toList=(c,(V:Int),I+N+1+1,Z.data.toList,true) by
             rw [HS.out];unfold mR;rw [HG.out,<- Lib.size_eq,hgap,hm,hZl];first|rfl|rw [if_neg (by omega)])
            clear hm hZl hgap;go_wp2_with fail;go_quiet (fail)
            go_wp2_with fail;refine bodyPost_ret (v:=.tuple #[.int .u8 (c.toNat:Int),.int .i64 V,.int .i64 (I+N+1+1:Nat),.string Z,.bool true]) (by simp [results,Tryz.results195,go_sem,hZ,hmI]) rfl ⟨(by rw [HQ.out]),dm HB6.out _⟩
           ·have hgap:(if 4<G∨G=R.size then 1 else G)=G:=if_neg (by rintro (h|h)<;>first|exact g4 h|exact gl h);have ql:((G:Int)==(R.size:Int))=false:=(by simp;omega);obtain ⟨m,hm⟩:∃m,min G R.size=m:=⟨_,rfl⟩
            have hmI:min (G:Int) (R.size:Int)=(m:Int):=(by omega);have hmz:(m:Int) <= (R.size:Int):=(by omega);obtain ⟨Z,hZ⟩:∃Z:ByteArray,R.extract m R.size=Z:=⟨_,rfl⟩
            have hZl:R.data.toList.drop m=Z.data.toList:=(by rw [<- hZ,Lib.extract_to_end]);have HQ:=zh (show aH s.data.toList=(c,(V:Int),I+N+1+G,Z.data.toList,true) by
             rw [HS.out];unfold mR;rw [HG.out,<- Lib.size_eq,hgap,hm,hZl];first|rfl|rw [if_neg (by omega)])
            clear hm hZl hgap;go_wp2_with fail;go_quiet (fail)
            go_wp2_with fail;refine bodyPost_ret (v:=.tuple #[.int .u8 (c.toNat:Int),.int .i64 V,.int .i64 (I+N+1+G:Nat),.string Z,.bool true]) (by simp [results,Tryz.results195,go_sem,hZ,hmI]) rfl ⟨(by rw [HQ.out]),dm HB6.out _⟩
         ·have HQ:=zh (HNO.out (Or.inr (Or.inr (by rw [hh];simp [q32]))));have t1:((q.toNat:Int) !=32)=true:=gD (d:=32) q32;clear hh q32;go_wp2_with fail;refine bodyPost_ret (v:=.tuple #[.int .u8 0,.int .i64 0,.int .i64 0,.string ⟨#[]⟩,.bool false]) (by simp [results,Tryz.results195,go_sem]) rfl ⟨(by rw [HQ.out];rfl),HBQ.out⟩
        ·have her:=cE (s:=R) (by omega);have HS:=zh (HSO.out H1.out (by rw [ef R (by omega)];rfl));have hB6:=HBQ.out;have HHB:=zh hB6;go_wp2_with fail;refine (HRO.out _).mono ?_;rintro e w6 ⟨rfl,b6⟩;have HB6:=zh (aa HHB.out b6);clear b6;have q4:¬(4:Int)<(G:Int):=(by omega);have hgap:(if 4<G∨G=R.size then 1 else G)=1:=if_pos (Or.inr (by omega));have ql:((G:Int)==(R.size:Int))=true:=(by simp;omega);obtain ⟨m,hm⟩:∃m,min 1 R.size=m:=⟨_,rfl⟩
         have hmI:min (1:Int) (R.size:Int)=(m:Int):=(by omega);have hmz:(m:Int) <= (R.size:Int):=(by omega);obtain ⟨Z,hZ⟩:∃Z:ByteArray,R.extract m R.size=Z:=⟨_,rfl⟩
         have hZl:R.data.toList.drop m=Z.data.toList:=(by rw [<- hZ,Lib.extract_to_end]);have HQ:=zh (show aH s.data.toList=(c,(V:Int),I+N+1+1,Z.data.toList,true) by
          rw [HS.out];unfold mR;rw [HG.out,<- Lib.size_eq,hgap,hm,hZl];first|rfl|rw [if_neg (by omega)])
         clear hm hZl hgap;go_wp2_with fail;go_quiet (fail)
         go_wp2_with fail;refine bodyPost_ret (v:=.tuple #[.int .u8 (c.toNat:Int),.int .i64 V,.int .i64 (I+N+1+1:Nat),.string Z,.bool true]) (by simp [results,Tryz.results195,go_sem,hZ,hmI]) rfl ⟨(by rw [HQ.out]),dm HB6.out _⟩
       ·have t41:((c.toNat:Int) !=41)=true:=gD (d:=41) c41;have HQ:=zh (HNO.out (Or.inr (Or.inl ⟨by omega,c46,c41⟩)));clear c46 c41 hN0;go_wp2_with fail;refine bodyPost_ret (v:=.tuple #[.int .u8 0,.int .i64 0,.int .i64 0,.string ⟨#[]⟩,.bool false]) (by simp [results,Tryz.results195,go_sem]) rfl ⟨(by rw [HQ.out];rfl),HB4.out⟩
   ·have HQ:=zh (HNO0.out (Or.inr (Or.inr (Or.inl rfl))));go_wp2_with fail;refine bodyPost_ret (v:=.tuple #[.int .u8 0,.int .i64 0,.int .i64 0,.string ⟨#[]⟩,.bool false]) (by simp [results,Tryz.results195,go_sem]) rfl ⟨(by rw [HQ.out];rfl),HB3.out⟩
  ·have he:=cE (s:=X) (by omega);have HQ:=zh (HNO0.out (Or.inr (Or.inl (ef X (by omega)))));go_wp2_with fail;refine bodyPost_ret (v:=.tuple #[.int .u8 0,.int .i64 0,.int .i64 0,.string ⟨#[]⟩,.bool false]) (by simp [results,Tryz.results195,go_sem]) rfl ⟨(by rw [HQ.out];rfl),HB2.out⟩
end Go.Proofs.YtcannffahjbjnaaGreatDoor
