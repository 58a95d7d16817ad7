import Derived.Test.YtcannffahjbjnaaGreatDoorVwBZf
import Derived.Deep.CutRange
set_option linter.unusedVariables false
set_option linter.unusedSimpArgs false
set_option maxRecDepth 100000
set_option maxHeartbeats 64000000
namespace Go.Proofs.YtcannffahjbjnaaGreatDoor
open Go.RowKit
theorem oD.blanks {ls:List (List UInt8)} {d:Nat} {Q:List ak} {acc:List ak} (hd:d <= 12):∀{m i:Nat},oD ls d Q i acc ->i+m <= ls.length ->(∀j s,i <= j ->j<i+m ->ls[j]? =some s ->af s=true) ->oD ls d Q (i+m) acc
 |0,i,h,_,_=>h
 |m+1,i,h,hm,hb=>by
  obtain ⟨s,hs⟩:∃s,ls[i]? =some s:=⟨_,List.getElem?_eq_getElem (by omega)⟩
  have h1:=(h.step hd (by omega) (uq hs (hb i s (Nat.le_refl _) (by omega) hs))).2.1;rw [List.append_nil]at h1;have h2:=oD.blanks hd (m:=m) h1 (by omega) (fun j s h3 h4 h5=>hb j s (by omega) (by omega) h5)
  rwa [show i+1+m=i+(m+1) by omega]at h2
structure qo (ls:List (List UInt8)) (i N k e:Nat):Prop where
 ie:i <= e
 ek:e <= k
 kl:k <= ls.length
 go:au (ls.drop k) (k - i) (e - i)=N
 bl:∀j s,e <= j ->j<k ->ls[j]? =some s ->af s=true
theorem qo.blank {ls:List (List UInt8)} {i N k e:Nat} {s:List UInt8} (h:qo ls i N k e) (hs:ls[k]? =some s) (hb:af s=true):qo ls i N (k+1) e:=by
 obtain ⟨a,b,c,d,f⟩:=h;have hk:=(List.getElem?_eq_some_iff.1 hs).1;rw [qZ hs hb,show k - i+1=k+1 - i by omega]at d;refine ⟨a,by omega,hk,d,fun j t h1 h2 h3=>?_⟩;rcases Nat.lt_succ_iff_lt_or_eq.1 h2 with h4|rfl
 ·exact f j t h1 h4 h3
 ·rw [hs]at h3;rw [<- Option.some.inj h3];exact hb
theorem qo.code {ls:List (List UInt8)} {i N k e:Nat} {s:List UInt8} (h:qo ls i N k e) (hs:ls[k]? =some s) (hb:af s=false) (h4:4 <= aw s):qo ls i N (k+1) (k+1):=by
 obtain ⟨a,b,c,d,f⟩:=h;have hk:=(List.getElem?_eq_some_iff.1 hs).1;rw [tL hs hb h4,show k - i+1=k+1 - i by omega]at d;exact ⟨by omega,Nat.le_refl _,hk,d,fun j t h1 h2 h3=>absurd h2 (by omega)⟩
theorem qo.stop {ls:List (List UInt8)} {i N k e:Nat} (h:qo ls i N k e) (hs:k=ls.length∨∃s,ls[k]? =some s∧af s=false∧¬4 <= aw s):e=i+N:=by
 obtain ⟨a,b,c,d,f⟩:=h;rcases hs with rfl|⟨s,hs,hb,h4⟩
 ·rw [List.drop_length,au]at d;omega
 ·rw [tM hs hb h4]at d;omega
theorem vn (w:World) (xs:List Value) (T:TypeId) (size m b:Nat) (hb:b=w.heap.size) (hl:xs.length=m*size):bL (w.alloc (.cells xs.toArray T)) size (some ⟨b,0,none⟩) m xs:=
 ⟨hl,fun h=>(by cases h),fun ad had=>by
  obtain rfl:=Option.some.inj had;exact ⟨rfl,ar w xs T b hb⟩⟩
theorem CN {p:List UInt8 ->Bool} {ls:List (List UInt8)} {s:List UInt8} {i:Nat} (h:ls[i]? =some s) (hb:p s=false):((ls.drop i).takeWhile p).length=0:=by
 rw [eD h,List.takeWhile_cons_of_neg (by rw [hb];simp)];rfl
theorem DP {p:List UInt8 ->Bool} {ls:List (List UInt8)} {s:List UInt8} {i:Nat} (h:ls[i]? =some s) (hb:p s=true):((ls.drop i).takeWhile p).length=((ls.drop (i+1)).takeWhile p).length+1:=by
 rw [eD h,List.takeWhile_cons_of_pos hb];rfl
theorem Dl {p:List UInt8 ->Bool} (ls:List (List UInt8)):((ls.drop ls.length).takeWhile p).length=0:=by rw [List.drop_length];rfl
theorem qH (d:Nat) (info:ByteArray) (l:List (List UInt8)) (n:Nat):[Value.int .i64 6,.int .i64 (d:Int),.int .i64 0,.bool false,.string ⟨(bI (l.map (aO · n))).toArray⟩,.string info]=aL (eC d info.data.toList l n):=by
 unfold aL eC;rw [Lib.mk_data];rfl
theorem tZ {d:Nat} {s:List UInt8} (h:cw d s=true):(aj s).2.2.2.2=true∧d<11:=by
 unfold cw at h;simp at h;exact h
def sd (ao:Option Addr) (cap:Nat) (ls:List (List UInt8)) (d:Nat) (u:Nat ->Value) (i:Nat):Act:=⟨([.slice ao ls.length cap,.int .i64 (d:Int),undef,undef,.slice none 0 0,u 5,.int .i64 (i:Int),u 7,u 8,u 9,u 10,u 11,u 12,u 13,u 14,u 15,u 16,u 17,u 18,u 19,u 20,u 21,u 22,u 23,u 24,u 25,u 26,u 27,u 28,u 29,u 30,u 31,u 32,u 33,u 34,u 35,u 36,u 37,u 38,u 39,u 40,u 41,u 42,u 43,u 44,u 45,u 46,u 47,u 48,u 49,u 50,u 51,u 52,u 53,u 54,u 55,u 56,u 57,u 58,u 59,u 60,u 61,u 62,u 63,u 64,u 65,u 66,u 67,u 68,u 69,u 70,u 71,u 72,u 73,u 74,u 75,u 76,u 77,u 78,u 79,u 80,u 81,u 82,u 83,u 84,u 85,u 86,u 87,u 88,u 89,u 90,u 91,u 92,u 93,u 94,u 95,u 96,u 97,u 98,u 99,u 100,u 101,u 102,u 103,u 104,u 105,u 106,u 107,u 108,u 109,u 110,u 111,u 112,u 113,u 114,u 115,u 116,u 117,u 118,u 119,u 120,u 121,u 122,u 123,u 124,u 125,u 126,u 127,u 128,u 129,u 130,u 131,u 132,u 133,u 134,u 135,u 136,u 137,u 138,u 139,u 140,u 141,u 142,u 143,u 144,u 145,u 146,u 147,u 148,u 149,u 150,u 151,u 152,u 153,u 154,u 155,u 156,u 157,u 158,u 159,u 160,u 161,u 162,u 163,u 164,u 165,u 166,u 167,u 168,u 169,u 170,u 171,u 172,u 173,u 174,u 175,u 176,u 177,u 178,u 179,u 180,u 181,u 182,u 183,u 184,u 185,u 186,u 187,u 188,u 189,u 190,u 191,u 192,u 193,u 194,u 195,u 196,u 197,u 198,u 199,u 200,u 201,u 202,u 203,u 204,u 205,u 206,u 207,u 208,u 209,u 210,u 211,u 212,u 213,u 214,u 215,u 216,u 217,u 218,u 219,u 220,u 221,u 222,u 223,u 224,u 225,u 226,u 227,u 228,u 229,u 230,u 231,u 232,u 233,u 234,u 235,u 236,u 237,u 238,u 239,u 240,u 241,u 242,u 243,u 244,u 245,u 246,u 247,u 248,u 249,u 250,u 251,undef]:List Value).toArray,[]⟩
def mU (w:World) (ao:Option Addr) (cap:Nat) (ls:List (List UInt8)) (d:Nat) (a:Act) (w':World):Prop:=
 ∃(u:Nat ->Value) (i:Nat) (acc:List ak),aD w.heap.size w' (u 5) acc∧Below w.heap.size w w'∧oD ls d (am d ls) i acc∧a=sd ao cap ls d u i
theorem mU.of {w:World} {ao:Option Addr} {cap:Nat} {ls:List (List UInt8)} {d:Nat} {a:Act} {w':World} (i:Nat) (acc:List ak) {v:Value} (h5:a.tmps.toList.getD 5 undef=v) (ho:aD w.heap.size w' v acc) (hb:Below w.heap.size w w') (hp:oD ls d (am d ls) i acc) (hf:a=sd ao cap ls d (fun n=>a.tmps.toList.getD n undef) i):mU w ao cap ls d a w':=
 ⟨_,i,acc,by rw [h5];exact ho,hb,hp,hf⟩
theorem sX {d:Nat} (hd:d <= 12) (HW1:d<12 ->vr (d+1)) (HW2:d<11 ->vr (d+2)):vr d:=by
 intro w ao cap ls h;obtain ⟨ib,hi,hz0,hz1,hz2⟩:=info_parts gD;obtain ⟨is,hsi,hs0,hs1,hs2⟩:=info_parts eZ;have HW1:=zh HW1;have HW2:=zh HW2;have hll:=h.ll;have HLN:=zh h;clear h;go_enter Tryz.func9,Tryz.ntmps9
 go_wp2_with fail;refine wp_loop (mU w ao cap ls d) (fun a' _=>ls.length+2 - (intOf (a'.tmps.getD 6 undef)).toNat) ?start ?round;case start=>exact ⟨fun n=>if n=5 then .slice none 0 0 else undef,0,[],World.ownsRow_nil _ _ _ _,Below.refl _ _,oD.start ls d,by unfold sd;rfl⟩
 case round=>
  rintro a' wx ⟨u,i,acc,how,hbw,hbp,rfl⟩;unfold sd;obtain ⟨u5,hu5⟩:∃x,u 5=x:=⟨_,rfl⟩
  rw [hu5]at how⊢;clear hu5;have HOW:=zh how;have HBW:=zh hbw;have HBP:=zh hbp;have hal:=hbp.bd;clear how hbp;by_cases hlt:i<ls.length
  ·have hltI:(i:Int)<(ls.length:Int):=(by omega);obtain ⟨g,o,rfl⟩:=HLN.out.addr (by omega);have HLW:=zh (HLN.out.below hbw);obtain ⟨X,hx,hcl,hXz,hX9,hXw⟩:=HLW.out.line i hlt;have hfe:=qd X hX9 hXz;have hhe:=mS X hX9 hXz;have hbl:=cS X (by omega);have hin:=eV X hX9 (by omega);have hru:=nK X hX9 hXz;have hqu:=kh X d hX9 hXz (by omega);have hli:=ou X d hX9 hXz (by omega);have hht:=zD X hX9 hXz;have hil:aw X.data.toList <= X.size:=(by rw [cE hX9,Lib.size_eq];exact eg _ _);rw [<- cE hX9]at hin;obtain ⟨fc,fn,fi,fb,hf⟩:∃a b c e,bq X.data.toList=(a,b,c,e):=⟨_,_,_,_,rfl⟩
   obtain ⟨hn,ht,hb,hh⟩:∃a b e,ck X.data.toList=(a,b,e):=⟨_,_,_,rfl⟩
   have hfn:fb=true ->fn <= 1000000:=fun h=>by
    have:=(nU (s:=X.data.toList) (by rw [hf];exact h)).2;rw [hf,<- Lib.size_eq]at this;simp only at this;omega
   rw [hf]at hfe;rw [hh]at hhe;simp only at hfe hhe;obtain ⟨FI,hFI⟩:∃x:ByteArray,(⟨fi.toArray⟩:ByteArray)=x:=⟨_,rfl⟩
   have hFl:fi=FI.data.toList:=(by rw [<- hFI]);rw [hFI]at hfe;rw [hFl]at hf;obtain ⟨HT,hHT⟩:∃x:ByteArray,(⟨ht.toArray⟩:ByteArray)=x:=⟨_,rfl⟩
   have hHl:ht=HT.data.toList:=(by rw [<- hHT]);rw [hHT]at hhe;rw [hHl]at hh;obtain ⟨BV,hBV⟩:∃x,af X.data.toList=x:=⟨_,rfl⟩
   obtain ⟨I,hI⟩:∃x,aw X.data.toList=x:=⟨_,rfl⟩
   obtain ⟨RV,hRV⟩:∃x,cZ X.data.toList=x:=⟨_,rfl⟩
   obtain ⟨QV,hQV⟩:∃x,bK d X.data.toList=x:=⟨_,rfl⟩
   obtain ⟨LV,hLV⟩:∃x,cw d X.data.toList=x:=⟨_,rfl⟩
   obtain ⟨TV,hTV⟩:∃x,ef X.data.toList=x:=⟨_,rfl⟩
   rw [hBV]at hbl;rw [hI]at hin hil;rw [hRV]at hru;rw [hQV]at hqu;rw [hLV]at hli;rw [hTV]at hht;have HFE:=zh hfe;have HHE:=zh hhe;have HBL:=zh hbl;have HIN:=zh hin;have HRU:=zh hru;have HQU:=zh hqu;have HLI:=zh hli;have HHT:=zh hht;have HX:=zh (And.intro hx (And.intro hBV (And.intro hI (And.intro hf (And.intro hh (And.intro hRV (And.intro hQV (And.intro hLV hTV))))))));have HFN:=zh hfn;clear hfe hhe hbl hin hru hqu hli hht hx hBV hI hf hh hRV hQV hLV hTV hFI hFl hHT hHl hX9 hXw hfn hbw;go_wp2_with fail;refine (HFE.out _).mono ?_;rintro e wx ⟨rfl,bb⟩;have HOW2:=zh (cY HOW.out bb);have HBW2:=zh (aa HBW.out bb);have HLW2:=zh (HLW.out.below bb);clear bb HOW HBW HLW;have HOW:=HOW2;have HBW:=HBW2;have HLW:=HLW2;clear HOW2 HBW2 HLW2;clear hcl;go_wp2_with fail;refine (HHE.out _).mono ?_;rintro e w' ⟨rfl,hw'⟩;obtain rfl:=hw'.symm;clear hw';go_wp2_with fail;refine (HBL.out _).mono ?_;rintro e w' ⟨rfl,hw'⟩;obtain rfl:=hw'.symm;clear hw';cases BV
   ·go_wp2_with fail;refine (HIN.out _).mono ?_;rintro e w' ⟨rfl,hw'⟩;obtain rfl:=hw'.symm;clear hw';by_cases h4:4 <= I
    ·have h4I:(4:Int) <= (I:Int):=(by omega);clear HFE HHE HRU HQU HLI HHT HFN;obtain ⟨N,hN⟩:∃N,au (ls.drop i) 0 0=N:=⟨_,rfl⟩
     have hnx:=Cv (V:=am) (d:=d) HX.out.1 HX.out.2.1 (by rw [HX.out.2.2.1];exact h4);rw [hN]at hnx;have hstp:=HBP.out.step hd hlt hnx;have hn1:=hstp.1;have HPL:=zh hstp.2.1;have hob:=hstp.2.2;clear hstp;have HIA:=zh (show qo ls i N i i from ⟨Nat.le_refl _,Nat.le_refl _,by omega,by rw [Nat.sub_self];exact hN,fun j s h1 h2 h3=>absurd h1 (by omega)⟩);have HKN:=zh hN;clear hnx hN h4
     go_upto_block 3 with (fail)
     go_cut [6,16]from 71 to 99 (fun u6 u16 wc=>∃k:Nat,u6=.int .i64 (k:Int)∧u16=.int .i64 ((i+N:Nat):Int)∧Hid (k <= ls.length∧i+N <= k∧oD ls d (am d ls) k (acc++[eC d [] ((ls.drop i).take N) 4]))∧wc=wx)
     case first=>
      go_wp2_with fail;go_loop [6,16] (fun u6 u16=>∃k e:Nat,u6=.int .i64 (k:Int)∧u16=.int .i64 (e:Int)∧Hid (qo ls i N k e)) (fun u6 _=>ls.length - (intOf u6).toNat)
      case atStart=>exact ⟨i,i,by go_num,by go_num,HIA⟩
      case round=>
       obtain ⟨k,e,rfl,rfl,HI⟩:=hrel;have hkl:=HI.out.kl;have hek:=HI.out.ek;have hie:=HI.out.ie;clear HIA;by_cases hk:k<ls.length
       ·have hkI:(k:Int)<(ls.length:Int):=(by omega);obtain ⟨XX,hx,hcl,hXXz,hXX9,_⟩:=HLW.out.line k hk;have hbl:=cS XX (by omega);have hin:=eV XX hXX9 (by omega);rw [<- cE hXX9]at hin;obtain ⟨bv,hbv⟩:∃b,af XX.data.toList=b:=⟨_,rfl⟩
        obtain ⟨I2,hI2⟩:∃I,aw XX.data.toList=I:=⟨_,rfl⟩
        rw [hbv]at hbl;rw [hI2]at hin;have HBL2:=zh hbl;have HIN2:=zh hin;have HXX:=zh (And.intro hx (And.intro hbv hI2));have hk1:((k:Int)+1) - 1=(k:Int):=(by omega);clear hbl hin hbv hI2 hx hXX9;cases bv
        ·by_cases hc:4 <= I2
         ·have hcI:(4:Int) <= (I2:Int):=(by omega);have HM:=zh (HI.out.code HXX.out.1 HXX.out.2.1 (by rw [HXX.out.2.2];exact hc));clear hc;go_wp2_with fail;refine (HBL2.out _).mono ?_;rintro e w' ⟨rfl,hw'⟩;obtain rfl:=hw'.symm;clear hw';go_wp2_with fail;refine (HIN2.out _).mono ?_;rintro e w' ⟨rfl,hw'⟩;obtain rfl:=hw'.symm;clear hw';go_wp2_with fail;refine (HBL2.out _).mono ?_;rintro e w' ⟨rfl,hw'⟩;obtain rfl:=hw'.symm;clear hw';go_wp2_with fail;go_round;case rel=>exact ⟨k+1,k+1,by go_num,by go_num,HM⟩
          case measure=>simp [intOf];omega
         ·have hcI:¬(4:Int) <= (I2:Int):=(by omega);have HEN:=zh (HI.out.stop (Or.inr ⟨_,HXX.out.1,HXX.out.2.1,by rw [HXX.out.2.2];exact hc⟩));clear hc;go_wp2_with fail;refine (HBL2.out _).mono ?_;rintro e w' ⟨rfl,hw'⟩;obtain rfl:=hw'.symm;clear hw';go_wp2_with fail;refine (HIN2.out _).mono ?_;rintro e w' ⟨rfl,hw'⟩;obtain rfl:=hw'.symm;clear hw';have HPK:=zh (show i+N <= k∧oD ls d (am d ls) k (acc++[eC d [] ((ls.drop i).take N) 4]) by
           have hen:e=i+N:=HEN.out;have h1:=oD.blanks (m:=k - (i+N)) hd HPL.out (by omega) (fun j s h1 h2 h3=>HI.out.bl j s (by omega) (by omega) h3);rw [show i+N+(k - (i+N))=k by omega]at h1;exact ⟨by omega,h1⟩)
          go_wp2_with fail
          go_meet
          case rel=>exact ⟨k,rfl,by rw [HEN.out],zh ⟨hkl,HPK.out.1,HPK.out.2⟩,rfl⟩
        ·have HM:=zh (HI.out.blank HXX.out.1 HXX.out.2.1);go_wp2_with fail;refine (HBL2.out _).mono ?_;rintro e w' ⟨rfl,hw'⟩;obtain rfl:=hw'.symm;clear hw';go_wp2_with fail;refine (HBL2.out _).mono ?_;rintro e w' ⟨rfl,hw'⟩;obtain rfl:=hw'.symm;clear hw';go_wp2_with fail;go_round;case rel=>exact ⟨k+1,e,by go_num,rfl,HM⟩
         case measure=>simp [intOf];omega
       ·have hkI:¬(k:Int)<(ls.length:Int):=(by omega);have HEN:=zh (HI.out.stop (Or.inl (by omega)));have HPK:=zh (show i+N <= k∧oD ls d (am d ls) k (acc++[eC d [] ((ls.drop i).take N) 4]) by
         have hen:e=i+N:=HEN.out;have h1:=oD.blanks (m:=k - (i+N)) hd HPL.out (by omega) (fun j s h1 h2 h3=>HI.out.bl j s (by omega) (by omega) h3);rw [show i+N+(k - (i+N))=k by omega]at h1;exact ⟨by omega,h1⟩)
        go_wp2_with fail
        go_meet
        case rel=>exact ⟨k,rfl,by rw [HEN.out],zh ⟨hkl,HPK.out.1,HPK.out.2⟩,rfl⟩
     case rest=>
      obtain ⟨k,rfl,rfl,HKK,hwc⟩:=hcut;obtain rfl:=hwc.symm;have hkl:=HKK.out.1;have hek:=HKK.out.2.1;clear hwc HIA;have hsub:=HLW.out.sub i (i+N) (by omega) (by omega);rw [show i+N - i=N by omega]at hsub;have hsl:((ls.drop i).take N).length=N:=(by rw [List.length_take,List.length_drop];omega);have hstr:=gZ 4 hsub (by omega);rw [hsl]at hstr;obtain ⟨SB,hSB⟩:∃S:ByteArray,(⟨(bI (((ls.drop i).take N).map (aO · 4))).toArray⟩:ByteArray)=S:=⟨_,rfl⟩
      rw [hSB]at hstr;have HSB:=zh hSB;have HSTR:=zh hstr;have k1:((i+N:Nat):Int) <= (cap:Int):=(by have:=HLW.out.lc;omega);have k2:(i:Int) <= ((i+N:Nat):Int):=(by omega);clear hsub hsl hstr hSB;go_wp2_with fail;refine HSTR.out.mono ?_;rintro e w3 ⟨rfl,b3⟩;have HO:=zh (cY HOW.out b3);have HB:=zh (aa HBW.out b3);clear b3 HSTR
      go_wp2_with (first
       |(at_builtin;refine wpList_append_own _ rfl _ _ 28 rfl w.heap.size 45 ib (.agg #[.int .i64 0,.int .i64 0,.int .i64 0,.bool false,.string ⟨#[]⟩,.string ⟨#[]⟩]) 6 64 Tryz.underlying28 hi hz0 hz1 hz2 rfl (by decide) _ _ _ rfl (World.ownsRow.alloc HO.out _) ⟨(w3).heap.size,0,none⟩ 1 1 [.int .i64 6,.int .i64 (d:Int),.int .i64 0,.bool false,.string SB,.string ⟨#[]⟩] rfl rfl (ar _ _ _ _ rfl) (fun u hu=>by simp only [List.mem_cons,List.not_mem_nil,or_false]at hu;rcases hu with rfl|rfl|rfl|rfl|rfl|rfl<;>rfl) (by unfold maxLen;omega) (by omega) (by have:=HB.out.size;simp;omega) ?_))
      intro v4 w4 hown4 hgrow _;have hg1:=(World.grownBy_alloc _ _ _).trans hgrow;have hO4:=dA (p:=eC d [] ((ls.drop i).take N) 4) hown4 (by rw [<- HSB.out];rfl);have hB4:=HB.out.grown hg1 HB.out.size (fun j hj=>(World.ownsRow.lt HO.out j hj).1);have HO4:=zh hO4;have HB4:=zh hB4;have HG4:=zh hgrow;clear hgrow hg1 hO4 hB4 hown4;have HPL:=zh HKK.out.2.2;go_wp2_with fail;refine ⟨mU.of _ _ rfl HO4.out HB4.out HPL.out ?_,?_⟩
      ·kernel_rfl
      ·simp [intOf];omega
    ·have h4I:¬(4:Int) <= (I:Int):=(by omega);cases fb
     ·cases hb
      ·go_wp2_with fail;refine (HRU.out _).mono ?_;rintro e wx ⟨rfl,bb⟩;have HOW2:=zh (cY HOW.out bb);have HBW2:=zh (aa HBW.out bb);have HLW2:=zh (HLW.out.below bb);clear bb HOW HBW HLW;have HOW:=HOW2;have HBW:=HBW2;have HLW:=HLW2;clear HOW2 HBW2 HLW2;cases RV
       ·go_wp2_with fail;refine (HQU.out _).mono ?_;rintro e w' ⟨rfl,hw'⟩;obtain rfl:=hw'.symm;clear hw';cases QV
        ·go_wp2_with fail;refine (HLI.out _).mono ?_;rintro e wx ⟨rfl,bb⟩;have HOW2:=zh (cY HOW.out bb);have HBW2:=zh (aa HBW.out bb);have HLW2:=zh (HLW.out.below bb);clear bb HOW HBW HLW;have HOW:=HOW2;have HBW:=HBW2;have HLW:=HLW2;clear HOW2 HBW2 HLW2;cases LV
         ·go_wp2_with fail;refine (HHT.out _).mono ?_;rintro e w' ⟨rfl,hw'⟩;obtain rfl:=hw'.symm;clear hw';cases TV
          ·clear HFE HHE HRU HQU HLI HHT HFN HBL HIN;have hnx:=Cz (V:=am) (d:=d) HX.out.1 HX.out.2.1 (by rw [HX.out.2.2.1];exact h4) (by rw [HX.out.2.2.2.1]) (by rw [HX.out.2.2.2.2.1]) HX.out.2.2.2.2.2.1 HX.out.2.2.2.2.2.2.1 HX.out.2.2.2.2.2.2.2.1 HX.out.2.2.2.2.2.2.2.2;have hsub:=HLW.out.sub i ls.length (Nat.le_refl _) (by omega);have hsl:(ls.drop i).take (ls.length - i)=ls.drop i:=List.take_of_length_le (by rw [List.length_drop];exact Nat.le_refl _);rw [hsl]at hsub;have hcall:=zF d hsub (by omega);rw [List.length_drop]at hcall;have hpb:=gH d (ls.drop i) [] 0;rw [List.length_drop]at hpb;obtain ⟨q,hq⟩:∃q,bz d (ls.drop i) [] 0=q:=⟨_,rfl⟩
           rw [hq]at hcall hnx hpb;obtain ⟨N,hN⟩:∃N,q.2.2=N:=⟨_,rfl⟩
           rw [hN]at hcall hnx hpb;obtain ⟨PB,hPB⟩:∃b,jm d q=b:=⟨_,rfl⟩
           rw [hPB]at hcall hnx;have hstp:=HBP.out.step hd hlt hnx;have hn1:=hstp.1;have HPL:=zh hstp.2.1;have hob:=hstp.2.2;clear hstp;have hNl:i+N <= ls.length:=(by omega);have HC:=zh hcall;have k1:(i:Int) <= (ls.length:Int):=(by omega);have k3:((ls.length:Int) - (i:Int))=((ls.length - i:Nat):Int):=(by omega);have k4:¬cap=i:=(by have:=HLW.out.lc;omega);clear hnx hsub hsl hcall hpb hq hN hPB;go_wp2_with fail;refine HC.out.mono ?_;rintro e w3 ⟨rfl,b3⟩;have HO5:=zh (cY HOW.out b3);have HB5:=zh (aa HBW.out b3);clear b3 HC;unfold yb;go_upto_region 9 with (fail)
           have hbA:=(Below.refl w3.heap.size w3).alloc (Nat.le_refl _) (.cells #[.int .i64 (PB.kind:Int),.int .i64 (PB.depth:Int),.int .i64 PB.n,.bool PB.tight,.string ⟨PB.text.toArray⟩,.string ⟨PB.info.toArray⟩] 45);have hkA:(w3.alloc (.cells #[.int .i64 (PB.kind:Int),.int .i64 (PB.depth:Int),.int .i64 PB.n,.bool PB.tight,.string ⟨PB.text.toArray⟩,.string ⟨PB.info.toArray⟩] 45)).heap[w3.heap.size]? =some (.cells #[.int .i64 (PB.kind:Int),.int .i64 (PB.depth:Int),.int .i64 PB.n,.bool PB.tight,.string ⟨PB.text.toArray⟩,.string ⟨PB.info.toArray⟩] 45 (0,0)):=heap_alloc_new w3 _;have HO:=zh (cY HO5.out hbA);have HB:=zh (aa HB5.out hbA);obtain ⟨wc,hwc⟩:∃x,w3.alloc (.cells #[.int .i64 (PB.kind:Int),.int .i64 (PB.depth:Int),.int .i64 PB.n,.bool PB.tight,.string ⟨PB.text.toArray⟩,.string ⟨PB.info.toArray⟩] 45)=x:=⟨_,rfl⟩
           rw [hwc]at HO HB hkA⊢;clear hwc hbA HO5 HB5;obtain ⟨c0,c1,c2,c3,c4,c5⟩:wc.cell? ⟨w3.heap.size,0,none⟩=some (.int .i64 (PB.kind:Int))∧wc.cell? ⟨w3.heap.size,1,none⟩=some (.int .i64 (PB.depth:Int))∧wc.cell? ⟨w3.heap.size,2,none⟩=some (.int .i64 PB.n)∧wc.cell? ⟨w3.heap.size,3,none⟩=some (.bool PB.tight)∧wc.cell? ⟨w3.heap.size,4,none⟩=some (.string ⟨PB.text.toArray⟩)∧wc.cell? ⟨w3.heap.size,5,none⟩=some (.string ⟨PB.info.toArray⟩):=by
            refine ⟨?_,?_,?_,?_,?_,?_⟩<;>(rw [cell_of_row wc w3.heap.size _ _ _ _ hkA];rfl)
           clear hkA
           go_wp2_with (first
            |(at_builtin;refine wpList_append_own _ rfl _ _ 28 rfl w.heap.size 45 ib (.agg #[.int .i64 0,.int .i64 0,.int .i64 0,.bool false,.string ⟨#[]⟩,.string ⟨#[]⟩]) 6 64 Tryz.underlying28 hi hz0 hz1 hz2 rfl (by decide) _ _ _ rfl (World.ownsRow.alloc HO.out _) ⟨(wc).heap.size,0,none⟩ 1 1 [.int .i64 (PB.kind:Int),.int .i64 (PB.depth:Int),.int .i64 PB.n,.bool PB.tight,.string ⟨PB.text.toArray⟩,.string ⟨PB.info.toArray⟩] rfl rfl (ar _ _ _ _ rfl) (fun u hu=>by simp only [List.mem_cons,List.not_mem_nil,or_false]at hu;rcases hu with rfl|rfl|rfl|rfl|rfl|rfl<;>rfl) (by unfold maxLen;omega) (by omega) (by have:=HB.out.size;simp;omega) ?_))
           intro v4 w4 hown4 hgrow _;have hg1:=(World.grownBy_alloc _ _ _).trans hgrow;have hO4:=dA (p:=PB) hown4 rfl;have hB4:=HB.out.grown hg1 HB.out.size (fun j hj=>(World.ownsRow.lt HO.out j hj).1);have HO4:=zh hO4;have HB4:=zh hB4;have HG4:=zh hgrow;clear hgrow hg1 hO4 hB4 hown4;go_wp2_with fail;refine ⟨mU.of _ _ rfl HO4.out HB4.out HPL.out ?_,?_⟩
           ·kernel_rfl
           ·simp [intOf];omega
          ·clear HFE HHE HRU HQU HLI HHT HFN HBL HIN;obtain ⟨N,hN⟩:∃N,jb (ls.drop i)=N:=⟨_,rfl⟩
           have hnx:=Cx (V:=am) (d:=d) HX.out.1 HX.out.2.1 (by rw [HX.out.2.2.1];exact h4) (by rw [HX.out.2.2.2.1]) (by rw [HX.out.2.2.2.2.1]) HX.out.2.2.2.2.2.1 HX.out.2.2.2.2.2.2.1 HX.out.2.2.2.2.2.2.2.1 HX.out.2.2.2.2.2.2.2.2;rw [hN]at hnx;have hstp:=HBP.out.step hd hlt hnx;have hn1:=hstp.1;have HPL:=zh hstp.2.1;have hob:=hstp.2.2;clear hstp;have HK0:=zh (show i+jb (ls.drop i)=i+N by rw [hN]);have hNl:i+N <= ls.length:=by
            have:=ve (fun x=> !af x) (ls.drop i);rw [List.length_drop]at this;unfold jb at hN;omega
           clear hnx hN
           go_upto_block 9 with (fail)
           go_cut [6]from 228 to 241 (fun u6 wc=>u6=.int .i64 ((i+N:Nat):Int)∧wc=wx)
           case first=>
            go_wp2_with fail;go_loop [6] (fun u6=>∃k:Nat,u6=.int .i64 (k:Int)∧i <= k∧k <= ls.length∧Hid (k+jb (ls.drop k)=i+N)) (fun u6=>ls.length - (intOf u6).toNat)
            case atStart=>exact ⟨i,by go_num,Nat.le_refl _,by omega,HK0⟩
            case round=>
             obtain ⟨k,rfl,hk1,hk2,HK⟩:=hrel;clear HK0;by_cases hk:k<ls.length
             ·have hkI:(k:Int)<(ls.length:Int):=(by omega);obtain ⟨XX,hx,hcl,hXXz,hXX9,_⟩:=HLW.out.line k hk;have hbl:=cS XX (by omega);obtain ⟨bv,hbv⟩:∃b,af XX.data.toList=b:=⟨_,rfl⟩
              rw [hbv]at hbl;have HBL2:=zh hbl;have HXX:=zh (And.intro hx hbv);clear hbl hbv hx hXX9;cases bv
              ·have HK2:=zh (show k+1+jb (ls.drop (k+1))=i+N by
                have:=HK.out;rw [xI HXX.out.1 HXX.out.2]at this;omega)
               go_wp2_with fail;refine (HBL2.out _).mono ?_;rintro e w' ⟨rfl,hw'⟩;obtain rfl:=hw'.symm;clear hw';go_wp2_with fail;go_round;case rel=>exact ⟨k+1,by go_num,by omega,by omega,HK2⟩
               case measure=>simp [intOf];omega
              ·have HKT:=zh (show k=i+N by
                have:=HK.out;rw [rH HXX.out.1 HXX.out.2]at this;omega)
               go_wp2_with fail;refine (HBL2.out _).mono ?_;rintro e w' ⟨rfl,hw'⟩;obtain rfl:=hw'.symm;clear hw';go_wp2_with fail
               go_meet
               case rel=>exact ⟨by rw [HKT.out],rfl⟩
             ·have hkI:¬(k:Int)<(ls.length:Int):=(by omega);have HKT:=zh (show k=i+N by
               have h1:=HK.out;have h2:k=ls.length:=(by omega);rw [h2,uC]at h1;omega)
              go_wp2_with fail
              go_meet
              case rel=>exact ⟨by rw [HKT.out],rfl⟩
           case rest=>
            obtain ⟨rfl,hwc⟩:=hcut;obtain rfl:=hwc.symm;clear hwc HK0;have hsub:=HLW.out.sub i (i+N) (by omega) (by omega);rw [show i+N - i=N by omega]at hsub;have hsl:((ls.drop i).take N).length=N:=(by rw [List.length_take,List.length_drop];omega);have hjl:(bI ((ls.drop i).take N)).length <= 1000000:=Nat.le_trans (jQ _) hsub.lt;have hjo:=rR (some ⟨g,o+i,none⟩) (cap - i) ((ls.drop i).take N) wx hsub.lr (by omega) (by omega);rw [hsl]at hjo;have HJO:=zh hjo;have k1:((i+N:Nat):Int) <= (cap:Int):=(by have:=HLW.out.lc;omega);have k2:(i:Int) <= ((i+N:Nat):Int):=(by omega);have HO:=HOW;have HB:=HBW;clear hsub hsl hjl hjo;go_wp2_with fail;refine HJO.out.mono ?_;rintro e w' ⟨rfl,hw'⟩;obtain rfl:=hw'.symm
            go_wp2_with (first
             |(at_builtin;refine wpList_append_own _ rfl _ _ 28 rfl w.heap.size 45 ib (.agg #[.int .i64 0,.int .i64 0,.int .i64 0,.bool false,.string ⟨#[]⟩,.string ⟨#[]⟩]) 6 64 Tryz.underlying28 hi hz0 hz1 hz2 rfl (by decide) _ _ _ rfl (World.ownsRow.alloc HO.out _) ⟨(wx).heap.size,0,none⟩ 1 1 [.int .i64 8,.int .i64 (d:Int),.int .i64 0,.bool false,.string ⟨(bI ((ls.drop i).take N)).toArray⟩,.string ⟨#[]⟩] rfl rfl (ar _ _ _ _ rfl) (fun u hu=>by simp only [List.mem_cons,List.not_mem_nil,or_false]at hu;rcases hu with rfl|rfl|rfl|rfl|rfl|rfl<;>rfl) (by unfold maxLen;omega) (by omega) (by have:=HB.out.size;simp;omega) ?_))
            intro v4 w4 hown4 hgrow _;have hg1:=(World.grownBy_alloc _ _ _).trans hgrow;have hO4:=dA (p:=⟨8,d,0,false,bI ((ls.drop i).take N),[]⟩) hown4 rfl;have hB4:=HB.out.grown hg1 HB.out.size (fun j hj=>(World.ownsRow.lt HO.out j hj).1);have HO4:=zh hO4;have HB4:=zh hB4;have HG4:=zh hgrow;clear hgrow hg1 hO4 hB4 hown4;have HPL2:=zh (show oD ls d (am d ls) (i+N) (acc++[⟨8,d,0,false,bI ((ls.drop i).take N),[]⟩]) by
             exact HPL.out)
            have HPL:=HPL2;go_wp2_with fail;refine ⟨mU.of _ _ rfl HO4.out HB4.out HPL.out ?_,?_⟩
            ·kernel_rfl
            ·simp [intOf];omega
         ·clear HFE HHE HRU HQU HLI HHT HFN HBL HIN;have hls:=tZ HX.out.2.2.2.2.2.2.2.1;have hd11:d<11:=hls.2;have hnx:=Cy (V:=am) (d:=d) HX.out.1 HX.out.2.1 (by rw [HX.out.2.2.1];exact h4) (by rw [HX.out.2.2.2.1]) (by rw [HX.out.2.2.2.2.1]) HX.out.2.2.2.2.2.1 HX.out.2.2.2.2.2.2.1 HX.out.2.2.2.2.2.2.2.1;have hsub:=HLW.out.sub i ls.length (Nat.le_refl _) (by omega);have hsl:(ls.drop i).take (ls.length - i)=ls.drop i:=List.take_of_length_le (by rw [List.length_drop];exact Nat.le_refl _);rw [hsl]at hsub;have hla:=ct HX.out.1;have hcall:=zE hd11 (HW2.out hd11) hsub (by rw [List.length_drop];omega) (by rw [hla];exact hls.1);rw [hla,List.length_drop]at hcall;rw [List.length_drop]at hnx;obtain ⟨Q2,E2,hQE⟩:∃Q E,aJ am d (aj X.data.toList).1 (ls.drop i) (ls.length - i+1) 0 0=(Q,E):=⟨_,_,rfl⟩
          rw [hQE]at hcall hnx;simp only at hcall hnx;obtain ⟨LB,hLB⟩:∃x:List ak,(⟨4,d,(aj X.data.toList).2.1,((ls.drop i).take E2).all (fun x=> !af x),[],[(aj X.data.toList).1]⟩::Q2)=x:=⟨_,rfl⟩
          rw [hLB]at hcall hnx;have hstp:=HBP.out.step hd hlt hnx;have hn1:=hstp.1;have HPL:=zh hstp.2.1;have hob:=hstp.2.2;clear hstp;have hEb:=mq am d 28 (fun l=>Nat.le_trans (bQ (10 - d) (d+2) (by omega) l) (Nat.mul_le_mul_right _ (by omega))) (aj X.data.toList).1 (ls.drop i) (ls.length - i+1) 0 0 (Nat.le_refl _) (Nat.zero_le _);rw [hQE,List.length_drop]at hEb;have hE2:E2 <= ls.length - i:=hEb.2.1;have HC:=zh hcall;have k1:(i:Int) <= (ls.length:Int):=(by omega);have k3:((ls.length:Int) - (i:Int))=((ls.length - i:Nat):Int):=(by omega);have k4:¬cap=i:=(by have:=HLW.out.lc;omega);clear hls hnx hsub hsl hla hcall hQE hLB hEb;go_wp2_with fail;refine HC.out.mono ?_;rintro e w5 ⟨v5,rfl,hv5,b5⟩;have HO:=zh (cY HOW.out b5);have HB:=zh (aa HBW.out b5);obtain ⟨bao,bc,hbv,hbr,hbn,_⟩:=ac hv5;subst hbv;have HBR:=zh (And.intro hbr hbn);clear hv5 b5 hbr hbn HC
          go_wp2_with (first
           |(at_builtin;refine c6 w5 rfl _ _ 28 rfl w.heap.size 45 ib (.agg #[.int .i64 0,.int .i64 0,.int .i64 0,.bool false,.string ⟨#[]⟩,.string ⟨#[]⟩]) 6 64 Tryz.underlying28 hi hz0 hz1 hz2 rfl (by decide) _ _ _ rfl HO.out bao (LB).length bc ((LB).flatMap aL) rfl HBR.out.1 HBR.out.2 (jA _) (by simp only [List.length_append,List.length_cons,List.length_nil]at hob⊢;unfold maxLen;omega) (by simp only [List.length_append,List.length_cons,List.length_nil]at hob⊢;omega) HB.out.size ?_))
          intro v6 w6 hown6 hgrow;have hB6:=HB.out.grown hgrow HB.out.size (fun j hj=>(World.ownsRow.lt HO.out j hj).1);have HO4:=zh (tk hown6);have HB4:=zh hB6;clear hgrow hown6 hB6;go_wp2_with fail;refine ⟨mU.of _ _ rfl HO4.out HB4.out HPL.out ?_,?_⟩
          ·kernel_rfl
          ·simp [intOf];omega
        ·clear HFE HHE HRU HQU HLI HHT HFN HBL HIN;have hnx:=A4 (V:=am) (d:=d) HX.out.1 HX.out.2.1 (by rw [HX.out.2.2.1];exact h4) (by rw [HX.out.2.2.2.1]) (by rw [HX.out.2.2.2.2.1]) HX.out.2.2.2.2.2.1 HX.out.2.2.2.2.2.2.1;obtain ⟨L,hL⟩:∃L,az (ls.drop i)=L:=⟨_,rfl⟩
         rw [hL]at hnx;have hstp:=HBP.out.step hd hlt hnx;have hn1:=hstp.1;have HPL:=zh hstp.2.1;have hob:=hstp.2.2;clear hstp;have hd12:d<12:=by
          have:=HX.out.2.2.2.2.2.2.1;unfold bK at this;simp at this;exact this.2
         have hLT:tot L <= 1000000:=by
          rw [<- hL];exact Nat.le_trans (nz _) (Nat.le_trans (dN _ _) HLW.out.lt)
         have HL9:=zh (show∀s∈L,(9:UInt8)∉s by
          rw [<- hL];exact pP (fun s hs=>HLW.out.n9 s ((List.drop_sublist _ _).subset hs)))
         have HQL:=zh (show []++az (ls.drop i)=L by rw [hL];rfl);have HWQ:=zh (HW1.out hd12);have hLl:L.length <= ls.length:=by
          have:=fv (ls.drop i);rw [hL,List.length_drop]at this;omega
         have HIL:=zh (show i+L.length <= ls.length by
          have:=fv (ls.drop i);rw [hL,List.length_drop]at this;omega)
         clear hnx hL
         go_upto_block 7 with (fail)
         go_cut [6,17,18,19]from 171 to 196 (fun u6 u17 u18 u19 wc=>u6=.int .i64 ((i+L.length:Nat):Int)∧al w.heap.size wc u17 L∧aD w.heap.size wc u5 acc∧Below w.heap.size w wc)
         case first=>
          go_wp2_with fail;go_loopw [6,17] (fun u6 u17 wr=>∃(k:Nat) (l:List (List UInt8)),u6=.int .i64 (k:Int)∧i <= k∧k <= ls.length∧al w.heap.size wr u17 l∧aD w.heap.size wr u5 acc∧Below w.heap.size w wr∧Hid (l++az (ls.drop k)=L∧k=i+l.length)) (fun u6 _ _=>ls.length - (intOf u6).toNat)
          case atStart=>exact ⟨i,[],by go_num,Nat.le_refl _,by omega,World.ownsRow_nil _ _ _ _,HOW.out,HBW.out,zh ⟨HQL.out,rfl⟩⟩
          case round=>
           rename World=>wb
           obtain ⟨k,l,rfl,hk1,hk2,hs,ho,hb,HK⟩:=hrel;clear HQL;by_cases hk:k<ls.length
           ·have hkI:(k:Int)<(ls.length:Int):=(by omega);obtain ⟨XX,hx,hcl,hXXz,hXX9,_⟩:=(HLN.out.below hb).line k hk;have hqd:=kh XX d hXX9 hXXz (by omega);have hqu:=qe XX hXX9 hXXz;obtain ⟨Y,qb,hY⟩:∃Y b,bR XX.data.toList=(Y,b):=⟨_,_,rfl⟩
            obtain ⟨YB,hYB⟩:∃y:ByteArray,(⟨Y.toArray⟩:ByteArray)=y:=⟨_,rfl⟩
            have hYl:YB.data.toList=Y:=(by rw [<- hYB]);have hqb:bK d XX.data.toList=qb:=(by unfold bK;rw [hY,decide_eq_true hd12,Bool.and_true]);rw [hqb]at hqd;rw [hY]at hqu;simp only at hqu;rw [hYB]at hqu;have HQD:=zh hqd;have HQU:=zh hqu;have HXX:=zh (And.intro hx (And.intro hY hYl));have HS:=zh hs;have HO0:=zh ho;have HB0:=zh hb;clear hqd hqu hx hY hYB hYl hqb hs ho hb hXX9;cases qb
            ·have HKE:=zh (show l=L by
              have:=HK.out.1
              rwa [pO HXX.out.1 (by rw [HXX.out.2.1]),List.append_nil]at this)
             go_wp2_with fail;refine (HQD.out _).mono ?_;rintro e w' ⟨rfl,hw'⟩;obtain rfl:=hw'.symm;clear hw';go_wp2_with fail
             go_meet
             case rel=>exact ⟨by rw [HK.out.2,HKE.out],by rw [<- HKE.out];exact HS.out,HO0.out,HB0.out⟩
            ·have HK2:=zh (show (l++[Y])++az (ls.drop (k+1))=L∧k+1=i+(l++[Y]).length by
              have h1:=HK.out.1;rw [pN HXX.out.1 (by rw [HXX.out.2.1]),HXX.out.2.1]at h1;refine ⟨by rw [List.append_assoc];exact h1,by rw [List.length_append];have:=HK.out.2;simp;omega⟩)
             have hll2:l.length <= 1000000:=(by have:=HK.out.2;omega);go_wp2_with fail;refine (HQD.out _).mono ?_;rintro e w' ⟨rfl,hw'⟩;obtain rfl:=hw'.symm;clear hw';go_wp2_with fail;refine (HQU.out _).mono ?_;rintro e w' ⟨rfl,hw'⟩;obtain rfl:=hw'.symm;clear hw'
             go_wp2_with (first
              |(at_builtin;refine wpList_append_own _ rfl _ _ 22 rfl w.heap.size 9 is (.string ⟨#[]⟩) 1 16 Tryz.underlying22 hsi hs0 hs1 hs2 rfl (by decide) _ _ _ rfl (World.ownsRow.alloc HS.out _) ⟨wb.heap.size,0,none⟩ 1 1 [.string YB] rfl rfl (ar _ _ _ _ rfl) (fun u hu=>by simp at hu;rcases hu with rfl;rfl) (by unfold maxLen;omega) (by omega) (by have:=HB0.out.size;simp;omega) ?_))
             intro v4 w4 hown4 hgrow _;have hg1:=(World.grownBy_alloc wb (.cells #[.string YB] 9) u17.ownBlock).trans hgrow;have hO4:=al.snoc hown4 HXX.out.2.2;have hB4:=HB0.out.grown hg1 HB0.out.size (fun j hj=>(World.ownsRow.lt HS.out j hj).1);have hBo4:=qE HO0.out HS.out hg1;have H4:=zh (And.intro hO4 (And.intro hB4 hBo4));clear hgrow hg1 hO4 hB4 hown4 hBo4;go_wp2_with fail;go_roundw;case rel=>exact ⟨k+1,_,by go_num,by omega,by omega,H4.out.1,H4.out.2.2,H4.out.2.1,HK2⟩
             case measure=>simp [intOf];omega
           ·have hkI:¬(k:Int)<(ls.length:Int):=(by omega);have HKE:=zh (show l=L by
             have h1:=HK.out.1;have h2:k=ls.length:=(by omega);rw [h2,List.drop_length]at h1;simpa [az]using h1)
            have HS:=zh hs;have HO0:=zh ho;have HB0:=zh hb;clear hs ho hb;go_wp2_with fail
            go_meet
            case rel=>exact ⟨by rw [HK.out.2,HKE.out],by rw [<- HKE.out];exact HS.out,HO0.out,HB0.out⟩
         case rest=>
          rename World=>wb
          obtain ⟨rfl,hs,ho,hb⟩:=hcut;have HS:=zh hs;have HO:=zh ho;have HB:=zh hb;clear hs ho hb HQL HOW HBW
          go_wp2_with (first
           |(at_builtin;refine wpList_append_own _ rfl _ _ 28 rfl w.heap.size 45 ib (.agg #[.int .i64 0,.int .i64 0,.int .i64 0,.bool false,.string ⟨#[]⟩,.string ⟨#[]⟩]) 6 64 Tryz.underlying28 hi hz0 hz1 hz2 rfl (by decide) _ _ _ rfl (World.ownsRow.alloc HO.out _) ⟨(wb).heap.size,0,none⟩ 1 1 [.int .i64 3,.int .i64 (d:Int),.int .i64 0,.bool false,.string ⟨#[]⟩,.string ⟨#[]⟩] rfl rfl (ar _ _ _ _ rfl) (fun u hu=>by simp only [List.mem_cons,List.not_mem_nil,or_false]at hu;rcases hu with rfl|rfl|rfl|rfl|rfl|rfl<;>rfl) (by unfold maxLen;omega) (by omega) (by have:=HB.out.size;simp;omega) ?_))
          intro v4 w4 hown4 hgrow _;have hg1:=(World.grownBy_alloc _ _ _).trans hgrow;have hO4:=dA (p:=⟨3,d,0,false,[],[]⟩) hown4 rfl;have hB4:=HB.out.grown hg1 HB.out.size (fun j hj=>(World.ownsRow.lt HO.out j hj).1);have HO4:=zh hO4;have HB4:=zh hB4;have HG4:=zh hgrow;clear hgrow hg1 hO4 hB4 hown4;have hI4:=nC HS.out HO.out ((World.grownBy_alloc _ _ _).trans HG4.out);obtain ⟨iao,ic,hiv,hil⟩:=nD hI4 hLT HL9.out;subst hiv;obtain ⟨ACC,hACC⟩:∃l,acc++[(⟨3,d,0,false,[],[]⟩:ak)]=l:=⟨_,rfl⟩
          rw [hACC]at HO4;have hal2:ACC.length <= acc.length+1:=(by rw [<- hACC,List.length_append];exact Nat.le_refl _);have HACC:=zh hACC;clear hACC;have hcall:=HWQ.out w4 iao ic L hil;rw [show (((d+1:Nat)):Int)=(d:Int)+1 by omega]at hcall;have HC:=zh hcall;clear hI4 hil hcall HO HB HG4 HS;go_wp2_with fail;refine HC.out.mono ?_;rintro e w5 ⟨v5,rfl,hv5,b5⟩;have HO:=zh (cY HO4.out b5);have HB:=zh (aa HB4.out b5);obtain ⟨bao,bc,hbv,hbr,hbn,_⟩:=ac hv5;subst hbv;have HBR:=zh (And.intro hbr hbn);clear hv5 b5 hbr hbn HO4 HB4 HC
          go_wp2_with (first
           |(at_builtin;refine c6 w5 rfl _ _ 28 rfl w.heap.size 45 ib (.agg #[.int .i64 0,.int .i64 0,.int .i64 0,.bool false,.string ⟨#[]⟩,.string ⟨#[]⟩]) 6 64 Tryz.underlying28 hi hz0 hz1 hz2 rfl (by decide) _ _ _ rfl HO.out bao (am (d+1) L).length bc ((am (d+1) L).flatMap aL) rfl HBR.out.1 HBR.out.2 (jA _) (by simp only [List.length_append,List.length_cons,List.length_nil]at hob⊢;unfold maxLen;omega) (by simp only [List.length_append,List.length_cons,List.length_nil]at hob⊢;omega) HB.out.size ?_))
          intro v6 w6 hown6 hgrow;have hB6:=HB.out.grown hgrow HB.out.size (fun j hj=>(World.ownsRow.lt HO.out j hj).1);have HO4:=zh (tk hown6);have HB4:=zh hB6;clear hgrow hown6 hB6;have HPL2:=zh (show oD ls d (am d ls) (i+L.length) (ACC++am (d+1) L) by
           rw [<- HACC.out,List.append_assoc];exact HPL.out)
          have HPL:=HPL2;go_wp2_with fail;refine ⟨mU.of _ _ rfl HO4.out HB4.out HPL.out ?_,?_⟩
          ·kernel_rfl
          ·simp [intOf];omega
       ·have hnx:=CA (V:=am) (d:=d) HX.out.1 HX.out.2.1 (by rw [HX.out.2.2.1];exact h4) (by rw [HX.out.2.2.2.1]) (by rw [HX.out.2.2.2.2.1]) HX.out.2.2.2.2.2.1;have hstp:=HBP.out.step hd hlt hnx;have hn1:=hstp.1;have HPL:=zh hstp.2.1;have hob:=hstp.2.2;clear hstp;have HO:=HOW;have HB:=HBW;clear hnx HFE HHE HRU HQU HLI HHT HFN HBL HIN
        go_wp2_with (first
         |(at_builtin;refine wpList_append_own _ rfl _ _ 28 rfl w.heap.size 45 ib (.agg #[.int .i64 0,.int .i64 0,.int .i64 0,.bool false,.string ⟨#[]⟩,.string ⟨#[]⟩]) 6 64 Tryz.underlying28 hi hz0 hz1 hz2 rfl (by decide) _ _ _ rfl (World.ownsRow.alloc HO.out _) ⟨(wx).heap.size,0,none⟩ 1 1 [.int .i64 7,.int .i64 (d:Int),.int .i64 0,.bool false,.string ⟨#[]⟩,.string ⟨#[]⟩] rfl rfl (ar _ _ _ _ rfl) (fun u hu=>by simp only [List.mem_cons,List.not_mem_nil,or_false]at hu;rcases hu with rfl|rfl|rfl|rfl|rfl|rfl<;>rfl) (by unfold maxLen;omega) (by omega) (by have:=HB.out.size;simp;omega) ?_))
        intro v4 w4 hown4 hgrow _;have hg1:=(World.grownBy_alloc _ _ _).trans hgrow;have hO4:=dA (p:=⟨7,d,0,false,[],[]⟩) hown4 rfl;have hB4:=HB.out.grown hg1 HB.out.size (fun j hj=>(World.ownsRow.lt HO.out j hj).1);have HO4:=zh hO4;have HB4:=zh hB4;have HG4:=zh hgrow;clear hgrow hg1 hO4 hB4 hown4;go_wp2_with fail;refine ⟨mU.of _ _ rfl HO4.out HB4.out HPL.out ?_,?_⟩
        ·kernel_rfl
        ·simp [intOf];omega
      ·have hnx:=Cw (V:=am) (d:=d) HX.out.1 HX.out.2.1 (by rw [HX.out.2.2.1];exact h4) (by rw [HX.out.2.2.2.1]) HX.out.2.2.2.2.1;have hstp:=HBP.out.step hd hlt hnx;have hn1:=hstp.1;have HPL:=zh hstp.2.1;have hob:=hstp.2.2;clear hstp;have HO:=HOW;have HB:=HBW;clear hnx HFE HHE HRU HQU HLI HHT HFN HBL HIN
       go_wp2_with (first
        |(at_builtin;refine wpList_append_own _ rfl _ _ 28 rfl w.heap.size 45 ib (.agg #[.int .i64 0,.int .i64 0,.int .i64 0,.bool false,.string ⟨#[]⟩,.string ⟨#[]⟩]) 6 64 Tryz.underlying28 hi hz0 hz1 hz2 rfl (by decide) _ _ _ rfl (World.ownsRow.alloc HO.out _) ⟨(wx).heap.size,0,none⟩ 1 1 [.int .i64 2,.int .i64 (d:Int),.int .i64 (hn:Int),.bool false,.string HT,.string ⟨#[]⟩] rfl rfl (ar _ _ _ _ rfl) (fun u hu=>by simp only [List.mem_cons,List.not_mem_nil,or_false]at hu;rcases hu with rfl|rfl|rfl|rfl|rfl|rfl<;>rfl) (by unfold maxLen;omega) (by omega) (by have:=HB.out.size;simp;omega) ?_))
       intro v4 w4 hown4 hgrow _;have hg1:=(World.grownBy_alloc _ _ _).trans hgrow;have hO4:=dA (p:=⟨2,d,hn,false,HT.data.toList,[]⟩) hown4 (by unfold aL;rw [Lib.mk_data];rfl);have hB4:=HB.out.grown hg1 HB.out.size (fun j hj=>(World.ownsRow.lt HO.out j hj).1);have HO4:=zh hO4;have HB4:=zh hB4;have HG4:=zh hgrow;clear hgrow hg1 hO4 hB4 hown4;go_wp2_with fail;refine ⟨mU.of _ _ rfl HO4.out HB4.out HPL.out ?_,?_⟩
       ·kernel_rfl
       ·simp [intOf];omega
     ·have hfn:fn <= 1000000000:=(by have:=HFN.out rfl;omega);clear HFE HHE HRU HQU HLI HHT HFN HBL;obtain ⟨T,hT⟩:∃T,((ls.drop (i+1)).takeWhile fun x=> !bO x fc fn).length=T:=⟨_,rfl⟩
      have hnx:=A3 (V:=am) (d:=d) HX.out.1 HX.out.2.1 (by rw [HX.out.2.2.1];exact h4) HX.out.2.2.2.1;rw [hT]at hnx;have hstp:=HBP.out.step hd hlt hnx;have hn1:=hstp.1;have HPL:=zh hstp.2.1;have hob:=hstp.2.2;clear hstp;have HT:=zh (show i+1+((ls.drop (i+1)).takeWhile fun x=> !bO x fc fn).length=i+1+T by rw [hT]);have hTl:i+1+T <= ls.length:=by
       have:=ve (fun x=> !bO x fc fn) (ls.drop (i+1));rw [List.length_drop]at this;omega
      clear hnx hT
      go_upto_block 5 with (fail)
      obtain ⟨J,hJ⟩:∃J,i+1+T=J:=⟨_,rfl⟩
      rw [hJ]at HT hTl;go_cut [6]from 114 to 129 (fun u6 wc=>u6=.int .i64 (J:Int)∧wc=wx)
      case first=>
       go_wp2_with fail;go_loop [6] (fun u6=>∃k:Nat,u6=.int .i64 (k:Int)∧i+1 <= k∧k <= ls.length∧Hid (k+((ls.drop k).takeWhile fun x=> !bO x fc fn).length=J)) (fun u6=>ls.length - (intOf u6).toNat)
       case atStart=>exact ⟨i+1,by go_num,Nat.le_refl _,by omega,HT⟩
       case round=>
        obtain ⟨k,rfl,hk1,hk2,HK⟩:=hrel;clear HT;by_cases hk:k<ls.length
        ·have hkI:(k:Int)<(ls.length:Int):=(by omega);obtain ⟨XX,hx,hcl,hXXz,hXX9,_⟩:=HLW.out.line k hk;have hcs:=vh XX fc fn hXX9 hXXz hfn;obtain ⟨cv,hcv⟩:∃b,bO XX.data.toList fc fn=b:=⟨_,rfl⟩
         rw [hcv]at hcs;have HCS:=zh hcs;have HXX:=zh (And.intro hx hcv);clear hcs hcv hx hXX9;cases cv
         ·have HK2:=zh (show k+1+((ls.drop (k+1)).takeWhile fun x=> !bO x fc fn).length=J by
           have:=HK.out;rw [DP HXX.out.1 (by rw [HXX.out.2];rfl)]at this;omega)
          go_wp2_with fail;refine (HCS.out _).mono ?_;rintro e w' ⟨rfl,hw'⟩;obtain rfl:=hw'.symm;clear hw';go_wp2_with fail;go_round;case rel=>exact ⟨k+1,by go_num,by omega,by omega,HK2⟩
          case measure=>simp [intOf];omega
         ·have HKT:=zh (show k=J by
           have:=HK.out;rw [CN HXX.out.1 (by rw [HXX.out.2];rfl)]at this;omega)
          go_wp2_with fail;refine (HCS.out _).mono ?_;rintro e w' ⟨rfl,hw'⟩;obtain rfl:=hw'.symm;clear hw';go_wp2_with fail
          go_meet
          case rel=>exact ⟨by rw [HKT.out],rfl⟩
        ·have hkI:¬(k:Int)<(ls.length:Int):=(by omega);have HKT:=zh (show k=J by
          have h1:=HK.out;have h2:k=ls.length:=(by omega);rw [h2,Dl]at h1;omega)
         go_wp2_with fail
         go_meet
         case rel=>exact ⟨by rw [HKT.out],rfl⟩
      case rest=>
       obtain ⟨rfl,hwc⟩:=hcut;obtain rfl:=hwc.symm;clear hwc HT;have hLD:=HLW.out.below (Below.refl _ wx).drew;have hsub:=hLD.sub (i+1) J (by omega) (by omega);have k1:(J:Int) <= (cap:Int):=(by have:=HLW.out.lc;omega);have k2:(i:Int)+1 <= (J:Int):=(by omega);have k0:(0:Int) <= (i:Int)+1:=(by omega);have hwr:IntKind.i64.wrap ((i:Int)+1)=(i:Int)+1:=IntWalk.i64_in _ (by omega);have HTJ:=zh (show J - (i+1)=T by omega);have HJT:=zh hJ;have hlen:((ls.drop (i+1)).take (J - (i+1))).length=J - (i+1):=(by rw [List.length_take,List.length_drop];omega);obtain ⟨SB,hSB⟩:∃S:ByteArray,(⟨(bI (((ls.drop (i+1)).take (J - (i+1))).map (aO · I))).toArray⟩:ByteArray)=S:=⟨_,rfl⟩
       have HSB:=zh hSB;by_cases hcap:cap=i+1
       ·have hnil:(ls.drop (i+1)).take (J - (i+1))=[]:=List.eq_nil_of_length_eq_zero (by have:=HLW.out.lc;omega);have hstr:=gZ (w:=wx.drew) (ao:=some ⟨g,o,none⟩) (cap:=0) (l:=(ls.drop (i+1)).take (J - (i+1))) I (by rw [hnil];exact ⟨bU.nil _ _ (fun a ha=>by obtain rfl:=Option.some.inj ha;rfl),Nat.le_refl _,by simp [tot],fun s hs=>by cases hs⟩) (by omega);rw [hlen,hSB]at hstr;have HSTR:=zh hstr;have k3:(J:Int) <= (i:Int)+1:=(by omega);subst hcap;clear hsub hlen hstr hSB hJ hLD hnil;go_wp2_with fail;refine aH (S:=fun j W'=>(([]:List Nat).contains j=true) ->True) (by kernel_rfl) ?_;refine aZ 0 130 ?_;simp only [List.set];refine aZ 1 131 ?_;simp only [List.set];refine aZ 2 132 ?_;simp only [List.set];refine aZ 3 133 ?_;simp only [List.set];refine aZ 4 134 ?_;simp only [List.set];refine aZ 5 135 ?_;simp only [List.set];refine aZ 6 136 ?_;simp only [List.set];refine aZ 7 137 ?_;simp only [List.set];refine aZ 8 138 ?_;simp only [List.set];refine ae (i:=9) (by kernel_rfl) rfl (fun K' hK=>?_);have HKK:=zh hK;clear hK;go_simp
        refine (HIN.out _).mono ?_;rintro e w2 ⟨rfl,hw2⟩;obtain rfl:=hw2.symm;go_wp2_with fail;refine HKK.out _ _ ⟨fun _=>trivial,?_⟩;clear HKK K';try simp only [Act.put,List.setIfInBounds_toArray,List.set_cons_zero,List.set_cons_succ,List.getElem_toArray,List.getElem_cons_zero,List.getElem_cons_succ]
        refine ae (i:=10) (by kernel_rfl) rfl (fun K' hK=>?_);have HKK:=zh hK;clear hK;go_simp
        refine HSTR.out.mono ?_;rintro e w3 ⟨rfl,b3⟩;have HO:=zh (cY HOW.out ((Below.refl _ _).drew.trans b3));have HB:=zh (aa HBW.out ((Below.refl _ _).drew.trans b3));clear b3 HSTR;go_wp2_with fail;refine HKK.out _ _ ⟨fun _=>trivial,?_⟩;clear HKK K';try simp only [Act.put,List.setIfInBounds_toArray,List.set_cons_zero,List.set_cons_succ,List.getElem_toArray,List.getElem_cons_zero,List.getElem_cons_succ]
        refine aZ 11 141 ?_;simp only [List.set];refine ae (i:=12) (by kernel_rfl) rfl (fun K' hK=>?_);have HKK:=zh hK;clear hK;go_simp
        refine HKK.out _ _ ⟨fun _=>trivial,?_⟩;clear HKK K';try simp only [Act.put,List.setIfInBounds_toArray,List.set_cons_zero,List.set_cons_succ,List.getElem_toArray,List.getElem_cons_zero,List.getElem_cons_succ]
        have hra:=vn w3 [.int .i64 6,.int .i64 (d:Int),.int .i64 0,.bool false,.string SB,.string FI] 45 6 1 w3.heap.size rfl rfl;have hoa:=World.ownsRow.alloc HO.out (.cells #[.int .i64 6,.int .i64 (d:Int),.int .i64 0,.bool false,.string SB,.string FI] 45);have hba:=HB.out.alloc HB.out.size (.cells #[.int .i64 6,.int .i64 (d:Int),.int .i64 0,.bool false,.string SB,.string FI] 45);obtain ⟨wa,hwa⟩:∃x,w3.alloc (.cells #[.int .i64 6,.int .i64 (d:Int),.int .i64 0,.bool false,.string SB,.string FI] 45)=x:=⟨_,rfl⟩
        have hra2:bL wa 6 (some ⟨w3.heap.size,0,none⟩) 1 [.int .i64 6,.int .i64 (d:Int),.int .i64 0,.bool false,.string SB,.string FI]:=(by rw [<- hwa];exact hra);rw [hwa]at hoa hba⊢;have HRA:=zh hra2;have HOA:=zh (show aD w.heap.size wa u5 acc from hoa);have HBA:=zh hba;clear hra hra2 hoa hba hwa;refine ae (i:=13) (by kernel_rfl) rfl (fun K' hK=>?_);have HKK:=zh hK;clear hK;refine cf wa rfl (.tmp 130) (.tmp 142) 28 rfl w.heap.size 45 ib (.agg #[.int .i64 0,.int .i64 0,.int .i64 0,.bool false,.string ⟨#[]⟩,.string ⟨#[]⟩]) 6 64 Tryz.underlying28 hi hz0 hz1 hz2 rfl (by decide) u5 acc.length (acc.flatMap aL) rfl HOA.out (some ⟨w3.heap.size,0,none⟩) 1 1 [.int .i64 6,.int .i64 (d:Int),.int .i64 0,.bool false,.string SB,.string FI] rfl HRA.out (fun h=>by cases h) (fun u hu=>by simp only [List.mem_cons,List.not_mem_nil,or_false]at hu;rcases hu with rfl|rfl|rfl|rfl|rfl|rfl<;>rfl) (by unfold maxLen;omega) (by omega) HBA.out.size ?_;intro v4 w4 hown4 hgrow _;have hO4:=dA (p:=eC d FI.data.toList ((ls.drop (i+1)).take T) I) hown4 (by rw [<- HSB.out,HTJ.out];exact qH d FI _ I);have hB4:=HBA.out.grown hgrow HBA.out.size (fun j hj=>(World.ownsRow.lt HOA.out j hj).1);have HO4:=zh hO4;have HB4:=zh hB4;clear hgrow hO4 hB4 hown4;refine HKK.out _ _ ⟨fun _=>trivial,?_⟩;clear HKK K';try simp only [Act.put,List.setIfInBounds_toArray,List.set_cons_zero,List.set_cons_succ,List.getElem_toArray,List.getElem_cons_zero,List.getElem_cons_succ]
        refine aZ 14 5 ?_;simp only [List.set];refine aG (by kernel_rfl) ?_ _;have HPL2:=zh (show oD ls d (am d ls) (J+1) (acc++[eC d FI.data.toList ((ls.drop (i+1)).take T) I]) by
         have h1:=HPL.out;rw [HX.out.2.2.1,show i+(T+2)=J+1 by have:=HJT.out;omega]at h1;exact h1)
        have HPL:=HPL2;go_wp2_with fail;refine ⟨mU.of _ _ rfl HO4.out HB4.out HPL.out ?_,?_⟩
        ·kernel_rfl
        ·simp [intOf];omega
       ·have hstr:=gZ I hsub (by omega);rw [hlen,hSB]at hstr;have HSTR:=zh hstr;have hcI:¬(cap:Int)=(i:Int)+1:=(by omega);clear hsub hlen hstr hSB hJ hLD;go_wp2_with fail;refine aH (S:=fun j W'=>(([]:List Nat).contains j=true) ->True) (by kernel_rfl) ?_;refine aZ 0 130 ?_;simp only [List.set];refine aZ 1 131 ?_;simp only [List.set];refine aZ 2 132 ?_;simp only [List.set];refine aZ 3 133 ?_;simp only [List.set];refine aZ 4 134 ?_;simp only [List.set];refine aZ 5 135 ?_;simp only [List.set];refine aZ 6 136 ?_;simp only [List.set];refine aZ 7 137 ?_;simp only [List.set];refine aZ 8 138 ?_;simp only [List.set];refine ae (i:=9) (by kernel_rfl) rfl (fun K' hK=>?_);have HKK:=zh hK;clear hK;go_simp
        refine (HIN.out _).mono ?_;rintro e w2 ⟨rfl,hw2⟩;obtain rfl:=hw2.symm;go_wp2_with fail;refine HKK.out _ _ ⟨fun _=>trivial,?_⟩;clear HKK K';try simp only [Act.put,List.setIfInBounds_toArray,List.set_cons_zero,List.set_cons_succ,List.getElem_toArray,List.getElem_cons_zero,List.getElem_cons_succ]
        refine ae (i:=10) (by kernel_rfl) rfl (fun K' hK=>?_);have HKK:=zh hK;clear hK;go_simp
        refine HSTR.out.mono ?_;rintro e w3 ⟨rfl,b3⟩;have HO:=zh (cY HOW.out ((Below.refl _ _).drew.trans b3));have HB:=zh (aa HBW.out ((Below.refl _ _).drew.trans b3));clear b3 HSTR;go_wp2_with fail;refine HKK.out _ _ ⟨fun _=>trivial,?_⟩;clear HKK K';try simp only [Act.put,List.setIfInBounds_toArray,List.set_cons_zero,List.set_cons_succ,List.getElem_toArray,List.getElem_cons_zero,List.getElem_cons_succ]
        refine aZ 11 141 ?_;simp only [List.set];refine ae (i:=12) (by kernel_rfl) rfl (fun K' hK=>?_);have HKK:=zh hK;clear hK;go_simp
        refine HKK.out _ _ ⟨fun _=>trivial,?_⟩;clear HKK K';try simp only [Act.put,List.setIfInBounds_toArray,List.set_cons_zero,List.set_cons_succ,List.getElem_toArray,List.getElem_cons_zero,List.getElem_cons_succ]
        have hra:=vn w3 [.int .i64 6,.int .i64 (d:Int),.int .i64 0,.bool false,.string SB,.string FI] 45 6 1 w3.heap.size rfl rfl;have hoa:=World.ownsRow.alloc HO.out (.cells #[.int .i64 6,.int .i64 (d:Int),.int .i64 0,.bool false,.string SB,.string FI] 45);have hba:=HB.out.alloc HB.out.size (.cells #[.int .i64 6,.int .i64 (d:Int),.int .i64 0,.bool false,.string SB,.string FI] 45);obtain ⟨wa,hwa⟩:∃x,w3.alloc (.cells #[.int .i64 6,.int .i64 (d:Int),.int .i64 0,.bool false,.string SB,.string FI] 45)=x:=⟨_,rfl⟩
        have hra2:bL wa 6 (some ⟨w3.heap.size,0,none⟩) 1 [.int .i64 6,.int .i64 (d:Int),.int .i64 0,.bool false,.string SB,.string FI]:=(by rw [<- hwa];exact hra);rw [hwa]at hoa hba⊢;have HRA:=zh hra2;have HOA:=zh (show aD w.heap.size wa u5 acc from hoa);have HBA:=zh hba;clear hra hra2 hoa hba hwa;refine ae (i:=13) (by kernel_rfl) rfl (fun K' hK=>?_);have HKK:=zh hK;clear hK;refine cf wa rfl (.tmp 130) (.tmp 142) 28 rfl w.heap.size 45 ib (.agg #[.int .i64 0,.int .i64 0,.int .i64 0,.bool false,.string ⟨#[]⟩,.string ⟨#[]⟩]) 6 64 Tryz.underlying28 hi hz0 hz1 hz2 rfl (by decide) u5 acc.length (acc.flatMap aL) rfl HOA.out (some ⟨w3.heap.size,0,none⟩) 1 1 [.int .i64 6,.int .i64 (d:Int),.int .i64 0,.bool false,.string SB,.string FI] rfl HRA.out (fun h=>by cases h) (fun u hu=>by simp only [List.mem_cons,List.not_mem_nil,or_false]at hu;rcases hu with rfl|rfl|rfl|rfl|rfl|rfl<;>rfl) (by unfold maxLen;omega) (by omega) HBA.out.size ?_;intro v4 w4 hown4 hgrow _;have hO4:=dA (p:=eC d FI.data.toList ((ls.drop (i+1)).take T) I) hown4 (by rw [<- HSB.out,HTJ.out];exact qH d FI _ I);have hB4:=HBA.out.grown hgrow HBA.out.size (fun j hj=>(World.ownsRow.lt HOA.out j hj).1);have HO4:=zh hO4;have HB4:=zh hB4;clear hgrow hO4 hB4 hown4;refine HKK.out _ _ ⟨fun _=>trivial,?_⟩;clear HKK K';try simp only [Act.put,List.setIfInBounds_toArray,List.set_cons_zero,List.set_cons_succ,List.getElem_toArray,List.getElem_cons_zero,List.getElem_cons_succ]
        refine aZ 14 5 ?_;simp only [List.set];refine aG (by kernel_rfl) ?_ _;have HPL2:=zh (show oD ls d (am d ls) (J+1) (acc++[eC d FI.data.toList ((ls.drop (i+1)).take T) I]) by
         have h1:=HPL.out;rw [HX.out.2.2.1,show i+(T+2)=J+1 by have:=HJT.out;omega]at h1;exact h1)
        have HPL:=HPL2;go_wp2_with fail;refine ⟨mU.of _ _ rfl HO4.out HB4.out HPL.out ?_,?_⟩
        ·kernel_rfl
        ·simp [intOf];omega
   ·have hnx:=uq (V:=am) (d:=d) HX.out.1 HX.out.2.1;have hstp:=HBP.out.step hd hlt hnx;have hn1:=hstp.1;have HPL:=zh hstp.2.1;have hob:=hstp.2.2;clear hstp;have HPL2:=zh (show oD ls d (am d ls) (i+1) acc by have:=HPL.out;rwa [List.append_nil]at this);have HPL:=HPL2;have HO4:=HOW;have HB4:=HBW;clear hnx HFE HHE HRU HQU HLI HHT HFN HBL HIN;go_wp2_with fail;refine ⟨mU.of _ _ rfl HO4.out HB4.out HPL.out ?_,?_⟩
    ·kernel_rfl
    ·simp [intOf];omega
  ·have hltI:¬(i:Int)<(ls.length:Int):=(by omega);have HE:=zh (HBP.out.stop (by omega));clear hbw;go_wp2_with fail;go_ret;exact ⟨u5,rfl,by rw [<- HE.out];exact HOW.out,HBW.out⟩
theorem kf:∀n d,d+n=12 ->vr d
 |n,d,h=>by
  have w1:d<12 ->vr (d+1):=fun hd=>kf (n - 1) (d+1) (by omega);have w2:d<11 ->vr (d+2):=fun hd=>kf (n - 2) (d+2) (by omega);exact sX (by omega) w1 w2
 termination_by n=>n
end Go.Proofs.YtcannffahjbjnaaGreatDoor
