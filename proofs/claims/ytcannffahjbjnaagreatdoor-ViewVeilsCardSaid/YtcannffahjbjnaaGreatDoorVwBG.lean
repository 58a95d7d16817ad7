import Derived.Deep.LoopGhost
import Derived.Test.YtcannffahjbjnaaGreatDoorVwBF
import Derived.Shelf.Strings.SlTrimAscii
set_option linter.unusedVariables false
set_option linter.unusedSimpArgs false
set_option maxRecDepth 100000
set_option maxHeartbeats 64000000
namespace Go.Proofs.YtcannffahjbjnaaGreatDoor
open Go.RowKit
theorem eS (s:ByteArray) (i:Int) (n:Nat) (hn:i=n) (w:World) (hs:s.size <= 1000000000):
  Calls Tryz.prog 202 #[.string s,.int .i64 i] w fun e w'=>e=.returned (.bool (decide (s.data.toList[n]? =some 0)))∧w'=w:=by
 subst hn;by_cases h:n<s.size
 ·obtain ⟨c,hc⟩:∃c,s[n]=c:=⟨_,rfl⟩
  have hd:s.data.toList[n]? =some c:=(by rw [<- hc];exact Lib.data_getElem? s n h);rw [hd];have HR:=zh (show (some c=some 0)=((c.toNat:Int)=0)from propext (by
   constructor
   ·intro h;cases h;rfl
   ·intro h;congr 1;exact UInt8.toNat.inj (by simpa using h)))
  clear hd;have h':(n:Int)<(s.size:Int):=(by omega);go_enter Tryz.func202,Tryz.ntmps202
  go_wp2_with fail;go_ret;refine ⟨eB ?_,rfl⟩;rw [Bool.eq_iff_iff];simp only [decide_eq_true_eq,beq_iff_eq];rw [HR.out]
 ·have hd:s.data.toList[n]? =none:=(by rw [List.getElem?_eq_none];simp;omega);rw [hd];have h':¬(n:Int)<(s.size:Int):=(by omega);go_enter Tryz.func202,Tryz.ntmps202
  go_wp2_with fail;go_ret;exact ⟨rfl,rfl⟩
def eN (s:ByteArray) (e:UInt8) (bad:UInt8 ->Bool) (i:Nat) (R:Option Nat):Prop:=∃f,dU e bad f (s.data.toList.drop i) i=R∧s.size <= i+f
theorem gW {s:ByteArray} {e:UInt8} {bad:UInt8 ->Bool} {i:Nat} {R:Option Nat} (h:eN s e bad i R) (hi:i<s.size) (hc:s[i]=92) (hz:s.data.toList[i+1]? =some 0):R=none:=by
 obtain ⟨f,h,hf⟩:=h;obtain ⟨f,rfl⟩:∃g,f=g+1:=⟨f - 1,by omega⟩
 rw [cZ s i hi,hc]at h;unfold dU at h;rw [if_pos rfl,if_pos (by rw [List.head?_drop];exact hz)]at h;exact h.symm
theorem gX {s:ByteArray} {e:UInt8} {bad:UInt8 ->Bool} {i:Nat} {R:Option Nat} (h:eN s e bad i R) (hi:i<s.size) (hc:s[i]=92) (hz:s.data.toList[i+1]? ≠some 0):eN s e bad (i+2) R:=by
 obtain ⟨f,h,hf⟩:=h;obtain ⟨f,rfl⟩:∃g,f=g+1:=⟨f - 1,by omega⟩
 rw [cZ s i hi,hc]at h;unfold dU at h;rw [if_pos rfl,if_neg (by rw [List.head?_drop];exact hz),List.drop_drop]at h;exact ⟨f,h,by omega⟩
theorem lh {s:ByteArray} {e:UInt8} {bad:UInt8 ->Bool} {i:Nat} {R:Option Nat} (h:eN s e bad i R) (hi:i<s.size) (hc:s[i]=e) (he:e≠92):R=some i:=by
 obtain ⟨f,h,hf⟩:=h;obtain ⟨f,rfl⟩:∃g,f=g+1:=⟨f - 1,by omega⟩
 rw [cZ s i hi,hc]at h;unfold dU at h;rw [if_neg he,if_pos rfl]at h;exact h.symm
theorem eJ {s:ByteArray} {e c:UInt8} {bad:UInt8 ->Bool} {i:Nat} {R:Option Nat} (h:eN s e bad i R) (hi:i<s.size) (hc:s[i]=c) (h92:c≠92) (he:c≠e) (hb:bad c=true∨c=0):R=none:=by
 obtain ⟨f,h,hf⟩:=h;obtain ⟨f,rfl⟩:∃g,f=g+1:=⟨f - 1,by omega⟩
 rw [cZ s i hi,hc]at h;unfold dU at h;rw [if_neg h92,if_neg he,if_pos hb]at h;exact h.symm
theorem gu {s:ByteArray} {e c:UInt8} {bad:UInt8 ->Bool} {i:Nat} {R:Option Nat} (h:eN s e bad i R) (hi:i<s.size) (hc:s[i]=c) (h92:c≠92) (he:c≠e) (hb:¬(bad c=true∨c=0)):eN s e bad (i+1) R:=by
 obtain ⟨f,h,hf⟩:=h;obtain ⟨f,rfl⟩:∃g,f=g+1:=⟨f - 1,by omega⟩
 rw [cZ s i hi,hc]at h;unfold dU at h;rw [if_neg h92,if_neg he,if_neg hb]at h;exact ⟨f,h,by omega⟩
theorem lf {s:ByteArray} {e:UInt8} {bad:UInt8 ->Bool} {i:Nat} {R:Option Nat} (h:eN s e bad i R) (hi:¬i<s.size):R=none:=by
 obtain ⟨f,h,hf⟩:=h;rw [ee s i (by omega)]at h;cases f<;>exact h.symm
def iV (c:UInt8):Bool:=c==60||c==10
theorem eb {c:UInt8} {n:Nat} (hn:n<256) (h:c.toNat≠n):c≠UInt8.ofNat n:=fun e=>h (by rw [e,UInt8.toNat_ofNat'];omega)
theorem dN {c:UInt8} {n:Nat} (h:c.toNat=n):c=UInt8.ofNat n:=by rw [<- h];simp
theorem tN {l:List UInt8} {i:Nat} (h:dU 62 iV l.length (l.drop 1) 1=some i):gz l=(gK (l.take i).tail,i+1,true):=by
 unfold gz;rw [show (fun c:UInt8=>c==60||c==10)=iV from rfl,h];simp only [List.drop_one]
theorem fQ {l:List UInt8} (h:dU 62 iV l.length (l.drop 1) 1=none):gz l=([],0,false):=by
 unfold gz;rw [show (fun c:UInt8=>c==60||c==10)=iV from rfl,h]
theorem mO (s:ByteArray) (i:Nat):(s.extract 1 i).data.toList=(s.data.toList.take i).tail:=by
 rw [Lib.extract_data,<- List.drop_take,List.drop_one]
theorem vV (s:ByteArray) (w:World) (hE:lx w) (hz:s.size <= 1000000000):
  Calls Tryz.prog 200 #[.string s] w fun e w'=>e=.returned (.tuple #[.string ⟨(gz s.data.toList).1.toArray⟩,.int .i64 (gz s.data.toList).2.1,.bool (gz s.data.toList).2.2])∧Below w.heap.size w w':=by
 obtain ⟨R,hR⟩:∃R,dU 62 iV s.data.toList.length (s.data.toList.drop 1) 1=R:=⟨_,rfl⟩
 have h0:eN s 62 iV 1 R:=⟨_,hR,by rw [Lib.size_eq];omega⟩
 have HR:=zh hR;clear hR;go_enter Tryz.func200,Tryz.ntmps200
 go_wp2_with fail;go_loop [5] (fun u5=>∃i:Nat,1 <= i∧i <= 1000000002∧u5=.int .i64 i∧eN s 62 iV i R) (fun u5=>s.size - (intOf u5).toNat)
 case atStart=>exact ⟨1,by omega,by omega,rfl,h0⟩
 case round=>
  obtain ⟨i,hi1,hi2,rfl,hsc⟩:=hrel;by_cases hlt:i<s.size
  ·obtain ⟨c,hc⟩:∃c,s[i]=c:=⟨_,rfl⟩
   have HSC:=zh hsc;have HC:=zh hc;clear hsc;by_cases c1:c.toNat=92
   ·have ht:((c.toNat:Int)==92)=true:=(by simp;omega);have hc92:c=92:=dN c1;have hzC:∀W,Calls Tryz.prog 202 #[.string s,.int .i64 ((i:Int)+1)] W fun e w'=>e=.returned (.bool (decide (s.data.toList[i+1]? =some 0)))∧w'=W:=fun W=>eS s _ (i+1) (by omega) W hz;by_cases hzz:s.data.toList[i+1]? =some 0
    ·rw [decide_eq_true hzz]at hzC;have HZ:=zh hzC;have HN:=zh (fQ (by rw [HR.out];exact gW HSC.out hlt (by rw [HC.out,hc92]) hzz));clear hzC hzz c1 hc92;go_wp2_with fail;refine (HZ.out _).mono ?_;rintro e w' ⟨rfl,rfl⟩;go_wp2_with fail
     go_ret3
     exact ⟨bY HN.out rfl,Below.refl _ _⟩
    ·rw [decide_eq_false hzz]at hzC;have HZ:=zh hzC;have HN:=zh (gX HSC.out hlt (by rw [HC.out,hc92]) hzz);clear hzC hzz c1 hc92;go_wp2_with fail;refine (HZ.out _).mono ?_;rintro e w' ⟨rfl,rfl⟩;go_wp2_with fail;go_round;case rel=>exact ⟨i+2,by omega,by omega,by go_num,HN.out⟩
     case measure=>simp [intOf];omega
   ·have ht:((c.toNat:Int)==92)=false:=(by simp;omega);have h92:c≠92:=eb (n:=92) (by omega) c1;clear c1;by_cases c2:c.toNat=60
    ·have ht2:((c.toNat:Int)==60)=true:=(by simp;omega);have HN:=zh (fQ (by rw [HR.out];exact eJ HSC.out hlt HC.out h92 (by rw [dN c2];decide) (Or.inl (by rw [dN c2];decide))));clear c2 h92;go_wp2_with fail
     go_ret3
     exact ⟨bY HN.out rfl,Below.refl _ _⟩
    ·have ht2:((c.toNat:Int)==60)=false:=(by simp;omega);have h60:c≠60:=eb (n:=60) (by omega) c2;clear c2;by_cases c3:c.toNat=10
     ·have ht3:((c.toNat:Int)==10)=true:=(by simp;omega);have HN:=zh (fQ (by rw [HR.out];exact eJ HSC.out hlt HC.out h92 (by rw [dN c3];decide) (Or.inl (by rw [dN c3];decide))));clear c3 h92 h60;go_wp2_with fail
      go_ret3
      exact ⟨bY HN.out rfl,Below.refl _ _⟩
     ·have ht3:((c.toNat:Int)==10)=false:=(by simp;omega);have h10:c≠10:=eb (n:=10) (by omega) c3;clear c3;by_cases c4:c.toNat=62
      ·have ht4:((c.toNat:Int)==62)=true:=(by simp;omega);have HN:=zh (tN (by rw [HR.out];exact lh HSC.out hlt (by rw [HC.out,dN c4];rfl) (by decide)));clear c4 h92 h60 h10;obtain ⟨S,hS⟩:∃S:ByteArray,s.extract 1 i=S:=⟨_,rfl⟩
       have hSl:S.data.toList=(s.data.toList.take i).tail:=(by rw [<- hS,mO]);have hSz:S.size <= 1000000000:=(by rw [Lib.size_eq,hSl];simp;omega);have hun:=iR S w hE hSz;rw [hSl]at hun;have HU:=zh hun;clear hun hSl;go_wp2_with fail;refine (HU.out).mono ?_;rintro e w' ⟨rfl,hb⟩;go_wp2_with fail
       go_ret3
       exact ⟨bY (m:=i+1) HN.out (by simp),hb⟩
      ·have ht4:((c.toNat:Int)==62)=false:=(by simp;omega);have h62:c≠62:=eb (n:=62) (by omega) c4;clear c4;have hzC:∀W,Calls Tryz.prog 202 #[.string s,.int .i64 (i:Int)] W fun e w'=>e=.returned (.bool (decide (s.data.toList[i]? =some 0)))∧w'=W:=fun W=>eS s _ i rfl W hz;have hgi:s.data.toList[i]? =some c:=(by rw [<- HC.out];exact Lib.data_getElem? s i hlt);rw [hgi]at hzC;have hbad:iV c=false:=(by unfold iV;simp [h60,h10]);by_cases c5:c=0
       ·rw [decide_eq_true (congrArg some c5)]at hzC;have HZ:=zh hzC;have HN:=zh (fQ (by rw [HR.out];exact eJ HSC.out hlt HC.out h92 h62 (Or.inr c5)));clear hzC hgi hbad c5 h92 h60 h10 h62;go_wp2_with fail;refine (HZ.out _).mono ?_;rintro e w' ⟨rfl,rfl⟩;go_wp2_with fail
        go_ret3
        exact ⟨bY HN.out rfl,Below.refl _ _⟩
       ·rw [decide_eq_false (fun h=>c5 (Option.some.inj h))]at hzC;have HZ:=zh hzC;have HN:=zh (gu HSC.out hlt HC.out h92 h62 (by rw [hbad];simp [c5]));clear hzC hgi hbad c5 h92 h60 h10 h62;go_wp2_with fail;refine (HZ.out _).mono ?_;rintro e w' ⟨rfl,rfl⟩;go_wp2_with fail;go_round;case rel=>exact ⟨i+1,by omega,by omega,by go_num,HN.out⟩
        case measure=>simp [intOf];omega
  ·have HN:=zh (fQ (by rw [HR.out];exact lf hsc hlt));clear hsc;go_wp2_with fail
   go_ret3
   exact ⟨bY HN.out rfl,Below.refl _ _⟩
def AF (s:ByteArray) (o i:Nat) (R:Nat×Nat):Prop:=∃f,ew f (s.data.toList.drop i) o i=R∧s.size <= i+f
theorem De {s:ByteArray} {o i:Nat} {R:Nat×Nat} (h:AF s o i R) (hi:¬i<s.size):R=(o,i):=by
 obtain ⟨f,h,hf⟩:=h;rw [ee s i (by omega)]at h;cases f<;>exact h.symm
theorem pX {s:ByteArray} {o i:Nat} {R:Nat×Nat} {c:UInt8} (h:AF s o i R) (hi:i<s.size) (hc:s[i]=c):∃f,s.size <= (i+1)+f∧
  (if eI c=true then (o,i)
  else if c=92∧((s.data.toList.drop (i+1)).head?.map (fun d=> !eI d)).getD false=true then ew f (s.data.toList.drop (i+2)) o (i+2)
  else if c=40 then ew f (s.data.toList.drop (i+1)) (o+1) (i+1)
  else if c=41∧o=0 then (o,i)
  else if c=41 then ew f (s.data.toList.drop (i+1)) (o - 1) (i+1)
  else ew f (s.data.toList.drop (i+1)) o (i+1))=R:=by
 obtain ⟨f,h,hf⟩:=h;obtain ⟨f,rfl⟩:∃g,f=g+1:=⟨f - 1,by omega⟩
 rw [cZ s i hi,hc]at h;unfold ew at h;rw [List.drop_drop]at h;exact ⟨f,by omega,h⟩
theorem zd {s:ByteArray} {o i:Nat} {R:Nat×Nat} {c:UInt8} (h:AF s o i R) (hi:i<s.size) (hc:s[i]=c) (h1:eI c=true):R=(o,i):=by
 obtain ⟨f,_,h⟩:=pX h hi hc;rw [if_pos h1]at h;exact h.symm
theorem zc {s:ByteArray} {o i:Nat} {R:Nat×Nat} {d:UInt8} (h:AF s o i R) (hi:i<s.size) (hc:s[i]=92) (hd:s.data.toList[i+1]? =some d) (h1:eI d=false):AF s o (i+2) R:=by
 obtain ⟨f,hf,h⟩:=pX h hi hc;rw [if_neg (by decide),if_pos ⟨rfl,by rw [List.head?_drop,hd];simp [h1]⟩]at h;exact ⟨f,h,by omega⟩
theorem x8 {s:ByteArray} {o i:Nat} {R:Nat×Nat} {c:UInt8} (h:AF s o i R) (hi:i<s.size) (hc:s[i]=c) (h1:eI c=false) (h2:c=92 ->∀d,s.data.toList[i+1]? =some d ->eI d=true):
  (c=40 ->AF s (o+1) (i+1) R)∧(c=41 ->o=0 ->R=(o,i))∧(c=41 ->o≠0 ->AF s (o - 1) (i+1) R)∧(c≠40 ->c≠41 ->AF s o (i+1) R):=by
 obtain ⟨f,hf,h⟩:=pX h hi hc;rw [if_neg (by rw [h1];simp),if_neg (by
  rintro ⟨e,h3⟩;rw [List.head?_drop]at h3;cases hd:s.data.toList[i+1]? with
  |none=>rw [hd]at h3;simp at h3
  |some d=>rw [hd]at h3;simp [h2 e d hd]at h3)]at h
 refine ⟨fun e=>?_,fun e e0=>?_,fun e e0=>?_,fun e e'=>?_⟩
 ·rw [if_pos e]at h;exact ⟨f,h,by omega⟩
 ·rw [if_neg (by rw [e];decide),if_pos ⟨e,e0⟩]at h;exact h.symm
 ·rw [if_neg (by rw [e];decide),if_neg (fun h=>e0 h.2),if_pos e]at h;exact ⟨f,h,by omega⟩
 ·rw [if_neg e,if_neg (fun h=>e' h.1),if_neg e']at h;exact ⟨f,h,by omega⟩
theorem qQ (c:UInt8):eI c=(decide ((c.toNat:Int) <= 32)||((c.toNat:Int)==127)):=
 vS (p:=fun c=>eI c=(decide ((c.toNat:Int) <= 32)||((c.toNat:Int)==127))) (by unfold tI;decide+kernel) c
theorem Dc (l:List UInt8) (o i:Nat) (h0:l.head? ≠some 60) (h:ew l.length l 0 0=(o,i)):im l=if i=0∨0<o then ([],0,false)else (gK (l.take i),i,true):=by
 unfold im;rw [if_neg h0,h]
theorem yr (l:List UInt8) (c:UInt8):Lib.hasPrefix l [c]=decide (l.head? =some c):=by
 unfold Lib.hasPrefix;cases l with
 |nil=>simp [List.isPrefixOf]
 |cons d r=>simp [List.isPrefixOf];rw [Bool.eq_iff_iff];simp;exact eq_comm
theorem Bg (s:ByteArray) (w:World) (hE:lx w) (hz:s.size <= 1000000000):
  Calls Tryz.prog 168 #[.string s] w fun e w'=>e=.returned (.tuple #[.string ⟨(im s.data.toList).1.toArray⟩,.int .i64 (im s.data.toList).2.1,.bool (im s.data.toList).2.2])∧Below w.heap.size w w':=by
 have hpre:=Tryz.strings_HasPrefix s ⟨#[60]⟩;rw [show (ByteArray.mk #[60]).data.toList=[60]from rfl,yr]at hpre;by_cases h0:s.data.toList.head? =some 60
 ·rw [decide_eq_true h0]at hpre;have HP:=zh hpre;have HD:=zh (show im s.data.toList=gz s.data.toList by unfold im;rw [if_pos h0]);clear hpre h0;go_enter Tryz.func168,Tryz.ntmps168
  go_wp2_with fail
  go_step3
  go_wp2_with fail;refine (HP.out _).mono ?_;rintro e w' ⟨rfl,rfl⟩;go_wp2_with fail;refine (vV s _ hE hz).mono ?_;rintro e w' ⟨rfl,hb⟩;go_wp2_with fail;try rw [Exit.noGoto_ret]
  go_ret3
  exact ⟨by rw [HD.out];rfl,hb⟩
 ·rw [decide_eq_false h0]at hpre;have HP:=zh hpre;obtain ⟨⟨O,I⟩,hR⟩:∃R,ew s.data.toList.length s.data.toList 0 0=R:=⟨_,rfl⟩
  have hd0:AF s 0 0 (O,I):=⟨_,by rw [List.drop_zero];exact hR,by rw [Lib.size_eq];omega⟩
  have HD:=zh (Dc s.data.toList O I h0 hR);clear hpre h0 hR;go_enter Tryz.func168,Tryz.ntmps168
  go_wp2_with fail
  go_step3
  go_wp2_with fail;refine (HP.out _).mono ?_;rintro e w' ⟨rfl,rfl⟩;go_wp2_with fail
  go_step3
  go_upto_block 0 with (fail)
  go_cut [5,6] (fun u5 u6 wc=>u5=.int .i64 O∧u6=.int .i64 I∧I <= s.size∧wc=w')
  case first=>
   go_wp2_with fail;go_loop [5,6] (fun u5 u6=>∃o i:Nat,u5=.int .i64 o∧u6=.int .i64 i∧o <= i∧i <= s.size∧AF s o i (O,I)) (fun _ u6=>s.size - (intOf u6).toNat)
   case atStart=>exact ⟨0,0,rfl,rfl,by omega,by omega,hd0⟩
   case round=>
    obtain ⟨o,i,rfl,rfl,hoi,hi9,hgo⟩:=hrel;have HG:=zh hgo;clear hgo hd0;by_cases hlt:i<s.size
    ·obtain ⟨c,hc⟩:∃c,s[i]=c:=⟨_,rfl⟩
     have HC:=zh hc;have hwt:=qQ c;cases hw:eI c
     ·rw [hw]at hwt;have t1:¬(c.toNat:Int) <= 32:=(by intro h;rw [decide_eq_true h]at hwt;cases hwt);have t2:((c.toNat:Int)==127)=false:=(by cases h:((c.toNat:Int)==127);rfl;rw [h]at hwt;simp at hwt);have HW:=zh hw;clear hwt hw;by_cases c1:c.toNat=92
      ·have t3:((c.toNat:Int)==92)=true:=(by simp;omega);have t4:((c.toNat:Int)==40)=false:=(by simp;omega);have t5:((c.toNat:Int)==41)=false:=(by simp;omega);have hc92:c=92:=dN c1;have HC92:=zh hc92;clear c1 hc92
       have one:(∀d,s.data.toList[i+1]? =some d ->eI d=true) ->AF s o (i+1) (O,I):=fun h=>
        (x8 HG.out hlt HC.out HW.out (fun _=>h)).2.2.2 (by rw [HC92.out];decide) (by rw [HC92.out];decide)
       have HONE:=zh one;clear one;by_cases c2:i+1<s.size
       ·have hlt1:(i:Int)+1<(s.size:Int):=(by omega);have hi1:IntKind.i64.wrap ((i:Int)+1)=((i+1:Nat):Int):=(by rw [wrap_small _ (by omega) (by omega)];omega);obtain ⟨d,hd⟩:∃d,s[i+1]=d:=⟨_,rfl⟩
        have HD1:=zh (show s.data.toList[i+1]? =some d by rw [<- hd];exact Lib.data_getElem? s (i+1) c2);have hdt:=qQ d;cases hdw:eI d
        ·rw [hdw]at hdt;have t6:(32:Int)<(d.toNat:Int):=by
          apply Classical.byContradiction;intro h;rw [decide_eq_true (show (d.toNat:Int) <= 32 by omega)]at hdt;cases hdt
         have t7:((d.toNat:Int) !=127)=true:=by
          cases h:((d.toNat:Int)==127)
          ·simp only [bne,h];rfl
          ·rw [h]at hdt;simp at hdt
         have HN:=zh (zc HG.out hlt (by rw [HC.out,HC92.out]) HD1.out hdw);clear hdt hdw;go_wp2_with fail;go_round;case rel=>exact ⟨o,i+2,by go_num,by go_num,by omega,by omega,HN.out⟩
         case measure=>simp [intOf];omega
        ·rw [hdw]at hdt;have HN:=zh (HONE.out (fun d' h=>by rw [HD1.out]at h;cases h;exact hdw));clear hdw;by_cases t6:(d.toNat:Int) <= 32
         ·have t6':¬(32:Int)<(d.toNat:Int):=(by omega);clear hdt;go_wp2_with fail;go_round;case rel=>exact ⟨o,i+1,by go_num,by go_num,by omega,by omega,HN.out⟩
          case measure=>simp [intOf];omega
         ·have t6':(32:Int)<(d.toNat:Int):=(by omega);have t7:((d.toNat:Int) !=127)=false:=by
           rw [decide_eq_false t6]at hdt;simp only [bne];rw [show ((d.toNat:Int)==127)=true from hdt.symm];rfl
          clear hdt;go_wp2_with fail;go_round;case rel=>exact ⟨o,i+1,by go_num,by go_num,by omega,by omega,HN.out⟩
          case measure=>simp [intOf];omega
       ·have hlt1:¬(i:Int)+1<(s.size:Int):=(by omega);have HN:=zh (HONE.out (fun d h=>by rw [List.getElem?_eq_none (by simp;omega)]at h;cases h));go_wp2_with fail;go_round;case rel=>exact ⟨o,i+1,by go_num,by go_num,by omega,by omega,HN.out⟩
        case measure=>simp [intOf];omega
      ·have t3:((c.toNat:Int)==92)=false:=(by simp;omega);have one:=x8 HG.out hlt HC.out HW.out (fun e=>absurd (by rw [e];rfl) c1);have HONE:=zh one;clear one c1;by_cases c2:c.toNat=40
       ·have t4:((c.toNat:Int)==40)=true:=(by simp;omega);have HN:=zh (HONE.out.1 (dN c2));clear c2;go_wp2_with fail;go_round;case rel=>exact ⟨o+1,i+1,by go_num,by go_num,by omega,by omega,HN.out⟩
        case measure=>simp [intOf];omega
       ·have t4:((c.toNat:Int)==40)=false:=(by simp;omega);have h40:=zh (eb (n:=40) (by omega) c2);clear c2;by_cases c3:c.toNat=41
        ·have t5:((c.toNat:Int)==41)=true:=(by simp;omega);have HC41:=zh (dN c3);clear c3;by_cases c4:o=0
         ·have HE2:=zh (HONE.out.2.1 HC41.out c4);have t6:((o:Int)==0)=true:=(by simp;omega);clear c4;go_wp2_with fail
          go_meet
          case rel=>exact ⟨by have:=HE2.out;cases this;rfl,by have:=HE2.out;cases this;rfl,by have:=HE2.out;cases this;omega,rfl⟩
         ·have HN:=zh (HONE.out.2.2.1 HC41.out c4);have t6:((o:Int)==0)=false:=(by simp;omega);have t8:IntKind.i64.wrap ((o:Int) - 1)=((o - 1:Nat):Int):=(by rw [wrap_small _ (by omega) (by omega)];omega);have t9:(o:Int) - 1=((o - 1:Nat):Int):=(by omega);have HT9:=zh t9;clear t9;go_wp2_with fail;go_round;case rel=>exact ⟨o - 1,i+1,by rw [<- HT9.out],by go_num,by omega,by omega,HN.out⟩
          case measure=>simp [intOf];omega
        ·have t5:((c.toNat:Int)==41)=false:=(by simp;omega);have HN:=zh (HONE.out.2.2.2 h40.out (eb (n:=41) (by omega) c3));clear c3;go_wp2_with fail;go_round;case rel=>exact ⟨o,i+1,by go_num,by go_num,by omega,by omega,HN.out⟩
         case measure=>simp [intOf];omega
     ·rw [hw]at hwt;have HE2:=zh (zd HG.out hlt HC.out hw);clear hw;by_cases t1:(c.toNat:Int) <= 32
      ·clear hwt;go_wp2_with fail
       go_meet
       case rel=>exact ⟨by have:=HE2.out;cases this;rfl,by have:=HE2.out;cases this;rfl,by have:=HE2.out;cases this;omega,rfl⟩
      ·have t2:((c.toNat:Int)==127)=true:=(by rw [decide_eq_false t1]at hwt;exact hwt.symm);clear hwt;go_wp2_with fail
       go_meet
       case rel=>exact ⟨by have:=HE2.out;cases this;rfl,by have:=HE2.out;cases this;rfl,by have:=HE2.out;cases this;omega,rfl⟩
    ·have HE2:=zh (De HG.out hlt);go_wp2_with fail
     go_meet
     case rel=>exact ⟨by have:=HE2.out;cases this;rfl,by have:=HE2.out;cases this;rfl,by have:=HE2.out;cases this;omega,rfl⟩
  case rest=>
   obtain ⟨rfl,rfl,hI9,rfl⟩:=hcut;by_cases hI:I=0∨0<O
   ·have HR:=zh (show im s.data.toList=([],0,false) by rw [HD.out,if_pos hI]);by_cases hI0:I=0
    ·subst hI0;clear hI;go_wp2_with fail;try rw [Exit.noGoto_ret]
     go_ret3
     exact ⟨bY HR.out rfl,Below.refl _ _⟩
    ·have t1:((I:Int)==0)=false:=(by simp;omega);have t2:(0:Int)<(O:Int):=(by omega);clear hI hI0;go_wp2_with fail;try rw [Exit.noGoto_ret]
     go_ret3
     exact ⟨bY HR.out rfl,Below.refl _ _⟩
   ·have HR:=zh (show im s.data.toList=(gK (s.data.toList.take I),I,true) by rw [HD.out,if_neg hI]);have t1:((I:Int)==0)=false:=(by simp;omega);have t2:¬(0:Int)<(O:Int):=(by omega);obtain ⟨S,hS⟩:∃S:ByteArray,s.extract 0 I=S:=⟨_,rfl⟩
    have hSl:S.data.toList=s.data.toList.take I:=(by rw [<- hS,Lib.extract_data];simp);have hSz:S.size <= 1000000000:=(by rw [Lib.size_eq,hSl];simp;omega);have hun:=iR S wc hE hSz;rw [hSl]at hun;have HU:=zh hun;clear hun hSl hI;go_wp2_with fail;refine (HU.out).mono ?_;rintro e w1 ⟨rfl,hb⟩;go_wp2_with fail;try rw [Exit.noGoto_ret]
    go_ret3
    exact ⟨bY HR.out rfl,hb⟩
def Dy (c:UInt8):Bool:=48 <= c&&c <= 57
def BE (c:UInt8):Bool:=(65 <= c&&c <= 90)||(97 <= c&&c <= 122)
def EV:List UInt8:=[45,46,95,126,58,47,63,35,64,33,36,38,39,40,41,42,43,44,59,61,37]
def ET (c:UInt8):Bool:=Dy c||BE c||EV.contains c
def EP (n:UInt8):UInt8:=if n<10 then 48+n else 55+n
def E5 (c:UInt8):List UInt8:=if ET c then [c]else [37,EP (c / 16),EP (c % 16)]
def encode (l:List UInt8):List UInt8:=l.flatMap E5
def tr:List (List UInt8):=[[106,97,118,97,115,99,114,105,112,116,58],[118,98,115,99,114,105,112,116,58],[102,105,108,101,58],[100,97,116,97,58]]
def dW (l:List UInt8):Prop:=∀b∈l,97 <= b.toNat∧b.toNat <= 122
theorem dW.tail {c:UInt8} {l:List UInt8} (h:dW (c::l)):dW l:=fun b hb=>h b (List.mem_cons_of_mem _ hb)
theorem dW.head {c:UInt8} {l:List UInt8} (h:dW (c::l)):97 <= c.toNat∧c.toNat <= 122:=h c (List.mem_cons_self ..)
theorem dW.append {a b:List UInt8} (ha:dW a) (hb:dW b):dW (a++b):=fun x hx=>by
 rcases List.mem_append.1 hx with h|h
 ·exact ha x h
 ·exact hb x h
theorem oN {c d:UInt8} (h:c.toNat≠d.toNat):c≠d:=fun e=>h (by rw [e])
def D1 (l:List UInt8):Prop:=∀b∈l,b≠92∧b≠38
theorem dW.plain {l:List UInt8} (h:dW l):D1 l:=fun b hb=>by
 have:=h b hb;exact ⟨oN (by simp;omega),oN (by simp;omega)⟩
def iH (q:UInt8):UInt8:=if q=40 then 41 else q
def er (q:UInt8):Prop:=q=34∨q=39∨q=40
theorem er.facts {q:UInt8} (h:er q):(iH q).toNat<97∧iH q≠92∧iH q≠0∧lO (iH q)=true:=by
 rcases h with rfl|rfl|rfl<;>decide
theorem qL (q:UInt8) (r:List UInt8) (h:er q):title (q::r)=(match dU (iH q) (fun d=>d==40&&iH q==41) r.length r 1 with
  |some i=>(gK (((q::r).take i).drop 1),i+1,true)
  |none=>([],0,false)):=by
 unfold title;simp only;rw [if_pos (show q=34∨q=39∨q=40 from h)];rfl
def jT (n m:Nat):List UInt8:=97::(List.replicate n 40++List.replicate m 41)
theorem nR (s:ByteArray) (r:Int) (w:World) (hs:cQ s.data.toList) (hz:s.size <= 1000000000) (h0:128 <= r) (h1:r <= 2147483647):
  Calls Tryz.prog 118 #[.string s,.int .i32 r] w fun e w'=>e=.returned (.bool false)∧Below w.heap.size w w':=by
 go_enter Tryz.func118,Tryz.ntmps118
 go_wp2_with fail;refine (iq s r w hs hz h0 h1).mono ?_;rintro e w' ⟨rfl,hb⟩;go_wp2_with fail;go_ret;exact ⟨rfl,hb⟩
theorem cT (s:ByteArray) (r:Nat) (w:World) (hs:cQ s.data.toList) (hz:s.size <= 1000000000) (h1:r <= 1114111):
  Calls Tryz.prog 118 #[.string s,.int .i32 r] w fun e w'=>e=.returned (.bool (s.data.toList.any (fun b=>b.toNat==r)))∧Below w.heap.size w w':=by
 by_cases h:r<128
 ·refine (Tryz.strings_ContainsRune_ascii s r w (by omega) (by omega)).mono ?_;rintro e w' ⟨rfl,rfl⟩;refine ⟨eB ?_,Below.refl _ _⟩;have hl:∀l:List UInt8,decide (0 <= Lib.indexByte l ((r:Int).toNat.toUInt8))=l.any (fun b=>b.toNat==r):=by
   intro l;induction l with
   |nil=>rfl
   |cons b l ih=>
    have hb:(b==(r:Int).toNat.toUInt8)=(b.toNat==r):=by
     rw [Bool.eq_iff_iff];simp only [beq_iff_eq,Int.toNat_natCast];constructor
     ·intro e;rw [e];simp;omega
     ·intro e;rw [<- e];simp
    unfold Lib.indexByte;rw [List.any_cons,<- ih,hb];cases (b.toNat==r)
    ·simp only [Bool.false_eq_true,if_false,Bool.false_or];have:=Lib.indexByte_ge l ((r:Int).toNat.toUInt8);by_cases hh:Lib.indexByte l ((r:Int).toNat.toUInt8)= -1
     ·rw [hh];rfl
     ·have h3:0 <= Lib.indexByte l ((r:Int).toNat.toUInt8):=(by omega);rw [if_neg (by simpa using hh),decide_eq_true h3,decide_eq_true (by omega)]
    ·rfl
  exact hl _
 ·refine (nR s r w hs hz (by omega) (by omega)).mono ?_;rintro e w' ⟨rfl,hb⟩;refine ⟨eB ?_,hb⟩;refine (List.any_eq_false.2 ?_).symm;intro b hbm;have:=hs b hbm;simp;omega
theorem og {q:UInt8} {r:List UInt8} {i:Nat} (hq:er q) (h:dU (iH q) (fun d=>d==40&&iH q==41) r.length r 1=some i):title (q::r)=(gK ((q::r).take i).tail,i+1,true):=by
 rw [qL q r hq,h];simp only [List.drop_one]
theorem mq {q:UInt8} {r:List UInt8} (hq:er q) (h:dU (iH q) (fun d=>d==40&&iH q==41) r.length r 1=none):title (q::r)=([],0,false):=by
 rw [qL q r hq,h]
theorem oZ {q:UInt8} {r:List UInt8} (hq:¬er q):title (q::r)=([],0,false):=by
 unfold title;simp only;rw [if_neg (show¬(q=34∨q=39∨q=40)from hq)]
theorem CH (s:ByteArray) (r:List UInt8) (w:World) (hE:lx w) (hz:s.size <= 1000000000) (hs:s.data.toList=34::r):
  Calls Tryz.prog 169 #[.string s] w fun e w'=>e=.returned (.tuple #[.string ⟨(title s.data.toList).1.toArray⟩,.int .i64 (title s.data.toList).2.1,.bool (title s.data.toList).2.2])∧Below w.heap.size w w':=by
 obtain ⟨bad,hbad⟩:∃b,b=(fun d:UInt8=>d==40&&iH 34==41):=⟨_,rfl⟩
 obtain ⟨R,hR⟩:∃R,dU 34 bad r.length r 1=R:=⟨_,rfl⟩
 have hlen:s.size=r.length+1:=(by rw [Lib.size_eq,hs];rfl);have h1:eN s 34 bad 1 R:=⟨_,by rw [hs];exact hR,by omega⟩
 have hq:er 34:=(by unfold er;decide);have HT:=zh (show∀i,R=some i ->title s.data.toList=(gK (s.data.toList.take i).tail,i+1,true)from fun i h=>by rw [hs];exact og hq (by rw [<- hbad];exact hR.trans h));have HM:=zh (show R=none ->title s.data.toList=([],0,false)from fun h=>by rw [hs];exact mq hq (by rw [<- hbad];exact hR.trans h));have h0z:0<s.size:=(by omega);have h0:s[0]=34:=by
  have:=Lib.data_getElem? s 0 h0z;rw [hs]at this;simp at this;exact this.symm
 have hne:s.toList.isEmpty=false:=(by rw [Lib.toList_data,hs];rfl);have hne2:(!s.toList.isEmpty)=true:=(by rw [hne];rfl);have hb0:∀x:UInt8,bad x=(x==40&&false):=fun x=>by rw [hbad];rfl
 have HB:=zh hb0;have hcr:∀W,Calls Tryz.prog 118 #[.string ⟨#[34,39,40]⟩,.int .i32 34] W fun e w'=>e=.returned (.bool true)∧Below W.heap.size W w':=fun W=>cT ⟨#[34,39,40]⟩ 34 W (by unfold cQ;decide) (by decide) (by omega);have HCR:=zh hcr;clear hR hs hbad hb0 hcr hq;have hsz0:(0:Int)<(s.size:Int):=(by omega);go_enter Tryz.func169,Tryz.ntmps169
 go_wp2_with fail;refine (HCR.out _).mono ?_;rintro e w1 ⟨rfl,hb1⟩;clear hne hne2;go_wp2_with fail;go_loop [6] (fun u6=>∃i:Nat,1 <= i∧i <= 1000000002∧u6=.int .i64 i∧eN s 34 bad i R) (fun u6=>s.size - (intOf u6).toNat)
 case atStart=>exact ⟨1,by omega,by omega,rfl,h1⟩
 case round=>
  obtain ⟨i,hi1,hi2,rfl,hsc⟩:=hrel;clear h1 h0;by_cases hlt:i<s.size
  ·obtain ⟨c,hc⟩:∃c,s[i]=c:=⟨_,rfl⟩
   have HSC:=zh hsc;have HC:=zh hc;clear hsc;by_cases c1:c.toNat=92
   ·have ht:((c.toNat:Int)==92)=true:=(by simp;omega);have hc92:c=92:=dN c1;have hzC:∀W,Calls Tryz.prog 202 #[.string s,.int .i64 ((i:Int)+1)] W fun e w'=>e=.returned (.bool (decide (s.data.toList[i+1]? =some 0)))∧w'=W:=fun W=>eS s _ (i+1) (by omega) W hz;by_cases hzz:s.data.toList[i+1]? =some 0
    ·rw [decide_eq_true hzz]at hzC;have HZ:=zh hzC;have HN:=zh (HM.out (gW HSC.out hlt (by rw [HC.out,hc92]) hzz));clear hzC hzz c1 hc92;go_wp2_with fail;refine (HZ.out _).mono ?_;rintro e w' ⟨rfl,rfl⟩;go_wp2_with fail
     go_ret3
     exact ⟨bY HN.out rfl,hb1⟩
    ·rw [decide_eq_false hzz]at hzC;have HZ:=zh hzC;have HN:=zh (gX HSC.out hlt (by rw [HC.out,hc92]) hzz);clear hzC hzz c1 hc92;go_wp2_with fail;refine (HZ.out _).mono ?_;rintro e w' ⟨rfl,rfl⟩;go_wp2_with fail;go_round;case rel=>exact ⟨i+2,by omega,by omega,by go_num,HN.out⟩
     case measure=>simp [intOf];omega
   ·have ht:((c.toNat:Int)==92)=false:=(by simp;omega);have h92:c≠92:=eb (n:=92) (by omega) c1;clear c1;by_cases c4:c.toNat=34
    ·have ht4:((c.toNat:Int)==34)=true:=(by simp;omega);have HN:=zh (HT.out i (lh HSC.out hlt (by rw [HC.out,dN c4];rfl) (by decide)));clear c4 h92;obtain ⟨S,hS⟩:∃S:ByteArray,s.extract 1 i=S:=⟨_,rfl⟩
     have hSl:S.data.toList=(s.data.toList.take i).tail:=(by rw [<- hS,mO]);have hSz:S.size <= 1000000000:=(by rw [Lib.size_eq,hSl];simp;omega);have hun:=iR S w1 (hE.below hb1) hSz;rw [hSl]at hun;have HU:=zh hun;clear hun hSl;go_wp2_with fail;refine (HU.out).mono ?_;rintro e w' ⟨rfl,hb⟩;go_wp2_with fail
     go_ret3
     exact ⟨bY (m:=i+1) HN.out (by simp),aa hb1 hb⟩
    ·have ht4:((c.toNat:Int)==34)=false:=(by simp;omega);have hce:c≠34:=eb (n:=34) (by omega) c4;clear c4;by_cases c2:c.toNat=40
     ·have ht2:((c.toNat:Int)==40)=true:=(by simp;omega);have hzC:∀W,Calls Tryz.prog 202 #[.string s,.int .i64 (i:Int)] W fun e w'=>e=.returned (.bool (decide (s.data.toList[i]? =some 0)))∧w'=W:=fun W=>eS s _ i rfl W hz;have hgi:s.data.toList[i]? =some c:=(by rw [<- HC.out];exact Lib.data_getElem? s i hlt);rw [hgi]at hzC;have hbadc:bad c=false:=(by rw [HB.out];simp);by_cases c5:c=0
      ·rw [decide_eq_true (congrArg some c5)]at hzC;have HZ:=zh hzC;have HN:=zh (HM.out (eJ HSC.out hlt HC.out h92 hce (Or.inr c5)));clear hzC hgi hbadc c5 h92 hce;go_wp2_with fail;refine (HZ.out _).mono ?_;rintro e w' ⟨rfl,rfl⟩;go_wp2_with fail
       go_ret3
       exact ⟨bY HN.out rfl,hb1⟩
      ·rw [decide_eq_false (fun h=>c5 (Option.some.inj h))]at hzC;have HZ:=zh hzC;have HN:=zh (gu HSC.out hlt HC.out h92 hce (by rw [hbadc];simp [c5]));clear hzC hgi hbadc c5 h92 hce;go_wp2_with fail;refine (HZ.out _).mono ?_;rintro e w' ⟨rfl,rfl⟩;go_wp2_with fail;go_round;case rel=>exact ⟨i+1,by omega,by omega,by go_num,HN.out⟩
       case measure=>simp [intOf];omega
     ·have ht2:((c.toNat:Int)==40)=false:=(by simp;omega);have hc40:c≠40:=eb (n:=40) (by omega) c2;clear c2;have hzC:∀W,Calls Tryz.prog 202 #[.string s,.int .i64 (i:Int)] W fun e w'=>e=.returned (.bool (decide (s.data.toList[i]? =some 0)))∧w'=W:=fun W=>eS s _ i rfl W hz;have hgi:s.data.toList[i]? =some c:=(by rw [<- HC.out];exact Lib.data_getElem? s i hlt);rw [hgi]at hzC;have hbadc:bad c=false:=(by rw [HB.out];simp [hc40]);by_cases c5:c=0
      ·rw [decide_eq_true (congrArg some c5)]at hzC;have HZ:=zh hzC;have HN:=zh (HM.out (eJ HSC.out hlt HC.out h92 hce (Or.inr c5)));clear hzC hgi hbadc c5 h92 hce;go_wp2_with fail;refine (HZ.out _).mono ?_;rintro e w' ⟨rfl,rfl⟩;go_wp2_with fail
       go_ret3
       exact ⟨bY HN.out rfl,hb1⟩
      ·rw [decide_eq_false (fun h=>c5 (Option.some.inj h))]at hzC;have HZ:=zh hzC;have HN:=zh (gu HSC.out hlt HC.out h92 hce (by rw [hbadc];simp [c5]));clear hzC hgi hbadc c5 h92 hce;go_wp2_with fail;refine (HZ.out _).mono ?_;rintro e w' ⟨rfl,rfl⟩;go_wp2_with fail;go_round;case rel=>exact ⟨i+1,by omega,by omega,by go_num,HN.out⟩
       case measure=>simp [intOf];omega
  ·have HN:=zh (HM.out (lf hsc hlt));clear hsc;go_wp2_with fail
   go_ret3
   exact ⟨bY HN.out rfl,hb1⟩
theorem CJ (s:ByteArray) (r:List UInt8) (w:World) (hE:lx w) (hz:s.size <= 1000000000) (hs:s.data.toList=39::r):
  Calls Tryz.prog 169 #[.string s] w fun e w'=>e=.returned (.tuple #[.string ⟨(title s.data.toList).1.toArray⟩,.int .i64 (title s.data.toList).2.1,.bool (title s.data.toList).2.2])∧Below w.heap.size w w':=by
 obtain ⟨bad,hbad⟩:∃b,b=(fun d:UInt8=>d==40&&iH 39==41):=⟨_,rfl⟩
 obtain ⟨R,hR⟩:∃R,dU 39 bad r.length r 1=R:=⟨_,rfl⟩
 have hlen:s.size=r.length+1:=(by rw [Lib.size_eq,hs];rfl);have h1:eN s 39 bad 1 R:=⟨_,by rw [hs];exact hR,by omega⟩
 have hq:er 39:=(by unfold er;decide);have HT:=zh (show∀i,R=some i ->title s.data.toList=(gK (s.data.toList.take i).tail,i+1,true)from fun i h=>by rw [hs];exact og hq (by rw [<- hbad];exact hR.trans h));have HM:=zh (show R=none ->title s.data.toList=([],0,false)from fun h=>by rw [hs];exact mq hq (by rw [<- hbad];exact hR.trans h));have h0z:0<s.size:=(by omega);have h0:s[0]=39:=by
  have:=Lib.data_getElem? s 0 h0z;rw [hs]at this;simp at this;exact this.symm
 have hne:s.toList.isEmpty=false:=(by rw [Lib.toList_data,hs];rfl);have hne2:(!s.toList.isEmpty)=true:=(by rw [hne];rfl);have hb0:∀x:UInt8,bad x=(x==40&&false):=fun x=>by rw [hbad];rfl
 have HB:=zh hb0;have hcr:∀W,Calls Tryz.prog 118 #[.string ⟨#[34,39,40]⟩,.int .i32 39] W fun e w'=>e=.returned (.bool true)∧Below W.heap.size W w':=fun W=>cT ⟨#[34,39,40]⟩ 39 W (by unfold cQ;decide) (by decide) (by omega);have HCR:=zh hcr;clear hR hs hbad hb0 hcr hq;have hsz0:(0:Int)<(s.size:Int):=(by omega);go_enter Tryz.func169,Tryz.ntmps169
 go_wp2_with fail;refine (HCR.out _).mono ?_;rintro e w1 ⟨rfl,hb1⟩;clear hne hne2;go_wp2_with fail;go_loop [6] (fun u6=>∃i:Nat,1 <= i∧i <= 1000000002∧u6=.int .i64 i∧eN s 39 bad i R) (fun u6=>s.size - (intOf u6).toNat)
 case atStart=>exact ⟨1,by omega,by omega,rfl,h1⟩
 case round=>
  obtain ⟨i,hi1,hi2,rfl,hsc⟩:=hrel;clear h1 h0;by_cases hlt:i<s.size
  ·obtain ⟨c,hc⟩:∃c,s[i]=c:=⟨_,rfl⟩
   have HSC:=zh hsc;have HC:=zh hc;clear hsc;by_cases c1:c.toNat=92
   ·have ht:((c.toNat:Int)==92)=true:=(by simp;omega);have hc92:c=92:=dN c1;have hzC:∀W,Calls Tryz.prog 202 #[.string s,.int .i64 ((i:Int)+1)] W fun e w'=>e=.returned (.bool (decide (s.data.toList[i+1]? =some 0)))∧w'=W:=fun W=>eS s _ (i+1) (by omega) W hz;by_cases hzz:s.data.toList[i+1]? =some 0
    ·rw [decide_eq_true hzz]at hzC;have HZ:=zh hzC;have HN:=zh (HM.out (gW HSC.out hlt (by rw [HC.out,hc92]) hzz));clear hzC hzz c1 hc92;go_wp2_with fail;refine (HZ.out _).mono ?_;rintro e w' ⟨rfl,rfl⟩;go_wp2_with fail
     go_ret3
     exact ⟨bY HN.out rfl,hb1⟩
    ·rw [decide_eq_false hzz]at hzC;have HZ:=zh hzC;have HN:=zh (gX HSC.out hlt (by rw [HC.out,hc92]) hzz);clear hzC hzz c1 hc92;go_wp2_with fail;refine (HZ.out _).mono ?_;rintro e w' ⟨rfl,rfl⟩;go_wp2_with fail;go_round;case rel=>exact ⟨i+2,by omega,by omega,by go_num,HN.out⟩
     case measure=>simp [intOf];omega
   ·have ht:((c.toNat:Int)==92)=false:=(by simp;omega);have h92:c≠92:=eb (n:=92) (by omega) c1;clear c1;by_cases c4:c.toNat=39
    ·have ht4:((c.toNat:Int)==39)=true:=(by simp;omega);have HN:=zh (HT.out i (lh HSC.out hlt (by rw [HC.out,dN c4];rfl) (by decide)));clear c4 h92;obtain ⟨S,hS⟩:∃S:ByteArray,s.extract 1 i=S:=⟨_,rfl⟩
     have hSl:S.data.toList=(s.data.toList.take i).tail:=(by rw [<- hS,mO]);have hSz:S.size <= 1000000000:=(by rw [Lib.size_eq,hSl];simp;omega);have hun:=iR S w1 (hE.below hb1) hSz;rw [hSl]at hun;have HU:=zh hun;clear hun hSl;go_wp2_with fail;refine (HU.out).mono ?_;rintro e w' ⟨rfl,hb⟩;go_wp2_with fail
     go_ret3
     exact ⟨bY (m:=i+1) HN.out (by simp),aa hb1 hb⟩
    ·have ht4:((c.toNat:Int)==39)=false:=(by simp;omega);have hce:c≠39:=eb (n:=39) (by omega) c4;clear c4;by_cases c2:c.toNat=40
     ·have ht2:((c.toNat:Int)==40)=true:=(by simp;omega);have hzC:∀W,Calls Tryz.prog 202 #[.string s,.int .i64 (i:Int)] W fun e w'=>e=.returned (.bool (decide (s.data.toList[i]? =some 0)))∧w'=W:=fun W=>eS s _ i rfl W hz;have hgi:s.data.toList[i]? =some c:=(by rw [<- HC.out];exact Lib.data_getElem? s i hlt);rw [hgi]at hzC;have hbadc:bad c=false:=(by rw [HB.out];simp);by_cases c5:c=0
      ·rw [decide_eq_true (congrArg some c5)]at hzC;have HZ:=zh hzC;have HN:=zh (HM.out (eJ HSC.out hlt HC.out h92 hce (Or.inr c5)));clear hzC hgi hbadc c5 h92 hce;go_wp2_with fail;refine (HZ.out _).mono ?_;rintro e w' ⟨rfl,rfl⟩;go_wp2_with fail
       go_ret3
       exact ⟨bY HN.out rfl,hb1⟩
      ·rw [decide_eq_false (fun h=>c5 (Option.some.inj h))]at hzC;have HZ:=zh hzC;have HN:=zh (gu HSC.out hlt HC.out h92 hce (by rw [hbadc];simp [c5]));clear hzC hgi hbadc c5 h92 hce;go_wp2_with fail;refine (HZ.out _).mono ?_;rintro e w' ⟨rfl,rfl⟩;go_wp2_with fail;go_round;case rel=>exact ⟨i+1,by omega,by omega,by go_num,HN.out⟩
       case measure=>simp [intOf];omega
     ·have ht2:((c.toNat:Int)==40)=false:=(by simp;omega);have hc40:c≠40:=eb (n:=40) (by omega) c2;clear c2;have hzC:∀W,Calls Tryz.prog 202 #[.string s,.int .i64 (i:Int)] W fun e w'=>e=.returned (.bool (decide (s.data.toList[i]? =some 0)))∧w'=W:=fun W=>eS s _ i rfl W hz;have hgi:s.data.toList[i]? =some c:=(by rw [<- HC.out];exact Lib.data_getElem? s i hlt);rw [hgi]at hzC;have hbadc:bad c=false:=(by rw [HB.out];simp [hc40]);by_cases c5:c=0
      ·rw [decide_eq_true (congrArg some c5)]at hzC;have HZ:=zh hzC;have HN:=zh (HM.out (eJ HSC.out hlt HC.out h92 hce (Or.inr c5)));clear hzC hgi hbadc c5 h92 hce;go_wp2_with fail;refine (HZ.out _).mono ?_;rintro e w' ⟨rfl,rfl⟩;go_wp2_with fail
       go_ret3
       exact ⟨bY HN.out rfl,hb1⟩
      ·rw [decide_eq_false (fun h=>c5 (Option.some.inj h))]at hzC;have HZ:=zh hzC;have HN:=zh (gu HSC.out hlt HC.out h92 hce (by rw [hbadc];simp [c5]));clear hzC hgi hbadc c5 h92 hce;go_wp2_with fail;refine (HZ.out _).mono ?_;rintro e w' ⟨rfl,rfl⟩;go_wp2_with fail;go_round;case rel=>exact ⟨i+1,by omega,by omega,by go_num,HN.out⟩
       case measure=>simp [intOf];omega
  ·have HN:=zh (HM.out (lf hsc hlt));clear hsc;go_wp2_with fail
   go_ret3
   exact ⟨bY HN.out rfl,hb1⟩
theorem CK (s:ByteArray) (r:List UInt8) (w:World) (hE:lx w) (hz:s.size <= 1000000000) (hs:s.data.toList=40::r):
  Calls Tryz.prog 169 #[.string s] w fun e w'=>e=.returned (.tuple #[.string ⟨(title s.data.toList).1.toArray⟩,.int .i64 (title s.data.toList).2.1,.bool (title s.data.toList).2.2])∧Below w.heap.size w w':=by
 obtain ⟨bad,hbad⟩:∃b,b=(fun d:UInt8=>d==40&&iH 40==41):=⟨_,rfl⟩
 obtain ⟨R,hR⟩:∃R,dU 41 bad r.length r 1=R:=⟨_,rfl⟩
 have hlen:s.size=r.length+1:=(by rw [Lib.size_eq,hs];rfl);have h1:eN s 41 bad 1 R:=⟨_,by rw [hs];exact hR,by omega⟩
 have hq:er 40:=(by unfold er;decide);have HT:=zh (show∀i,R=some i ->title s.data.toList=(gK (s.data.toList.take i).tail,i+1,true)from fun i h=>by rw [hs];exact og hq (by rw [<- hbad];exact hR.trans h));have HM:=zh (show R=none ->title s.data.toList=([],0,false)from fun h=>by rw [hs];exact mq hq (by rw [<- hbad];exact hR.trans h));have h0z:0<s.size:=(by omega);have h0:s[0]=40:=by
  have:=Lib.data_getElem? s 0 h0z;rw [hs]at this;simp at this;exact this.symm
 have hne:s.toList.isEmpty=false:=(by rw [Lib.toList_data,hs];rfl);have hne2:(!s.toList.isEmpty)=true:=(by rw [hne];rfl);have hb0:∀x:UInt8,bad x=(x==40&&true):=fun x=>by rw [hbad];rfl
 have HB:=zh hb0;have hcr:∀W,Calls Tryz.prog 118 #[.string ⟨#[34,39,40]⟩,.int .i32 40] W fun e w'=>e=.returned (.bool true)∧Below W.heap.size W w':=fun W=>cT ⟨#[34,39,40]⟩ 40 W (by unfold cQ;decide) (by decide) (by omega);have HCR:=zh hcr;clear hR hs hbad hb0 hcr hq;have hsz0:(0:Int)<(s.size:Int):=(by omega);go_enter Tryz.func169,Tryz.ntmps169
 go_wp2_with fail;refine (HCR.out _).mono ?_;rintro e w1 ⟨rfl,hb1⟩;clear hne hne2;go_wp2_with fail;go_loop [6] (fun u6=>∃i:Nat,1 <= i∧i <= 1000000002∧u6=.int .i64 i∧eN s 41 bad i R) (fun u6=>s.size - (intOf u6).toNat)
 case atStart=>exact ⟨1,by omega,by omega,rfl,h1⟩
 case round=>
  obtain ⟨i,hi1,hi2,rfl,hsc⟩:=hrel;clear h1 h0;by_cases hlt:i<s.size
  ·obtain ⟨c,hc⟩:∃c,s[i]=c:=⟨_,rfl⟩
   have HSC:=zh hsc;have HC:=zh hc;clear hsc;by_cases c1:c.toNat=92
   ·have ht:((c.toNat:Int)==92)=true:=(by simp;omega);have hc92:c=92:=dN c1;have hzC:∀W,Calls Tryz.prog 202 #[.string s,.int .i64 ((i:Int)+1)] W fun e w'=>e=.returned (.bool (decide (s.data.toList[i+1]? =some 0)))∧w'=W:=fun W=>eS s _ (i+1) (by omega) W hz;by_cases hzz:s.data.toList[i+1]? =some 0
    ·rw [decide_eq_true hzz]at hzC;have HZ:=zh hzC;have HN:=zh (HM.out (gW HSC.out hlt (by rw [HC.out,hc92]) hzz));clear hzC hzz c1 hc92;go_wp2_with fail;refine (HZ.out _).mono ?_;rintro e w' ⟨rfl,rfl⟩;go_wp2_with fail
     go_ret3
     exact ⟨bY HN.out rfl,hb1⟩
    ·rw [decide_eq_false hzz]at hzC;have HZ:=zh hzC;have HN:=zh (gX HSC.out hlt (by rw [HC.out,hc92]) hzz);clear hzC hzz c1 hc92;go_wp2_with fail;refine (HZ.out _).mono ?_;rintro e w' ⟨rfl,rfl⟩;go_wp2_with fail;go_round;case rel=>exact ⟨i+2,by omega,by omega,by go_num,HN.out⟩
     case measure=>simp [intOf];omega
   ·have ht:((c.toNat:Int)==92)=false:=(by simp;omega);have h92:c≠92:=eb (n:=92) (by omega) c1;clear c1;by_cases c4:c.toNat=41
    ·have ht4:((c.toNat:Int)==41)=true:=(by simp;omega);have HN:=zh (HT.out i (lh HSC.out hlt (by rw [HC.out,dN c4];rfl) (by decide)));clear c4 h92;obtain ⟨S,hS⟩:∃S:ByteArray,s.extract 1 i=S:=⟨_,rfl⟩
     have hSl:S.data.toList=(s.data.toList.take i).tail:=(by rw [<- hS,mO]);have hSz:S.size <= 1000000000:=(by rw [Lib.size_eq,hSl];simp;omega);have hun:=iR S w1 (hE.below hb1) hSz;rw [hSl]at hun;have HU:=zh hun;clear hun hSl;go_wp2_with fail;refine (HU.out).mono ?_;rintro e w' ⟨rfl,hb⟩;go_wp2_with fail
     go_ret3
     exact ⟨bY (m:=i+1) HN.out (by simp),aa hb1 hb⟩
    ·have ht4:((c.toNat:Int)==41)=false:=(by simp;omega);have hce:c≠41:=eb (n:=41) (by omega) c4;clear c4;by_cases c2:c.toNat=40
     ·have ht2:((c.toNat:Int)==40)=true:=(by simp;omega);have HN:=zh (HM.out (eJ HSC.out hlt HC.out h92 hce (Or.inl (by rw [HB.out,dN c2];rfl))));clear c2 h92 hce;go_wp2_with fail
      go_ret3
      exact ⟨bY HN.out rfl,hb1⟩
     ·have ht2:((c.toNat:Int)==40)=false:=(by simp;omega);have hc40:c≠40:=eb (n:=40) (by omega) c2;clear c2;have hzC:∀W,Calls Tryz.prog 202 #[.string s,.int .i64 (i:Int)] W fun e w'=>e=.returned (.bool (decide (s.data.toList[i]? =some 0)))∧w'=W:=fun W=>eS s _ i rfl W hz;have hgi:s.data.toList[i]? =some c:=(by rw [<- HC.out];exact Lib.data_getElem? s i hlt);rw [hgi]at hzC;have hbadc:bad c=false:=(by rw [HB.out];simp [hc40]);by_cases c5:c=0
      ·rw [decide_eq_true (congrArg some c5)]at hzC;have HZ:=zh hzC;have HN:=zh (HM.out (eJ HSC.out hlt HC.out h92 hce (Or.inr c5)));clear hzC hgi hbadc c5 h92 hce;go_wp2_with fail;refine (HZ.out _).mono ?_;rintro e w' ⟨rfl,rfl⟩;go_wp2_with fail
       go_ret3
       exact ⟨bY HN.out rfl,hb1⟩
      ·rw [decide_eq_false (fun h=>c5 (Option.some.inj h))]at hzC;have HZ:=zh hzC;have HN:=zh (gu HSC.out hlt HC.out h92 hce (by rw [hbadc];simp [c5]));clear hzC hgi hbadc c5 h92 hce;go_wp2_with fail;refine (HZ.out _).mono ?_;rintro e w' ⟨rfl,rfl⟩;go_wp2_with fail;go_round;case rel=>exact ⟨i+1,by omega,by omega,by go_num,HN.out⟩
       case measure=>simp [intOf];omega
  ·have HN:=zh (HM.out (lf hsc hlt));clear hsc;go_wp2_with fail
   go_ret3
   exact ⟨bY HN.out rfl,hb1⟩
theorem Aq (s:ByteArray) (w:World) (hE:lx w) (hz:s.size <= 1000000000):
  Calls Tryz.prog 169 #[.string s] w fun e w'=>e=.returned (.tuple #[.string ⟨(title s.data.toList).1.toArray⟩,.int .i64 (title s.data.toList).2.1,.bool (title s.data.toList).2.2])∧Below w.heap.size w w':=by
 by_cases h0z:0<s.size
 ·have hda:=cZ s 0 h0z;rw [List.drop_zero]at hda;obtain ⟨c,hc⟩:∃c,s[0]=c:=⟨_,rfl⟩
  rw [hc]at hda;obtain ⟨r,hr⟩:∃r,s.data.toList.drop (0+1)=r:=⟨_,rfl⟩
  rw [hr]at hda;by_cases hq:er c
  ·rcases hq with rfl|rfl|rfl
   ·exact CH s r w hE hz hda
   ·exact CJ s r w hE hz hda
   ·exact CK s r w hE hz hda
  ·have HN:=zh (show title s.data.toList=([],0,false) by rw [hda];exact oZ hq);obtain ⟨cb0,cb1⟩:=xX c;have hcr:=fun W=>cT ⟨#[34,39,40]⟩ c.toNat W (by unfold cQ;decide) (by decide) (by have:=c.toNat_lt;omega);have hany:(ByteArray.mk #[34,39,40]).data.toList.any (fun b=>b.toNat==c.toNat)=false:=by
    rw [List.any_eq_false];intro b hb;simp only [beq_iff_eq,Bool.not_eq_true,beq_eq_false_iff_ne];intro e;have hbc:b=c:=UInt8.toNat.inj e;subst hbc;apply hq;simp at hb;exact hb
   rw [hany]at hcr;have HCR:=zh hcr;have hne:s.toList.isEmpty=false:=(by rw [Lib.toList_data,hda];rfl);have hne2:(!s.toList.isEmpty)=true:=(by rw [hne];rfl);have hsz0:(0:Int)<(s.size:Int):=(by omega);clear hda hr hcr hany hq;go_enter Tryz.func169,Tryz.ntmps169
   go_wp2_with fail;refine (HCR.out _).mono ?_;rintro e w1 ⟨rfl,hb1⟩;go_wp2_with fail
   go_ret3
   exact ⟨bY HN.out rfl,hb1⟩
 ·have hs0:s.data.toList=[]:=by
   rw [<- List.length_eq_zero_iff,<- Lib.size_eq];omega
  have HN:=zh (show title s.data.toList=([],0,false) by rw [hs0];rfl);have hne:s.toList.isEmpty=true:=(by rw [Lib.toList_data,hs0];rfl);have hne2:(!s.toList.isEmpty)=false:=(by rw [hne];rfl);clear hs0;go_enter Tryz.func169,Tryz.ntmps169
  go_wp2_with fail
  go_ret3
  exact ⟨bY HN.out rfl,Below.refl _ _⟩
def pN:List UInt8:=[91,93,10,0]
def jb:Nat ->List UInt8 ->Bool
 |0,_=>false
 |n+1,l=>if l=[]then false else (pN.any (fun b=>b.toNat==(Lib.decodeL l).1))||jb n (l.drop (Lib.decodeL l).2)
theorem wG (n:Nat):jb n []=false:=by cases n<;>simp [jb]
def eL (l:List UInt8):List UInt8×Bool:=
 if jb l.length l=true then ([],false)else if fold l=[]∨60<(fold l).length then ([],false)else (fold l,true)
theorem uF (s:ByteArray) (w:World) (hE:lx w) (hs:s.size <= 1000000000):
  Calls Tryz.prog 130 #[.string s] w fun e w'=>e=.returned (.tuple #[.string ⟨(eL s.data.toList).1.toArray⟩,.bool (eL s.data.toList).2])∧Below w.heap.size w w':=by
 have HE:=zh hE;clear hE;go_enter Tryz.func130,Tryz.ntmps130
 go_wp2_with fail;go_loopw [] (fun wr=>∃pos f:Nat,wr.heap[w.heap.size]? =some (.stringIter s pos)∧Below w.heap.size w wr∧jb f (s.data.toList.drop pos)=jb s.data.toList.length s.data.toList∧s.size <= pos+f) (fun wr=>s.size - wr.iterPos w.heap.size)
 case atStart=>
  refine ⟨0,s.size,?_,(Below.refl _ w).alloc (Nat.le_refl _) _,by rw [<- Lib.size_eq];rfl,by omega⟩;have:=World.iter_heap w s 0;simpa using this
 case round=>
  obtain ⟨pos,f,hit,hbw,hbad,hfu⟩:=hrel;have hsz:w.heap.size<wr.heap.size:=(Array.getElem?_eq_some_iff.1 hit).1;by_cases hp:pos<s.size
  ·have hnx:∀ty,(Instr.next (.pointer (some ⟨w.heap.size,0,none⟩)) true ty).run Tryz.prog wr=_:=fun ty=>Lib.run_next_any_at wr w.heap.size s pos ty hit hp;have hit2:=Lib.iterAt_heap wr w.heap.size s pos (pos+(Utf8.decode s pos).2) hit;have hbw2:=Lib.below_iterAt hbw (k:=w.heap.size) (by omega) s (pos+(Utf8.decode s pos).2);obtain ⟨f,rfl⟩:∃g,f=g+1:=⟨f - 1,by omega⟩
   have hdl:=Lib.decodeL_drop s pos;have hwd:=Lib.decodeL_width (s.data.toList.drop pos);have hrl:=Lib.decodeL_rune (s.data.toList.drop pos);have hne:s.data.toList.drop pos≠[]:=(by intro h0;have:=congrArg List.length h0;simp at this;omega);rw [jb,if_neg hne,List.drop_drop]at hbad;rw [<- hdl]at hnx hit2 hbw2;obtain ⟨r,n,hrn⟩:∃r n,Lib.decodeL (s.data.toList.drop pos)=(r,n):=⟨_,_,rfl⟩
   rw [hrn]at hnx hit2 hbw2 hwd hrl hbad;simp only at hnx hit2 hbw2 hwd hrl hbad;clear hrn hdl hbw;have hcr:=fun W=>cT ⟨#[91,93,10,0]⟩ r W (by unfold cQ;decide) (by decide) hrl;rw [show (ByteArray.mk #[91,93,10,0]).data.toList=pN from rfl]at hcr;have HCR:=zh hcr;have HBAD:=zh hbad;clear hcr hbad;cases hb:pN.any (fun b=>b.toNat==r)
   ·have HN:=zh (show jb f (s.data.toList.drop (pos+n))=jb s.data.toList.length s.data.toList by have:=HBAD.out;rw [hb,Bool.false_or]at this;exact this);have HB:=zh hb;clear hb;go_wp2_with fail;refine (HCR.out _).mono ?_;rintro e w2 ⟨rfl,b2⟩;rw [HB.out];have hit3:=bA hit2 b2;have hbw3:=aa hbw2 b2;go_wp2_with fail;go_roundw;case rel=>exact ⟨pos+n,f,hit3,hbw3,HN.out,by omega⟩
    case measure=>simp only [World.iterPos,hit3,hit];omega
   ·have HN:=zh (show eL s.data.toList=([],false) by
     unfold eL;rw [if_pos];have:=HBAD.out;rw [hb,Bool.true_or]at this;exact this.symm)
    have HB:=zh hb;clear hb;go_wp2_with fail;refine (HCR.out _).mono ?_;rintro e w2 ⟨rfl,b2⟩;rw [HB.out];have hbw3:=aa hbw2 b2;go_wp2_with fail
    go_ret2
    exact ⟨iw HN.out,hbw3⟩
  ·have hnx:∀ty,(Instr.next (.pointer (some ⟨w.heap.size,0,none⟩)) true ty).run Tryz.prog wr=_:=fun ty=>Lib.run_next_end_at wr w.heap.size s pos ty hit hp;rw [ee s pos (by omega),wG]at hbad;have HB:=zh hbad.symm;clear hbad;obtain ⟨X,hX⟩:∃X:ByteArray,X=⟨(fold s.data.toList).toArray⟩:=⟨_,rfl⟩
   have hXl:X.data.toList=fold s.data.toList:=(by rw [hX]);have hXs:X.size=(fold s.data.toList).length:=(by rw [Lib.size_eq,hXl]);have hf:=fun W hW=>Br s W hW hs;rw [<- hX]at hf;have HF:=zh hf;have HX:=zh hXl;have HXS:=zh hXs;clear hf hXl hXs hX;by_cases h0:0<X.size
   ·have he:=cS h0;by_cases h6:60<X.size
    ·have h6':(60:Int)<(X.size:Int):=(by omega);have HN:=zh (show eL s.data.toList=([],false) by
      unfold eL;rw [if_neg (by rw [HB.out];simp),if_pos (Or.inr (by rw [<- HXS.out];exact h6))])
     go_wp2_with fail;refine (HF.out _ (HE.out.below hbw)).mono ?_;rintro e w2 ⟨rfl,b2⟩;go_wp2_with fail
     go_ret2
     exact ⟨iw HN.out,aa hbw b2⟩
    ·have h6':¬(60:Int)<(X.size:Int):=(by omega);have HN:=zh (show eL s.data.toList=(X.data.toList,true) by
      unfold eL;rw [if_neg (by rw [HB.out];simp),if_neg (by
       rintro (h|h)
       ·rw [HXS.out,h]at h0;exact absurd h0 (by simp)
       ·rw [<- HXS.out]at h;exact h6 h),HX.out])
     go_wp2_with fail;refine (HF.out _ (HE.out.below hbw)).mono ?_;rintro e w2 ⟨rfl,b2⟩;go_wp2_with fail
     go_ret2
     exact ⟨iw HN.out,aa hbw b2⟩
   ·have he:=cE (s:=X) (by omega);have HN:=zh (show eL s.data.toList=([],false) by
     unfold eL;rw [if_neg (by rw [HB.out];simp),if_pos (Or.inl (List.eq_nil_of_length_eq_zero (by rw [<- HXS.out];omega)))])
    go_wp2_with fail;refine (HF.out _ (HE.out.below hbw)).mono ?_;rintro e w2 ⟨rfl,b2⟩;go_wp2_with fail
    go_ret2
    exact ⟨iw HN.out,aa hbw b2⟩
def dj:List UInt8:=[32,9]
def dM (l:List UInt8):List UInt8×Bool:=(Lib.trimLeftS l dj,decide ((Lib.trimLeftS l dj).length<l.length))
theorem lP (s:ByteArray) (w:World):
  Calls Tryz.prog 127 #[.string s] w fun e w'=>e=.returned (.tuple #[.string ⟨(dM s.data.toList).1.toArray⟩,.bool (dM s.data.toList).2])∧Below w.heap.size w w':=by
 have hc:∀W,Calls Tryz.prog 105 #[.string s,.string ⟨#[32,9]⟩] W fun e w'=>e=.returned (.string ⟨(Lib.trimLeftS s.data.toList dj).toArray⟩)∧Below W.heap.size W w':=fun W=>
  Any.strings_TrimLeft_laid Tryz.lays161 (by kernel_rfl) s ⟨#[32,9]⟩ W (by decide) (ascii_of_all (by decide))
 obtain ⟨X,hX⟩:∃X:ByteArray,X=⟨(Lib.trimLeftS s.data.toList dj).toArray⟩:=⟨_,rfl⟩
 rw [<- hX]at hc;have hXl:X.data.toList=Lib.trimLeftS s.data.toList dj:=(by rw [hX]);have HR:=zh (show dM s.data.toList=(X.data.toList,decide (X.size<s.size)) by
  unfold dM;rw [<- hXl,<- Lib.size_eq,<- Lib.size_eq])
 have HC:=zh hc;clear hc hX hXl;go_enter Tryz.func127,Tryz.ntmps127
 go_wp2_with fail;refine (HC.out _).mono ?_;rintro e w2 ⟨rfl,b2⟩;go_wp2_with fail
 go_ret2
 exact ⟨iw HR.out,b2⟩
def gH (l:List UInt8):List UInt8:=Lib.trimRightS (Lib.trimLeftS l dj) dj
theorem xg {c:UInt8} {l:List UInt8} (h:dj.contains c=true):Lib.trimLeftS (c::l) dj=Lib.trimLeftS l dj:=by
 unfold Lib.trimLeftS;rw [List.dropWhile_cons_of_pos h]
theorem xh {c:UInt8} {l:List UInt8} (h:dj.contains c=false):Lib.trimLeftS (c::l) dj=c::l:=by
 unfold Lib.trimLeftS;rw [List.dropWhile_cons_of_neg (by rw [h];simp)]
theorem sk (s:ByteArray) (w:World) (hs:s.size <= 1000000000):
  Calls Tryz.prog 128 #[.string s] w fun e w'=>e=.returned (.string ⟨(gH s.data.toList).toArray⟩)∧Below w.heap.size w w':=by
 go_enter Tryz.func128,Tryz.ntmps128
 go_wp2_with fail;go_loopw [] (fun wr=>∃pos:Nat,wr.heap[w.heap.size]? =some (.stringIter s pos)∧Below w.heap.size w wr∧Lib.trimLeftS (s.data.toList.drop pos) dj=Lib.trimLeftS s.data.toList dj) (fun wr=>s.size - wr.iterPos w.heap.size)
 case atStart=>
  refine ⟨0,?_,(Below.refl _ w).alloc (Nat.le_refl _) _,by simp⟩;have:=World.iter_heap w s 0;simpa using this
 case round=>
  obtain ⟨pos,hit,hbw,htr⟩:=hrel;have hsz:w.heap.size<wr.heap.size:=(Array.getElem?_eq_some_iff.1 hit).1;by_cases hp:pos<s.size
  ·have hnx:∀ty,(Instr.next (.pointer (some ⟨w.heap.size,0,none⟩)) true ty).run Tryz.prog wr=_:=fun ty=>Lib.run_next_any_at wr w.heap.size s pos ty hit hp;have hit2:=Lib.iterAt_heap wr w.heap.size s pos (pos+(Utf8.decode s pos).2) hit;have hbw2:=Lib.below_iterAt hbw (k:=w.heap.size) (by omega) s (pos+(Utf8.decode s pos).2);have hda:=cZ s pos hp;cases hbl:dj.contains s[pos]
   ·rw [hda,xh hbl,<- hda]at htr;have hr:((((Utf8.decode s pos).1:Nat):Int) !=32)=true∧((((Utf8.decode s pos).1:Nat):Int) !=9)=true:=by
     by_cases hasc:s[pos].toNat<128
     ·rw [Go.decode_ascii s pos hp hasc];have h1:s[pos]≠32:=fun e=>by rw [e]at hbl;exact absurd hbl (by decide)
      have h2:s[pos]≠9:=fun e=>by rw [e]at hbl;exact absurd hbl (by decide)
      have h1':s[pos].toNat≠32:=fun e=>h1 (dN e);have h2':s[pos].toNat≠9:=fun e=>h2 (dN e);constructor<;>(simp;omega)
     ·have:=lV s pos hp (by omega);constructor<;>(simp;omega)
    obtain ⟨r,n,hrn⟩:∃r n,Utf8.decode s pos=(r,n):=⟨_,_,rfl⟩
    rw [hrn]at hnx hit2 hbw2 hr;simp only at hnx hit2 hbw2 hr;obtain ⟨hr1,hr2⟩:=hr;obtain ⟨S,hS⟩:∃S:ByteArray,s.extract pos s.size=S:=⟨_,rfl⟩
    have hSl:S.data.toList=s.data.toList.drop pos:=(by rw [<- hS,Lib.extract_to_end]);have hSz:S.size <= 9223372036854775807:=(by rw [Lib.size_eq,hSl];simp;omega);have hc:∀W,Calls Tryz.prog 89 #[.string S,.string ⟨#[32,9]⟩] W fun e w'=>e=.returned (.string ⟨(gH s.data.toList).toArray⟩)∧Below W.heap.size W w':=fun W=>by
     have:=Any.strings_TrimRight_laid Tryz.lays162 (by kernel_rfl) S ⟨#[32,9]⟩ W hSz (by decide) (ascii_of_all (by decide));rw [hSl,htr]at this;exact this
    have HC:=zh hc;clear hc hSl hSz htr hda hbl hrn hbw hit;go_wp2_with fail;refine (HC.out _).mono ?_;rintro e w2 ⟨rfl,b2⟩;go_wp2_with fail;go_ret;exact ⟨rfl,aa hbw2 b2⟩
   ·rw [hda,xg hbl]at htr;have h12:s[pos]=32∨s[pos]=9:=(by simp [dj]at hbl;exact hbl);have hasc:s[pos].toNat<128:=(by rcases h12 with h|h<;>rw [h]<;>decide);rw [Go.decode_ascii s pos hp hasc]at hnx hit2 hbw2;simp only at hnx hit2 hbw2;obtain ⟨c,hc⟩:∃c,s[pos]=c:=⟨_,rfl⟩
    rw [hc]at hnx h12;have HT:=zh htr;clear hda hbl hasc htr hc;rcases h12 with rfl|rfl
    all_goals
     go_wp2_with fail;go_roundw;case rel=>exact ⟨pos+1,hit2,hbw2,HT.out⟩
     case measure=>simp only [World.iterPos,hit2,hit];omega
  ·have hnx:∀ty,(Instr.next (.pointer (some ⟨w.heap.size,0,none⟩)) true ty).run Tryz.prog wr=_:=fun ty=>Lib.run_next_end_at wr w.heap.size s pos ty hit hp;have HR:=zh (show gH s.data.toList=[] by
    unfold gH;rw [<- htr,ee s pos (by omega)];rfl)
   clear htr;go_wp2_with fail;go_ret;exact ⟨Cp HR.out.symm,hbw⟩
theorem yu (e:UInt8) (bad:UInt8 ->Bool):∀(f:Nat) (l:List UInt8) (i j:Nat),dU e bad f l i=some j ->j<i+l.length:=by
 intro f;induction f with
 |zero=>intro l i j h;cases h
 |succ f ih=>
  intro l i j h;cases l with
  |nil=>cases h
  |cons c l=>
   unfold dU at h;split at h
   ·split at h
    ·cases h
    ·cases l with
     |nil=>rw [show ([]:List UInt8).drop 1=[]from rfl]at h;cases f<;>cases h
     |cons d l=>have:=ih _ _ _ h;simp at this⊢;omega
   ·split at h
    ·cases h;simp
    ·split at h
     ·cases h
     ·have:=ih _ _ _ h;simp at this⊢;omega
theorem Ea:∀(f:Nat) (l:List UInt8) (o i:Nat),(ew f l o i).2 <= i+l.length:=by
 intro f;induction f with
 |zero=>intro l o i;simp [ew]
 |succ f ih=>
  intro l o i;cases l with
  |nil=>simp [ew]
  |cons c l=>
   unfold ew;split
   ·simp
   ·split
    ·rename_i h;cases l with
     |nil=>simp at h
     |cons d l=>have:=ih l o (i+2);simp at this⊢;omega
    ·split
     ·have:=ih l (o+1) (i+1);simp at this⊢;omega
     ·split
      ·simp
      ·split
       ·have:=ih l (o - 1) (i+1);simp at this⊢;omega
       ·have:=ih l o (i+1);simp at this⊢;omega
theorem Dd (l:List UInt8):(im l).2.1 <= l.length:=by
 unfold im;split
 ·rename_i h;unfold gz;split
  ·rename_i j hj;have:=yu _ _ _ _ _ _ hj;have h1:1 <= l.length:=(by cases l with|nil=>simp at h|cons _ _=>simp);simp at this⊢;omega
  ·exact Nat.zero_le _
 ·simp only;split
  ·exact Nat.zero_le _
  ·have:=Ea l.length l 0 0;simp at this⊢;exact this
theorem CL (l:List UInt8):(title l).2.1 <= l.length:=by
 cases l with
 |nil=>exact Nat.zero_le _
 |cons c r=>
  by_cases hq:er c
  ·rw [qL c r hq];split
   ·rename_i j hj;have:=yu _ _ _ _ _ _ hj;simp at this⊢;omega
   ·exact Nat.zero_le _
  ·rw [oZ hq];exact Nat.zero_le _
end Go.Proofs.YtcannffahjbjnaaGreatDoor
