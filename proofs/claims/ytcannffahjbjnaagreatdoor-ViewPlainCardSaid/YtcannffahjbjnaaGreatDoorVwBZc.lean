import Derived.Test.YtcannffahjbjnaaGreatDoorVwBJ
import Derived.Test.YtcannffahjbjnaaGreatDoorVwBI
set_option linter.unusedVariables false
set_option linter.unusedSimpArgs false
set_option maxRecDepth 100000
set_option maxHeartbeats 64000000
namespace Go.Proofs.YtcannffahjbjnaaGreatDoor
open Go.RowKit
theorem iD {c d:UInt8} {v:Int} (hv:(d.toNat:Int)=v) (h:c≠d):((c.toNat:Int)==v)=false:=by
 have:c.toNat≠d.toNat:=fun e=>h (UInt8.toNat_inj.1 e);rw [<- hv];simp;omega
theorem iE {c d:UInt8} {v:Int} (hv:(d.toNat:Int)=v) (h:c=d):((c.toNat:Int)==v)=true:=by
 rw [h,hv];simp
theorem d8 (c:UInt8) (w:World):Calls Tryz.prog 68 #[.int .u8 (c.toNat:Int)] w fun e w'=>e=.returned (.bool (ag c))∧w'=w:=by
 by_cases h1:c=32
 ·have q1:=iE (d:=32) (v:=32) rfl h1;have hb:ag c=true:=(by rw [h1];rfl);rw [hb];clear h1 hb;go_enter Tryz.func68,Tryz.ntmps68
  go_wp2_with fail;go_ret;exact ⟨rfl,rfl⟩
 ·have q1:=iD (d:=32) (v:=32) rfl h1;by_cases h2:c=9
  ·have q2:=iE (d:=9) (v:=9) rfl h2;have hb:ag c=true:=(by rw [h2];rfl);rw [hb];clear h1 h2 hb;go_enter Tryz.func68,Tryz.ntmps68
   go_wp2_with fail;go_ret;exact ⟨rfl,rfl⟩
  ·have q2:=iD (d:=9) (v:=9) rfl h2;have hb:ag c=false:=(by unfold ag;simp [h1,h2]);rw [hb];clear h1 h2 hb;go_enter Tryz.func68,Tryz.ntmps68
   go_wp2_with fail;go_ret;exact ⟨rfl,rfl⟩
theorem p9 {l:List UInt8} {i:Nat} {c:UInt8} (h:l[i]? =some c):l.drop i=c::l.drop (i+1):=by
 obtain ⟨hi,rfl⟩:=List.getElem?_eq_some_iff.1 h;exact List.drop_eq_getElem_cons hi
theorem qa (s:ByteArray):s.data.toList.drop s.size=[]:=by rw [Lib.size_eq,List.drop_length]
theorem cS (s:ByteArray) (hz:s.size <= 1000000000) (w:World):Calls Tryz.prog 27 #[.string s] w fun e w'=>e=.returned (.bool (af s.data.toList))∧w'=w:=by
 obtain ⟨B,hB⟩:∃b,af s.data.toList=b:=⟨_,rfl⟩
 rw [hB];have HB:=zh hB;clear hB;go_enter Tryz.func27,Tryz.ntmps27
 go_wp2_with fail;go_loop [3] (fun u3=>∃i:Nat,i <= s.size∧u3=.int .i64 i∧Hid (af (s.data.toList.drop i)=B)) (fun u3=>s.size - (intOf u3).toNat)
 case atStart=>exact ⟨0,Nat.zero_le _,rfl,zh HB.out⟩
 case round=>
  obtain ⟨i,hi,rfl,HR⟩:=hrel;by_cases hlt:i<s.size
  ·have hg:=Lib.data_getElem? s i hlt;obtain ⟨d,hd⟩:∃d,s[i]=d:=⟨_,rfl⟩
   rw [hd]at hg;have hr:=HR.out;rw [p9 hg]at hr;have hgp:=d8 d;cases hb:ag d with
   |true=>
    rw [hb]at hgp;have HN:=zh (show af (s.data.toList.drop (i+1))=B by rw [<- hr];unfold af;rw [List.all_cons,hb,Bool.true_and]);have HG:=zh hgp;clear hg hr hgp hb;go_wp2_with fail;refine (HG.out _).mono ?_;rintro e w' ⟨rfl,rfl⟩;go_wp2_with fail;go_round;case rel=>exact ⟨i+1,by omega,by go_num,HN⟩
    case measure=>simp [intOf];omega
   |false=>
    rw [hb]at hgp;have hBf:B=false:=(by rw [<- hr];unfold af;rw [List.all_cons,hb,Bool.false_and]);have HG:=zh hgp;subst hBf;clear hg hr hgp hb;go_wp2_with fail;refine (HG.out _).mono ?_;rintro e w' ⟨rfl,rfl⟩;go_wp2_with fail;go_ret;exact ⟨rfl,rfl⟩
  ·obtain rfl:i=s.size:=(by omega);have hr:=HR.out;rw [qa]at hr;obtain rfl:B=true:=hr.symm;go_wp2_with fail;go_ret;exact ⟨rfl,rfl⟩
theorem ki (s:ByteArray) (c:UInt8) (hz:s.size <= 1000000000) (w:World):Calls Tryz.prog 65 #[.string s,.int .u8 (c.toNat:Int)] w fun e w'=>e=.returned (.int .i64 (bF s.data.toList c:Int))∧w'=w:=by
 obtain ⟨B,hB⟩:∃b,bF s.data.toList c=b:=⟨_,rfl⟩
 rw [hB];have HB:=zh (show B=0+bF (s.data.toList.drop 0) c by rw [<- hB,List.drop_zero];omega);clear hB;go_enter Tryz.func65,Tryz.ntmps65
 go_wp2_with fail;go_loop [5] (fun u5=>∃i:Nat,i <= s.size∧u5=.int .i64 i∧Hid (B=i+bF (s.data.toList.drop i) c)) (fun u5=>s.size - (intOf u5).toNat)
 case atStart=>exact ⟨0,Nat.zero_le _,rfl,HB⟩
 case round=>
  obtain ⟨i,hi,rfl,HR⟩:=hrel;by_cases hlt:i<s.size
  ·have hg:=Lib.data_getElem? s i hlt;obtain ⟨d,hd⟩:∃d,s[i]=d:=⟨_,rfl⟩
   rw [hd]at hg;have hr:=HR.out;rw [p9 hg]at hr;by_cases hdc:d=c
   ·have q1:=iE (d:=c) rfl hdc;have HN:=zh (show B=(i+1)+bF (s.data.toList.drop (i+1)) c by
     rw [hr];unfold bF;rw [List.takeWhile_cons_of_pos (by simp [hdc]),List.length_cons];omega)
    clear hg hr hdc;go_wp2_with fail;go_round;case rel=>exact ⟨i+1,by omega,by go_num,HN⟩
    case measure=>simp [intOf];omega
   ·have q1:=iD (d:=c) rfl hdc;obtain rfl:B=i:=(by rw [hr];unfold bF;rw [List.takeWhile_cons_of_neg (by simpa using hdc)];rfl);clear hg hr hdc HR HB;go_wp2_with fail;go_ret;exact ⟨rfl,rfl⟩
  ·obtain rfl:i=s.size:=(by omega);have hr:=HR.out;rw [qa]at hr;obtain rfl:B=s.size:=hr;clear HR HB;go_wp2_with fail;go_ret;exact ⟨rfl,rfl⟩
theorem zG (s:ByteArray) (c:UInt8) (hz:s.size <= 1000000000) (w:World):Calls Tryz.prog 66 #[.string s,.int .u8 (c.toNat:Int)] w fun e w'=>e=.returned (.bool (s.data.toList.contains c))∧w'=w:=by
 obtain ⟨B,hB⟩:∃b,s.data.toList.contains c=b:=⟨_,rfl⟩
 rw [hB];have HB:=zh hB;clear hB;go_enter Tryz.func66,Tryz.ntmps66
 go_wp2_with fail;go_loop [5] (fun u5=>∃i:Nat,i <= s.size∧u5=.int .i64 i∧Hid ((s.data.toList.drop i).contains c=B)) (fun u5=>s.size - (intOf u5).toNat)
 case atStart=>exact ⟨0,Nat.zero_le _,rfl,zh HB.out⟩
 case round=>
  obtain ⟨i,hi,rfl,HR⟩:=hrel;by_cases hlt:i<s.size
  ·have hg:=Lib.data_getElem? s i hlt;obtain ⟨d,hd⟩:∃d,s[i]=d:=⟨_,rfl⟩
   rw [hd]at hg;have hr:=HR.out;rw [p9 hg]at hr;by_cases hdc:d=c
   ·have q1:=iE (d:=c) rfl hdc;obtain rfl:B=true:=(by rw [<- hr,hdc];simp);clear hg hr hdc HR HB;go_wp2_with fail;go_ret;exact ⟨rfl,rfl⟩
   ·have q1:=iD (d:=c) rfl hdc;have HN:=zh (show (s.data.toList.drop (i+1)).contains c=B by
     rw [<- hr,List.contains_cons];have:(c==d)=false:=(by simpa using fun e:c=d=>hdc e.symm);rw [this,Bool.false_or])
    clear hg hr hdc;go_wp2_with fail;go_round;case rel=>exact ⟨i+1,by omega,by go_num,HN⟩
    case measure=>simp [intOf];omega
  ·obtain rfl:i=s.size:=(by omega);have hr:=HR.out;rw [qa]at hr;obtain rfl:B=false:=hr.symm;go_wp2_with fail;go_ret;exact ⟨rfl,rfl⟩
theorem Aa {a b:ByteArray} (h:a.data.toList=b.data.toList):a=b:=ByteArray.ext (Array.ext' h)
theorem Cd {s O:ByteArray} {i:Nat} (hi:i <= s.size) (h:O.data.toList=s.data.toList.take i):O++s.extract i s.size=s:=by
 apply Aa;rw [ByteArray.data_append,Array.toList_append,h,ByteArray.data_extract,Array.toList_extract,List.extract_eq_take_drop];have e:(s.data.toList.drop i).take (s.size - i)=s.data.toList.drop i:=List.take_of_length_le (by rw [List.length_drop,<- Lib.size_eq];exact Nat.le_refl _);rw [e,List.take_append_drop]
theorem ot (s:ByteArray) (h9:(9:UInt8)∉s.data.toList) (hz:s.size <= 1000000000) (w:World):Calls Tryz.prog 69 #[.string s] w fun e w'=>e=.returned (.string s)∧w'=w:=by
 have H9:=zh h9;clear h9;go_enter Tryz.func69,Tryz.ntmps69
 go_wp2_with fail;go_loop [3,4] (fun u3 u4=>∃(i:Nat) (O:ByteArray),i <= s.size∧u3=.string O∧u4=.int .i64 i∧O.size=i∧Hid (O.data.toList=s.data.toList.take i)) (fun _ u4=>s.size - (intOf u4).toNat)
 case atStart=>exact ⟨0,⟨#[]⟩,Nat.zero_le _,rfl,rfl,rfl,zh (by simp)⟩
 case round=>
  obtain ⟨i,O,hi,rfl,rfl,hO,HR⟩:=hrel;have hOz:O.size <= 1000000000:=(by omega);clear hO;by_cases hlt:i<s.size
  ·have hg:=Lib.data_getElem? s i hlt;obtain ⟨d,hd⟩:∃d,s[i]=d:=⟨_,rfl⟩
   rw [hd]at hg;have hgp:=d8 d;have hd9:d≠9:=fun e=>H9.out (by rw [<- e];exact List.mem_of_getElem? hg);have q9:=iD (d:=9) (v:=9) rfl hd9;cases hb:ag d with
   |true=>
    rw [hb]at hgp;have h32:d=32:=by
     unfold ag at hb;simp only [Bool.or_eq_true,beq_iff_eq]at hb;exact hb.resolve_right hd9
    have HN:=zh (show (O++(⟨#[32]⟩:ByteArray)).data.toList=s.data.toList.take (i+1) by
     rw [ByteArray.data_append,Array.toList_append,HR.out,List.take_add_one,hg,h32];rfl)
    have HZ:=zh (show (O++(⟨#[32]⟩:ByteArray)).size=i+1 by
     rw [Lib.size_eq,HN.out,List.length_take,<- Lib.size_eq];omega)
    have HG:=zh hgp;clear hg hgp hb hd9 h32;go_wp2_with fail;refine (HG.out _).mono ?_;rintro e w' ⟨rfl,rfl⟩;go_wp2_with fail;go_loop [3] (fun u3=>u3=.string (O++(⟨#[32]⟩:ByteArray))) (fun _=>0)
    case atStart=>rfl
    case round=>
     obtain rfl:=hrel;go_wp2_with fail;go_round;case rel=>exact ⟨i+1,_,by omega,rfl,by go_num,HZ.out,HN⟩
     case measure=>simp [intOf];omega
   |false=>
    rw [hb]at hgp;have HE:=zh (Cd hi HR.out);have HG:=zh hgp;clear hg hgp hb hd9;go_wp2_with fail;refine (HG.out _).mono ?_;rintro e w' ⟨rfl,rfl⟩;go_wp2_with fail;go_ret;exact ⟨by show Ending.returned (.string (O++s.extract i s.size))=_;rw [HE.out],rfl⟩
  ·obtain rfl:i=s.size:=(by omega);have hO2:O=s:=Aa (by rw [HR.out,Lib.size_eq,List.take_length]);subst hO2;clear HR;go_wp2_with fail;go_ret;exact ⟨rfl,rfl⟩
theorem eV (s:ByteArray) (h9:(9:UInt8)∉s.data.toList) (hz:s.size <= 1000000000) (w:World):Calls Tryz.prog 28 #[.string s] w fun e w'=>e=.returned (.int .i64 (bF s.data.toList 32:Int))∧w'=w:=by
 obtain ⟨B,hB⟩:∃b,bF s.data.toList 32=b:=⟨_,rfl⟩
 rw [hB];have HB:=zh (show B=0+bF (s.data.toList.drop 0) 32 by rw [<- hB,List.drop_zero];omega);have HX:=zh (ot s h9 hz);clear hB h9;go_enter Tryz.func28,Tryz.ntmps28
 go_wp2_with fail;refine (HX.out _).mono ?_;rintro e w' ⟨rfl,rfl⟩;go_wp2_with fail;go_loop [4] (fun u4=>∃i:Nat,i <= s.size∧u4=.int .i64 i∧Hid (B=i+bF (s.data.toList.drop i) 32)) (fun u4=>s.size - (intOf u4).toNat)
 case atStart=>exact ⟨0,Nat.zero_le _,rfl,HB⟩
 case round=>
  obtain ⟨i,hi,rfl,HR⟩:=hrel;by_cases hlt:i<s.size
  ·have hg:=Lib.data_getElem? s i hlt;obtain ⟨d,hd⟩:∃d,s[i]=d:=⟨_,rfl⟩
   rw [hd]at hg;have hr:=HR.out;rw [p9 hg]at hr;by_cases hdc:d=32
   ·have q1:=iE (d:=32) (v:=32) rfl hdc;have HN:=zh (show B=(i+1)+bF (s.data.toList.drop (i+1)) 32 by
     rw [hr];unfold bF;rw [List.takeWhile_cons_of_pos (by simp [hdc]),List.length_cons];omega)
    clear hg hr hdc;go_wp2_with fail;go_round;case rel=>exact ⟨i+1,by omega,by go_num,HN⟩
    case measure=>simp [intOf];omega
   ·have q1:=iD (d:=32) (v:=32) rfl hdc;obtain rfl:B=i:=(by rw [hr];unfold bF;rw [List.takeWhile_cons_of_neg (by simpa using hdc)];rfl);clear hg hr hdc HR HB;go_wp2_with fail;go_ret;exact ⟨rfl,rfl⟩
  ·obtain rfl:i=s.size:=(by omega);have hr:=HR.out;rw [qa]at hr;obtain rfl:B=s.size:=hr;clear HR HB;go_wp2_with fail;go_ret;exact ⟨rfl,rfl⟩
def zN (v:Value):Nat:=match v with
 | .string s=>s.size
 |_=>0
theorem qJ:∀(l:List UInt8) (c:Nat),(9:UInt8)∉l ->ff l c=c+bF l 32
 |[],c,_=>rfl
 |x::t,c,h=>by
  have h9:x≠9:=fun e=>h (by rw [e];exact List.mem_cons_self ..);rw [ff];by_cases hx:x=32
  ·rw [if_pos hx,qJ t (c+1) (fun e=>h (List.mem_cons_of_mem _ e))];unfold bF;rw [List.takeWhile_cons_of_pos (by simp [hx]),List.length_cons];omega
  ·rw [if_neg hx,if_neg h9];unfold bF;rw [List.takeWhile_cons_of_neg (by simpa using hx)];rfl
theorem cE {l:List UInt8} (h:(9:UInt8)∉l):aw l=bF l 32:=by unfold aw;rw [qJ l 0 h,Nat.zero_add]
theorem lL:∀(l:List UInt8),(9:UInt8)∉l ->ab l=l.drop (bF l 32)
 |[],_=>rfl
 |x::t,h=>by
  have h9:x≠9:=fun e=>h (by rw [e];exact List.mem_cons_self ..);by_cases hx:x=32
  ·rw [fk (by rw [hx];rfl),lL t (fun e=>h (List.mem_cons_of_mem _ e))];unfold bF;rw [List.takeWhile_cons_of_pos (by simp [hx]),List.length_cons,List.drop_succ_cons]
  ·rw [ep (by unfold ag;simp [hx,h9])];unfold bF;rw [List.takeWhile_cons_of_neg (by simpa using hx)];rfl
theorem xJ:∀(l:List UInt8),List.replicate (bF l 32) 32=l.take (bF l 32)
 |[]=>rfl
 |x::t=>by
  unfold bF;by_cases hx:x=32
  ·rw [List.takeWhile_cons_of_pos (by simp [hx]),List.length_cons,List.replicate_succ,List.take_succ_cons,hx];congr 1;exact xJ t
  ·rw [List.takeWhile_cons_of_neg (by simpa using hx)];rfl
theorem sk {l:List UInt8} (h:(9:UInt8)∉l):cT l=l:=by
 unfold cT;rw [cE h,lL l h,xJ,List.take_append_drop]
theorem oe {l:List UInt8} (h:(9:UInt8)∉l) (n:Nat):aO l n=l.drop (min n (bF l 32)):=by
 unfold aO;rw [sk h,cE h]
theorem iR {l:List UInt8} (h:(9:UInt8)∉l) (n:Nat):(9:UInt8)∉l.drop n:=fun e=>h (List.mem_of_mem_drop e)
theorem uI {l:List UInt8} (h:(9:UInt8)∉l):(9:UInt8)∉ab l:=by rw [lL l h];exact iR h _
theorem zu {l:List UInt8} (h:(9:UInt8)∉l) (n:Nat):(9:UInt8)∉aO l n:=by rw [oe h];exact iR h _
theorem lS (s:ByteArray) (n:Nat) (h9:(9:UInt8)∉s.data.toList) (hz:s.size <= 1000000) (hn:n <= 1000000000) (w:World):
  Calls Tryz.prog 70 #[.string s,.int .i64 n] w fun e w'=>e=.returned (.string ⟨(aO s.data.toList n).toArray⟩)∧w'=w:=by
 have hx:=ot s h9 (by omega);have hi:=eV s h9 (by omega);have hI0:=eg s.data.toList 32;rw [<- Lib.size_eq]at hI0;have hst:=oe h9 n;obtain ⟨I,hI⟩:∃I,bF s.data.toList 32=I:=⟨_,rfl⟩
 rw [hI]at hi hst hI0;obtain ⟨m,hm⟩:∃m,min n I=m:=⟨_,rfl⟩
 rw [hm]at hst;obtain ⟨R,hR⟩:∃R:ByteArray,s.extract m s.size=R:=⟨_,rfl⟩
 have hv:(⟨(aO s.data.toList n).toArray⟩:ByteArray)=R:=by
  apply ByteArray.ext;apply Array.ext';rw [<- hR,Lib.extract_to_end,hst]
 have hmi:min (n:Int) (I:Int)=(m:Int):=(by omega);have hmx:max (m:Int) 0=(m:Int):=(by omega);have hmz:(m:Int) <= (s.size:Int):=(by omega);have HV:=zh hv;have HX:=zh hx;have HI:=zh hi;clear hv hx hi hst hI hm h9;go_enter Tryz.func70,Tryz.ntmps70
 go_wp2_with fail;refine (HX.out _).mono ?_;rintro e w' ⟨rfl,rfl⟩;go_wp2_with fail;refine (HI.out _).mono ?_;rintro e w' ⟨rfl,rfl⟩;go_wp2_with fail;go_ret;refine ⟨?_,rfl⟩;rw [HV.out];rfl
theorem dS (s:ByteArray) (h9:(9:UInt8)∉s.data.toList) (hz:s.size <= 1000000) (w:World):
  Calls Tryz.prog 64 #[.string s] w fun e w'=>e=.returned (.tuple #[.string ⟨(ab s.data.toList).toArray⟩,.bool (bX s.data.toList)])∧w'=w:=by
 have hi:=eV s h9 (by omega);have hI0:=eg s.data.toList 32;rw [<- Lib.size_eq]at hI0;have hst:=lS s (aw s.data.toList) h9 hz (by rw [cE h9];omega);rw [rM,cE h9]at hst;obtain ⟨X,hX⟩:∃X:ByteArray,(⟨(ab s.data.toList).toArray⟩:ByteArray)=X:=⟨_,rfl⟩
 rw [hX]at hst;unfold bX;rw [cE h9,hX];obtain ⟨I,hI⟩:∃I,bF s.data.toList 32=I:=⟨_,rfl⟩
 rw [hI]at hi hst;rw [hI];have hm:((I:Int) <= 3)=(I <= 3):=(by simp;omega);have HI:=zh hi;have HS:=zh hst;have HM:=zh hm;clear hi hst hX hI hI0 hm h9;go_enter Tryz.func64,Tryz.ntmps64
 go_wp2_with fail;refine (HI.out _).mono ?_;rintro e w' ⟨rfl,rfl⟩;go_wp2_with fail;refine (HS.out _).mono ?_;rintro e w' ⟨rfl,rfl⟩;go_wp2_with fail;have hb:decide ((I:Int) <= 3)=decide (I <= 3):=(by simp only [HM.out]);refine bodyPost_ret (v:=.tuple #[.string X,.bool (decide ((I:Int) <= 3))]) (by simp [results,Tryz.results64,go_sem]) rfl ⟨by rw [hb],rfl⟩
theorem gJ (p:UInt8 ->Bool) (l:List UInt8) (c:UInt8):ai p (l++[c])=if p c=true then ai p l else l++[c]:=by
 unfold ai;rw [List.reverse_append,List.reverse_cons,List.reverse_nil,List.nil_append,List.singleton_append];by_cases h:p c=true
 ·rw [if_pos h,List.dropWhile_cons_of_pos h]
 ·rw [if_neg h,List.dropWhile_cons_of_neg h];simp
theorem kg (S:ByteArray) (h:0<S.size) (y:UInt8) (hy:∀h,S[S.size - 1]'h=y):S.data.toList=S.data.toList.take (S.size - 1)++[y]:=by
 have:=fY S (S.size - 1) (by omega);rw [hy]at this;rw [<- this,show S.size - 1+1=S.size by omega,Lib.size_eq,List.take_length]
theorem dO (S:ByteArray) (k:Nat):(S.extract 0 k).data.toList=S.data.toList.take k:=by rw [Lib.extract_data];simp
theorem ko {p:UInt8 ->Bool} {S T R:List UInt8} {y:UInt8} (h:ai p S=R) (hs:S=T++[y]) (hy:p y=true):ai p T=R:=by rw [hs,gJ,if_pos hy]at h;exact h
theorem lU {p:UInt8 ->Bool} {S T R:List UInt8} {y:UInt8} (h:ai p S=R) (hs:S=T++[y]) (hy:p y=false):S=R:=by rw [hs,gJ,if_neg (by rw [hy];simp)]at h;rw [hs];exact h
theorem kj {S T R:List UInt8} {y:UInt8} (h:ab S=R) (hs:S=y::T) (hy:ag y=true):ab T=R:=by rw [hs,fk hy]at h;exact h
theorem lT {S T R:List UInt8} {y:UInt8} (h:ab S=R) (hs:S=y::T) (hy:ag y=false):S=R:=by rw [hs,ep hy]at h;rw [hs];exact h
theorem zI (s:ByteArray) (hz:s.size <= 1000000000) (w:World):Calls Tryz.prog 74 #[.string s] w fun e w'=>e=.returned (.string ⟨(ai ag s.data.toList).toArray⟩)∧w'=w:=by
 go_enter Tryz.func74,Tryz.ntmps74
 go_wp2_with fail;go_loop [0] (fun u0=>∃S:ByteArray,u0=.string S∧S.size <= s.size∧ai ag S.data.toList=ai ag s.data.toList) (fun u0=>zN u0)
 case atStart=>exact ⟨s,rfl,Nat.le_refl _,rfl⟩
 case round=>
  obtain ⟨S,rfl,hle,htr⟩:=hrel;have HTR:=zh htr;clear htr;by_cases h0:0<S.size
  ·have he:=aX h0;obtain ⟨y,hy⟩:∃y,∀h,S[S.size - 1]'h=y:=⟨S[S.size - 1]'(by omega),fun _=>rfl⟩
   have HY:=zh (kg S h0 y hy);have hgp:=d8 y;obtain ⟨b,hb⟩:∃b,ag y=b:=⟨_,rfl⟩
   rw [hb]at hgp;have HG:=zh hgp;have HB:=zh hb;clear hb hgp;go_wp2_with fail;refine (HG.out _).mono ?_;rintro e w' ⟨rfl,rfl⟩;cases b
   ·have HE:=zh (lU HTR.out HY.out HB.out);go_wp2_with fail;go_ret;exact ⟨fA HE.out,rfl⟩
   ·have HE:=zh (ko HTR.out HY.out HB.out);go_wp2_with fail;go_round;case rel=>exact ⟨_,rfl,by rw [Lib.size_eq,dO];simp;omega,by rw [dO];exact HE.out⟩
    case measure=>simp only [zN];rw [Lib.size_eq,dO];simp;omega
  ·have he:=aS (s:=S) (by omega);have HE:=zh (show S.data.toList=ai ag s.data.toList by rw [<- HTR.out,bG S (by omega)];rfl);go_wp2_with fail;go_ret;exact ⟨fA HE.out,rfl⟩
theorem kO (s:ByteArray) (hz:s.size <= 1000000000) (w:World):Calls Tryz.prog 67 #[.string s] w fun e w'=>e=.returned (.string ⟨(trimB s.data.toList).toArray⟩)∧w'=w:=by
 go_enter Tryz.func67,Tryz.ntmps67
 go_wp2_with fail;go_loop [0] (fun u0=>∃S:ByteArray,u0=.string S∧S.size <= s.size∧ab S.data.toList=ab s.data.toList) (fun u0=>zN u0)
 case atStart=>exact ⟨s,rfl,Nat.le_refl _,rfl⟩
 case round=>
  obtain ⟨S,rfl,hle,htr⟩:=hrel;have HTR:=zh htr;clear htr;by_cases h0:0<S.size
  ·have he:=aX h0;have hda:=bP S 0 h0;obtain ⟨d,hd⟩:∃d,S[0]=d:=⟨_,rfl⟩
   rw [hd,List.drop_zero,Nat.zero_add]at hda;have HD:=zh hda;clear hda;have hgp:=d8 d;obtain ⟨b,hb⟩:∃b,ag d=b:=⟨_,rfl⟩
   rw [hb]at hgp;have HG:=zh hgp;have HB:=zh hb;clear hb hgp;go_wp2_with fail;refine (HG.out _).mono ?_;rintro e w' ⟨rfl,rfl⟩;cases b
   ·have HST:=zh (lT HTR.out HD.out HB.out);clear HTR HD HB HG;go_wp2_with fail;go_loop [0] (fun u0=>∃S:ByteArray,u0=.string S∧S.size <= s.size∧ai ag S.data.toList=trimB s.data.toList) (fun u0=>zN u0)
    case atStart=>exact ⟨S,rfl,hle,by rw [HST.out];rfl⟩
    case round=>
     clear HST hd he h0 hle;obtain ⟨S,rfl,hle,htr⟩:=hrel;have HTR:=zh htr;clear htr;by_cases h0:0<S.size
     ·have he:=aX h0;obtain ⟨y,hy⟩:∃y,∀h,S[S.size - 1]'h=y:=⟨S[S.size - 1]'(by omega),fun _=>rfl⟩
      have HY:=zh (kg S h0 y hy);have hgp:=d8 y;obtain ⟨b,hb⟩:∃b,ag y=b:=⟨_,rfl⟩
      rw [hb]at hgp;have HG:=zh hgp;have HB:=zh hb;clear hb hgp;go_wp2_with fail;refine (HG.out _).mono ?_;rintro e w' ⟨rfl,rfl⟩;cases b
      ·have HE:=zh (lU HTR.out HY.out HB.out);go_wp2_with fail;go_ret;exact ⟨fA HE.out,rfl⟩
      ·have HE:=zh (ko HTR.out HY.out HB.out);go_wp2_with fail;go_round;case rel=>exact ⟨_,rfl,by rw [Lib.size_eq,dO];simp;omega,by rw [dO];exact HE.out⟩
       case measure=>simp only [zN];rw [Lib.size_eq,dO];simp;omega
     ·have he:=aS (s:=S) (by omega);have HE:=zh (show S.data.toList=trimB s.data.toList by rw [<- HTR.out,bG S (by omega)];rfl);go_wp2_with fail;go_ret;exact ⟨fA HE.out,rfl⟩
   ·have HE:=zh (kj HTR.out HD.out HB.out);go_wp2_with fail;go_round;case rel=>exact ⟨_,rfl,by rw [Lib.size_eq,Lib.extract_to_end];simp;omega,by rw [Lib.extract_to_end];exact HE.out⟩
    case measure=>simp only [zN];rw [Lib.size_eq,Lib.extract_to_end];simp;omega
  ·have he:=aS (s:=S) (by omega);have HST:=zh (show S.data.toList=ab s.data.toList by rw [<- HTR.out,bG S (by omega)];rfl);have HN:=zh (bG S (by omega));go_wp2_with fail;go_loop [0] (fun u0=>∃S:ByteArray,u0=.string S∧S.size <= s.size∧ai ag S.data.toList=trimB s.data.toList) (fun u0=>zN u0)
   case atStart=>exact ⟨S,rfl,hle,by rw [HST.out];rfl⟩
   case round=>
    clear HST HN he h0 hle;obtain ⟨S,rfl,hle,htr⟩:=hrel;have HTR:=zh htr;clear htr;by_cases h0:0<S.size
    ·have he:=aX h0;obtain ⟨y,hy⟩:∃y,∀h,S[S.size - 1]'h=y:=⟨S[S.size - 1]'(by omega),fun _=>rfl⟩
     have HY:=zh (kg S h0 y hy);have hgp:=d8 y;obtain ⟨b,hb⟩:∃b,ag y=b:=⟨_,rfl⟩
     rw [hb]at hgp;have HG:=zh hgp;have HB:=zh hb;clear hb hgp;go_wp2_with fail;refine (HG.out _).mono ?_;rintro e w' ⟨rfl,rfl⟩;cases b
     ·have HE:=zh (lU HTR.out HY.out HB.out);go_wp2_with fail;go_ret;exact ⟨fA HE.out,rfl⟩
     ·have HE:=zh (ko HTR.out HY.out HB.out);go_wp2_with fail;go_round;case rel=>exact ⟨_,rfl,by rw [Lib.size_eq,dO];simp;omega,by rw [dO];exact HE.out⟩
      case measure=>simp only [zN];rw [Lib.size_eq,dO];simp;omega
    ·have he:=aS (s:=S) (by omega);have HE:=zh (show S.data.toList=trimB s.data.toList by rw [<- HTR.out,bG S (by omega)];rfl);go_wp2_with fail;go_ret;exact ⟨fA HE.out,rfl⟩
theorem vd {l:List UInt8} {c:UInt8} (hc:ag c=false):(trimB l).contains c=l.contains c:=by
 rw [Bool.eq_iff_iff,List.contains_iff_mem,List.contains_iff_mem];unfold trimB ai ab;rw [List.mem_reverse];constructor
 ·intro h;exact (List.dropWhile_sublist _).subset (List.mem_reverse.1 ((List.dropWhile_sublist _).subset h))
 ·intro h;exact jS _ _ _ (List.mem_reverse.2 (jS _ _ _ h hc)) hc
theorem qd (s:ByteArray) (h9:(9:UInt8)∉s.data.toList) (hs:s.size <= 1000000) (w:World):
  Calls Tryz.prog 25 #[.string s] w fun e w'=>e=.returned (.tuple #[.int .u8 ((bq s.data.toList).1.toNat:Int),.int .i64 (bq s.data.toList).2.1,.string ⟨(bq s.data.toList).2.2.1.toArray⟩,.bool (bq s.data.toList).2.2.2])∧Below w.heap.size w w':=by
 have hbe:=dS s h9 hs;have hXz:=cH s.data.toList;obtain ⟨X,hX⟩:∃X:ByteArray,(⟨(ab s.data.toList).toArray⟩:ByteArray)=X:=⟨_,rfl⟩
 have hXl:ab s.data.toList=X.data.toList:=(by rw [<- hX]);rw [hX]at hbe;rw [hXl,<- Lib.size_eq,<- Lib.size_eq]at hXz;obtain ⟨M,hM⟩:∃M,bX s.data.toList=M:=⟨_,rfl⟩
 rw [hM]at hbe;have hno:=pf hXl hM;have hso:=fun c h=>ph (c:=c) hXl h;rw [hM]at hso;have HBE:=zh hbe;have HN:=zh hno;have HS:=zh hso;clear hbe hno hso hM hXl hX h9;go_enter Tryz.func25,Tryz.ntmps25
 go_wp2_with fail;refine (HBE.out _).mono ?_;rintro e w' ⟨rfl,rfl⟩;cases M
 ·have HQ:=zh (HN.out (Or.inr (Or.inl rfl)));go_wp2_with fail;refine bodyPost_ret (v:=.tuple #[.int .u8 0,.int .i64 0,.string ⟨#[]⟩,.bool false]) (by simp [results,Tryz.results25,go_sem]) rfl ⟨(by rw [HQ.out];rfl),Below.refl _ _⟩
 ·by_cases h0:0<X.size
  ·have he:=aX h0;obtain ⟨c,hc⟩:∃c,X[0]=c:=⟨_,rfl⟩
   have hh:=dC X h0;rw [hc]at hh;by_cases hcc:c=96∨c=126
   ·have hro:=ki X c (by omega);have hKz:=eg X.data.toList c;rw [<- Lib.size_eq]at hKz;obtain ⟨K,hK⟩:∃K,bF X.data.toList c=K:=⟨_,rfl⟩
    rw [hK]at hro hKz;obtain ⟨R,hR⟩:∃R:ByteArray,X.extract K X.size=R:=⟨_,rfl⟩
    have hRl:X.data.toList.drop K=R.data.toList:=(by rw [<- hR,Lib.extract_to_end]);have hRz:R.size <= X.size:=(by rw [<- hR];simp);have hT:=kO R (by omega);obtain ⟨T,hTT⟩:∃T:ByteArray,(⟨(trimB R.data.toList).toArray⟩:ByteArray)=T:=⟨_,rfl⟩
    have hTl:trimB R.data.toList=T.data.toList:=(by rw [<- hTT]);rw [hTT]at hT;have hso:=HS.out c rfl hh hcc;have hno2:(K<3∨c=96∧(trimB R.data.toList).contains 96=true) ->bq s.data.toList=(0,0,[],false):=fun h=>HN.out (Or.inr (Or.inr ⟨c,hh,Or.inr (by rw [hK,hRl];exact h)⟩));rw [hK,hRl,vd (by decide),hTl]at hso;rw [vd (by decide)]at hno2;have hin:∀W,Calls Tryz.prog 66 #[.string R,.int .u8 96] W fun e w'=>e=.returned (.bool (R.data.toList.contains 96))∧w'=W:=fun W=>zG R 96 (by omega) W;obtain ⟨J,hJ⟩:∃J,R.data.toList.contains 96=J:=⟨_,rfl⟩
    rw [hJ]at hin hso hno2;have HRO:=zh hro;have HT:=zh hT;have HN2:=zh hno2;have HS2:=zh hso;have HIN:=zh hin;clear hro hT hno2 hso hin hJ hTl hTT hRl hK hh hRz;by_cases k3:K<3
    ·have q3:(K:Int)<3:=(by omega);have HQ:=zh (HN2.out (Or.inl k3));rcases hcc with rfl|rfl
     all_goals
      go_wp2_with fail;refine (HRO.out _).mono ?_;rintro e w' ⟨rfl,rfl⟩;go_wp2_with fail;refine bodyPost_ret (v:=.tuple #[.int .u8 0,.int .i64 0,.string ⟨#[]⟩,.bool false]) (by simp [results,Tryz.results25,go_sem]) rfl ⟨(by rw [HQ.out];rfl),Below.refl _ _⟩
    ·have q3:¬(K:Int)<3:=(by omega);rcases hcc with rfl|rfl
     ·cases J
      ·have HQ:=zh (HS2.out k3 (by simp));clear HS2 HN2;go_wp2_with fail;refine (HRO.out _).mono ?_;rintro e w' ⟨rfl,rfl⟩;go_wp2_with fail;refine (HIN.out _).mono ?_;rintro e w' ⟨rfl,rfl⟩;go_wp2_with fail;go_quiet (first|(go_at_call 67;exact Calls.quiet_of_same (HT.out _)))
       go_wp2_with fail;refine bodyPost_ret (v:=.tuple #[.int .u8 96,.int .i64 K,.string T,.bool true]) (by simp [results,Tryz.results25,go_sem]) rfl ⟨(by rw [HQ.out];simp only [Lib.mk_data];rfl),bD (Below.refl _ _) nq⟩
      ·have HQ:=zh (HN2.out (Or.inr ⟨rfl,rfl⟩));clear HS2 HN2;go_wp2_with fail;refine (HRO.out _).mono ?_;rintro e w' ⟨rfl,rfl⟩;go_wp2_with fail;refine (HIN.out _).mono ?_;rintro e w' ⟨rfl,rfl⟩;go_wp2_with fail;refine bodyPost_ret (v:=.tuple #[.int .u8 0,.int .i64 0,.string ⟨#[]⟩,.bool false]) (by simp [results,Tryz.results25,go_sem]) rfl ⟨(by rw [HQ.out];rfl),Below.refl _ _⟩
     ·have HQ:=zh (HS2.out k3 (by rintro ⟨h,_⟩;cases h));clear HS2 HN2;go_wp2_with fail;refine (HRO.out _).mono ?_;rintro e w' ⟨rfl,rfl⟩;go_wp2_with fail;go_quiet (first|(go_at_call 67;exact Calls.quiet_of_same (HT.out _)))
      go_wp2_with fail;refine bodyPost_ret (v:=.tuple #[.int .u8 126,.int .i64 K,.string T,.bool true]) (by simp [results,Tryz.results25,go_sem]) rfl ⟨(by rw [HQ.out];simp only [Lib.mk_data];rfl),bD (Below.refl _ _) nq⟩
   ·have h96:c≠96:=fun e=>hcc (Or.inl e);have h126:c≠126:=fun e=>hcc (Or.inr e);have HQ:=zh (HN.out (Or.inr (Or.inr ⟨c,hh,Or.inl ⟨h96,h126⟩⟩)));have t1:((c.toNat:Int) !=96)=true:=bN (d:=96) h96;have t2:((c.toNat:Int) !=126)=true:=bN (d:=126) h126;clear hh hcc h96 h126;go_wp2_with fail;refine bodyPost_ret (v:=.tuple #[.int .u8 0,.int .i64 0,.string ⟨#[]⟩,.bool false]) (by simp [results,Tryz.results25,go_sem]) rfl ⟨(by rw [HQ.out];rfl),Below.refl _ _⟩
  ·have he:=aS (s:=X) (by omega);have HQ:=zh (HN.out (Or.inl (by omega)));go_wp2_with fail;refine bodyPost_ret (v:=.tuple #[.int .u8 0,.int .i64 0,.string ⟨#[]⟩,.bool false]) (by simp [results,Tryz.results25,go_sem]) rfl ⟨(by rw [HQ.out];rfl),Below.refl _ _⟩
theorem vh (s:ByteArray) (c:UInt8) (n:Nat) (h9:(9:UInt8)∉s.data.toList) (hs:s.size <= 1000000) (hn:n <= 1000000000) (w:World):
  Calls Tryz.prog 30 #[.string s,.int .u8 (c.toNat:Int),.int .i64 n] w fun e w'=>e=.returned (.bool (bO s.data.toList c n))∧w'=w:=by
 have hbe:=dS s h9 hs;have hXz:=cH s.data.toList;obtain ⟨X,hX⟩:∃X:ByteArray,(⟨(ab s.data.toList).toArray⟩:ByteArray)=X:=⟨_,rfl⟩
 have hXl:ab s.data.toList=X.data.toList:=(by rw [<- hX]);rw [hX]at hbe;rw [hXl,<- Lib.size_eq,<- Lib.size_eq]at hXz;obtain ⟨M,hM⟩:∃M,bX s.data.toList=M:=⟨_,rfl⟩
 rw [hM]at hbe;have hro:=ki X c (by omega);have hKz:=eg X.data.toList c;rw [<- Lib.size_eq]at hKz;have hv:bO s.data.toList c n=(M&&decide (max n 1 <= bF X.data.toList c)&&af (X.data.toList.drop (bF X.data.toList c))):=by
  unfold bO;rw [hM,hXl]
 obtain ⟨K,hK⟩:∃K,bF X.data.toList c=K:=⟨_,rfl⟩
 rw [hK]at hro hKz hv;obtain ⟨R,hR⟩:∃R:ByteArray,X.extract K X.size=R:=⟨_,rfl⟩
 have hRl:X.data.toList.drop K=R.data.toList:=(by rw [<- hR,Lib.extract_to_end]);have hRz:R.size <= X.size:=(by rw [<- hR];simp);rw [hRl]at hv;have hbl:=cS R (by omega);obtain ⟨B,hB⟩:∃B,af R.data.toList=B:=⟨_,rfl⟩
 rw [hB]at hbl hv;have HBE:=zh hbe;have HRO:=zh hro;have HBL:=zh hbl;have HV:=zh hv;clear hbe hro hbl hv hM hXl hX hK hRl hB hRz h9;go_enter Tryz.func30,Tryz.ntmps30
 go_wp2_with fail;refine (HBE.out _).mono ?_;rintro e w' ⟨rfl,rfl⟩;go_wp2_with fail;refine (HRO.out _).mono ?_;rintro e w' ⟨rfl,rfl⟩;cases M
 ·have HQ:=zh (show bO s.data.toList c n=false by rw [HV.out];rfl);go_wp2_with fail;go_ret;exact ⟨by rw [HQ.out];try rfl,rfl⟩
 ·by_cases km:n <= K
  ·have qm:(n:Int) <= (K:Int):=(by omega);by_cases k1:1 <= K
   ·have q1:(1:Int) <= (K:Int):=(by omega);have HQ:=zh (show bO s.data.toList c n=B by rw [HV.out,decide_eq_true (by omega)];simp);go_wp2_with fail;refine (HBL.out _).mono ?_;rintro e w' ⟨rfl,rfl⟩;go_wp2_with fail;go_ret;exact ⟨by rw [HQ.out];try rfl,rfl⟩
   ·have q1:¬(1:Int) <= (K:Int):=(by omega);have HQ:=zh (show bO s.data.toList c n=false by rw [HV.out,decide_eq_false (by omega)];simp);go_wp2_with fail;go_ret;exact ⟨by rw [HQ.out];try rfl,rfl⟩
  ·have qm:¬(n:Int) <= (K:Int):=(by omega);have HQ:=zh (show bO s.data.toList c n=false by rw [HV.out,decide_eq_false (by omega)];simp);go_wp2_with fail;go_ret;exact ⟨by rw [HQ.out];try rfl,rfl⟩
theorem gp (d c:UInt8) (t:List UInt8):bf d (c::t)=if c=d then (t,true)else (c::t,false):=by
 unfold bf Lib.trimPrefix Lib.hasPrefix;by_cases h:c=d
 ·rw [if_pos h,h];simp
 ·have h2:(d==c)=false:=(by simpa using fun e:d=c=>h e.symm);rw [if_neg h];simp [List.isPrefixOf,h2]
theorem Bd {s:List UInt8} {X:ByteArray} {M:Bool} (hX:ab s=X.data.toList) (hM:bX s=M) (h:M=false∨∀t,X.data.toList≠62::t):bR s=([],false):=by
 rw [pM hX hM,if_neg];rintro ⟨h1,h2⟩;rcases h with h|h
 ·rw [h]at h1;cases h1
 ·cases hl:X.data.toList with
  |nil=>rw [hl]at h2;cases h2
  |cons c t=>
   rw [hl,gp]at h2;by_cases hc:c=62
   ·exact h t (by rw [hl,hc])
   ·rw [if_neg hc]at h2;cases h2
theorem zb {s t:List UInt8} {X:ByteArray} (hX:ab s=X.data.toList) (hM:bX s=true) (h:X.data.toList=62::t):bR s=(Lib.trimPrefix t [32],true):=by
 rw [pM hX hM,h,gp,if_pos rfl,if_pos ⟨rfl,rfl⟩]
theorem CD (d:UInt8) (t:List UInt8):Lib.trimPrefix t [d]=(bf d t).1:=rfl
theorem qe (s:ByteArray) (h9:(9:UInt8)∉s.data.toList) (hs:s.size <= 1000000) (w:World):
  Calls Tryz.prog 33 #[.string s] w fun e w'=>e=.returned (.tuple #[.string ⟨(bR s.data.toList).1.toArray⟩,.bool (bR s.data.toList).2])∧w'=w:=by
 have hbe:=dS s h9 hs;have hXz:=cH s.data.toList;obtain ⟨X,hX⟩:∃X:ByteArray,(⟨(ab s.data.toList).toArray⟩:ByteArray)=X:=⟨_,rfl⟩
 have hXl:ab s.data.toList=X.data.toList:=(by rw [<- hX]);rw [hX]at hbe;rw [hXl,<- Lib.size_eq,<- Lib.size_eq]at hXz;obtain ⟨M,hM⟩:∃M,bX s.data.toList=M:=⟨_,rfl⟩
 rw [hM]at hbe;have HNO:=zh (fun h=>Bd hXl hM h);have HYES:=zh (fun (h:M=true) t=>zb (t:=t) hXl (hM.trans h));have HBE:=zh hbe;clear hbe hM hXl hX h9;go_enter Tryz.func33,Tryz.ntmps33
 go_wp2_with fail;refine (HBE.out _).mono ?_;rintro e w' ⟨rfl,rfl⟩;cases M
 ·have HQ:=zh (HNO.out (Or.inl rfl));go_wp2_with fail
  go_ret2
  exact ⟨by rw [HQ.out];try rfl,rfl⟩
 ·by_cases h0:0<X.size
  ·have he:=aX h0;have hda:=bP X 0 h0;rw [List.drop_zero,Nat.zero_add]at hda;obtain ⟨c,hc⟩:∃c,X[0]=c:=⟨_,rfl⟩
   rw [hc]at hda;by_cases h62:c=62
   ·have t1:((c.toNat:Int) !=62)=false:=dX (d:=62) h62;rw [h62]at hda;have hq:=HYES.out rfl _ hda;have hX1:(1:Int) <= (X.size:Int):=(by omega);by_cases h1:1<X.size
    ·have q1:(1:Int)<(X.size:Int):=(by omega);have hd1:=bP X 1 h1;obtain ⟨d,hd⟩:∃d,X[1]=d:=⟨_,rfl⟩
     rw [hd]at hd1;rw [hd1,CD,gp]at hq;by_cases h32:d=32
     ·have t2:((d.toNat:Int)==32)=true:=e6 (d:=32) h32;rw [if_pos h32]at hq;have hX2:(2:Int) <= (X.size:Int):=(by omega);have HQ:=zh (show bR s.data.toList=((X.extract 2 X.size).data.toList,true) by rw [hq,Lib.extract_to_end]);clear hq hd1 hda h62 h32;go_wp2_with fail
      go_ret2
      exact ⟨fl HQ.out,rfl⟩
     ·have t2:((d.toNat:Int)==32)=false:=eJ (d:=32) h32;rw [if_neg h32,<- hd1]at hq;have HQ:=zh (show bR s.data.toList=((X.extract 1 X.size).data.toList,true) by rw [hq,Lib.extract_to_end]);clear hq hd1 hda h62 h32;go_wp2_with fail
      go_ret2
      exact ⟨fl HQ.out,rfl⟩
    ·have q1:¬(1:Int)<(X.size:Int):=(by omega);have hd1:=dl X 1 (by omega);have HQ:=zh (show bR s.data.toList=((X.extract 1 X.size).data.toList,true) by rw [hq,Lib.extract_to_end,hd1];rfl);clear hq hd1 hda h62;go_wp2_with fail
     go_ret2
     exact ⟨fl HQ.out,rfl⟩
   ·have t1:((c.toNat:Int) !=62)=true:=bN (d:=62) h62;have HQ:=zh (HNO.out (Or.inr (fun t e=>by rw [hda,List.cons.injEq]at e;exact h62 e.1)));clear hda h62;go_wp2_with fail
    go_ret2
    exact ⟨by rw [HQ.out];try rfl,rfl⟩
  ·have he:=aS (s:=X) (by omega);have HQ:=zh (HNO.out (Or.inr (fun t e=>by rw [bG X (by omega)]at e;cases e)));go_wp2_with fail
   go_ret2
   exact ⟨by rw [HQ.out];try rfl,rfl⟩
theorem fT:∀t:List UInt8,ai ag t=[]↔af t=true
 |[]=>⟨fun _=>rfl,fun _=>rfl⟩
 |c::t=>by
  have ih:=fT t;rw [fB];unfold af at ih⊢;rw [List.all_cons];by_cases h:ai ag t=[]∧ag c=true
  ·rw [if_pos h];simp [h.2,ih.1 h.1]
  ·rw [if_neg h];constructor
   ·intro e;cases e
   ·intro e;rw [Bool.and_eq_true]at e;exact absurd ⟨ih.2 e.2,e.1⟩ h
theorem nI {c:UInt8} (hc:ag c=false):∀X:List UInt8,(ai ag X).all (·==c)=af (X.drop (bF X c))
 |[]=>rfl
 |x::t=>by
  have ih:=nI hc t;rw [fB];by_cases hx:x=c
  ·rw [if_neg (by rw [hx,hc];simp)];unfold bF at ih⊢;rw [List.takeWhile_cons_of_pos (by simp [hx]),List.length_cons,List.drop_succ_cons,List.all_cons,ih,hx];simp
  ·unfold bF;rw [List.takeWhile_cons_of_neg (by simpa using hx),List.length_nil,List.drop_zero];by_cases h:ai ag t=[]∧ag x=true
   ·rw [if_pos h];have:=(fT t).1 h.1;unfold af at this⊢;rw [List.all_cons,this,h.2];rfl
   ·rw [if_neg h,List.all_cons];have h1:(x==c)=false:=(by simpa using hx);rw [h1,Bool.false_and];unfold af;rw [List.all_cons];cases hb:(ag x&&t.all ag)with
    |false=>rfl
    |true=>
     rw [Bool.and_eq_true]at hb;exact absurd ⟨(fT t).2 hb.2,hb.1⟩ h
theorem rI {s:List UInt8} {c:UInt8} (h:(ab s).head? =some c):ag c=false:=by
 rcases uH s with e|⟨d,t,e,hd⟩
 ·rw [e]at h;cases h
 ·rw [e]at h;obtain rfl:=Option.some.inj h;exact hd
theorem nA {X:List UInt8} {c d:UInt8} (h:X.head? =some c) (hd:c≠d):bF X d=0:=by
 cases X with
 |nil=>cases h
 |cons x t=>
  obtain rfl:=Option.some.inj h;unfold bF;rw [List.takeWhile_cons_of_neg (by simpa using hd)];rfl
theorem iL {X:List UInt8} {c:UInt8} (h:X.head? =some c) (hc:ag c=false):af X=false:=by
 cases X with
 |nil=>cases h
 |cons x t=>
  obtain rfl:=Option.some.inj h;unfold af;rw [List.all_cons,hc,Bool.false_and]
theorem wR {s:List UInt8} {X:ByteArray} {c:UInt8} (hX:ab s=X.data.toList) (hM:bX s=true) (hc:X.data.toList.head? =some c):
  da s=if af (X.data.toList.drop (bF X.data.toList c))=true then (if c=61 then 1 else if c=45 then 2 else 0)else 0:=by
 have hb:ag c=false:=rI (s:=s) (by rw [hX];exact hc);have hne:ai ag X.data.toList≠[]:=fun e=>by
  have:=(fT _).1 e;rw [iL hc hb]at this;cases this
 unfold da;simp only;rw [hX,hM,if_neg (by rintro (h|h)<;>first|cases h|exact hne h),nI (c:=61) (by decide),nI (c:=45) (by decide)];by_cases h1:c=61
 ·subst h1;rw [if_pos rfl];by_cases hv:af (X.data.toList.drop (bF X.data.toList 61))=true
  ·rw [if_pos hv,if_pos hv]
  ·rw [if_neg hv,if_neg hv,nA hc (by decide),List.drop_zero,iL hc hb];rfl
 ·rw [nA hc h1,List.drop_zero,iL hc hb,if_neg (by simp),if_neg h1];by_cases h2:c=45
  ·subst h2;rw [if_pos rfl]
  ·rw [nA hc h2,List.drop_zero,iL hc hb,if_neg (by simp),if_neg h2];split<;>rfl
theorem wT {s:List UInt8} {X:ByteArray} {M:Bool} (hX:ab s=X.data.toList) (hM:bX s=M) (h:M=false∨X.size=0):da s=0:=by
 unfold da;simp only;rw [hX,hM,if_pos];rcases h with h|h
 ·exact Or.inl h
 ·rw [bG X h];exact Or.inr rfl
theorem wW (s:ByteArray) (h9:(9:UInt8)∉s.data.toList) (hs:s.size <= 1000000) (w:World):
  Calls Tryz.prog 73 #[.string s] w fun e w'=>e=.returned (.int .i64 (da s.data.toList))∧w'=w:=by
 have hbe:=dS s h9 hs;have hXz:=cH s.data.toList;obtain ⟨X,hX⟩:∃X:ByteArray,(⟨(ab s.data.toList).toArray⟩:ByteArray)=X:=⟨_,rfl⟩
 have hXl:ab s.data.toList=X.data.toList:=(by rw [<- hX]);rw [hX]at hbe;rw [hXl,<- Lib.size_eq,<- Lib.size_eq]at hXz;obtain ⟨M,hM⟩:∃M,bX s.data.toList=M:=⟨_,rfl⟩
 rw [hM]at hbe;have HNO:=zh (fun h=>wT hXl hM h);have HHD:=zh (fun (h:M=true) c=>wR (c:=c) hXl (hM.trans h));have HBE:=zh hbe;clear hbe hM hXl hX h9;go_enter Tryz.func73,Tryz.ntmps73
 go_wp2_with fail;refine (HBE.out _).mono ?_;rintro e w' ⟨rfl,rfl⟩;cases M
 ·have HQ:=zh (HNO.out (Or.inl rfl));go_wp2_with fail;go_ret;exact ⟨by rw [HQ.out];try rfl,rfl⟩
 ·by_cases h0:0<X.size
  ·have he:=aX h0;obtain ⟨c,hc⟩:∃c,X[0]=c:=⟨_,rfl⟩
   have hh:=dC X h0;rw [hc]at hh;have hq:=HHD.out rfl c hh;have hro:=ki X c (by omega);have hKz:=eg X.data.toList c;rw [<- Lib.size_eq]at hKz;obtain ⟨K,hK⟩:∃K,bF X.data.toList c=K:=⟨_,rfl⟩
   rw [hK]at hro hKz hq;obtain ⟨R,hR⟩:∃R:ByteArray,X.extract K X.size=R:=⟨_,rfl⟩
   have hRl:X.data.toList.drop K=R.data.toList:=(by rw [<- hR,Lib.extract_to_end]);have hRz:R.size <= X.size:=(by rw [<- hR];simp);rw [hRl]at hq;have hbl:=cS R (by omega);obtain ⟨B,hB⟩:∃B,af R.data.toList=B:=⟨_,rfl⟩
   rw [hB]at hbl hq;have HRO:=zh hro;have HBL:=zh hbl;have HQ0:=zh hq;clear hro hbl hq hh hK hRl hB hRz;cases B
   ·have HQ:=zh (show da s.data.toList=0 by rw [HQ0.out];rfl);clear HQ0;go_wp2_with fail;refine (HRO.out _).mono ?_;rintro e w' ⟨rfl,rfl⟩;go_wp2_with fail;refine (HBL.out _).mono ?_;rintro e w' ⟨rfl,rfl⟩;go_wp2_with fail;go_ret;exact ⟨by rw [HQ.out];try rfl,rfl⟩
   ·by_cases h61:c=61
    ·have t1:((c.toNat:Int)==61)=true:=e6 (d:=61) h61;have HQ:=zh (show da s.data.toList=1 by rw [HQ0.out,if_pos rfl,if_pos h61]);clear HQ0 h61;go_wp2_with fail;refine (HRO.out _).mono ?_;rintro e w' ⟨rfl,rfl⟩;go_wp2_with fail;refine (HBL.out _).mono ?_;rintro e w' ⟨rfl,rfl⟩;go_wp2_with fail;go_ret;exact ⟨by rw [HQ.out];try rfl,rfl⟩
    ·have t1:((c.toNat:Int)==61)=false:=eJ (d:=61) h61;by_cases h45:c=45
     ·have t2:((c.toNat:Int)==45)=true:=e6 (d:=45) h45;have HQ:=zh (show da s.data.toList=2 by rw [HQ0.out,if_pos rfl,if_neg h61,if_pos h45]);clear HQ0 h61 h45;go_wp2_with fail;refine (HRO.out _).mono ?_;rintro e w' ⟨rfl,rfl⟩;go_wp2_with fail;refine (HBL.out _).mono ?_;rintro e w' ⟨rfl,rfl⟩;go_wp2_with fail;go_ret;exact ⟨by rw [HQ.out];try rfl,rfl⟩
     ·have t2:((c.toNat:Int)==45)=false:=eJ (d:=45) h45;have HQ:=zh (show da s.data.toList=0 by rw [HQ0.out,if_pos rfl,if_neg h61,if_neg h45]);clear HQ0 h61 h45;go_wp2_with fail;refine (HRO.out _).mono ?_;rintro e w' ⟨rfl,rfl⟩;go_wp2_with fail;refine (HBL.out _).mono ?_;rintro e w' ⟨rfl,rfl⟩;go_wp2_with fail;go_ret;exact ⟨by rw [HQ.out];try rfl,rfl⟩
  ·have he:=aS (s:=X) (by omega);have HQ:=zh (HNO.out (Or.inr (by omega)));go_wp2_with fail;go_ret;exact ⟨by rw [HQ.out];try rfl,rfl⟩
def gF (c:UInt8):Bool:=(decide ((97:Int) <= (c.toNat:Int))&&decide ((c.toNat:Int) <= 122))||(decide ((65:Int) <= (c.toNat:Int))&&decide ((c.toNat:Int) <= 90))
theorem yL:∀r:UInt8,(decide ((97:Int) <= ((r ||| 32).toNat:Int))&&decide (((r ||| 32).toNat:Int) <= 122)&&decide ((65:Int) <= (r.toNat:Int)))=gF r:=fun r=>
 te (p:=fun r=>(decide ((97:Int) <= ((r ||| 32).toNat:Int))&&decide (((r ||| 32).toNat:Int) <= 122)&&decide ((65:Int) <= (r.toNat:Int)))=gF r) (by unfold rT gF;decide+kernel) r
theorem vk (c:UInt8) (w:World):Calls Tryz.prog 72 #[.int .u8 (c.toNat:Int)] w fun e w'=>e=.returned (.bool (gF c))∧w'=w:=by
 obtain ⟨b,hb⟩:∃b,gF c=b:=⟨_,rfl⟩
 rw [hb];unfold gF at hb;obtain ⟨C,hC⟩:∃C:Int,(c.toNat:Int)=C:=⟨_,rfl⟩
 rw [hC]at hb⊢;have HB:=zh hb;clear hb hC;go_enter Tryz.func72,Tryz.ntmps72
 by_cases k1:(97:Int) <= C
 ·by_cases k2:C <= 122
  ·have HQ:=zh (show b=true by rw [<- HB.out,decide_eq_true k1,decide_eq_true k2];rfl);go_wp2_with fail;go_ret;exact ⟨by rw [HQ.out];try rfl,rfl⟩
  ·have k3:(65:Int) <= C:=(by omega);have k4:¬C <= 90:=(by omega);have HQ:=zh (show b=false by rw [<- HB.out,decide_eq_false k2,decide_eq_false k4];simp);go_wp2_with fail;go_ret;exact ⟨by rw [HQ.out];try rfl,rfl⟩
 ·by_cases k3:(65:Int) <= C
  ·by_cases k4:C <= 90
   ·have HQ:=zh (show b=true by rw [<- HB.out,decide_eq_true k3,decide_eq_true k4];simp);go_wp2_with fail;go_ret;exact ⟨by rw [HQ.out];try rfl,rfl⟩
   ·have HQ:=zh (show b=false by rw [<- HB.out,decide_eq_false k1,decide_eq_false k4];simp);go_wp2_with fail;go_ret;exact ⟨by rw [HQ.out];try rfl,rfl⟩
  ·have HQ:=zh (show b=false by rw [<- HB.out,decide_eq_false k1,decide_eq_false k3];simp);go_wp2_with fail;go_ret;exact ⟨by rw [HQ.out];try rfl,rfl⟩
theorem Cl {s:List UInt8} {X:ByteArray} {M:Bool} (hX:ab s=X.data.toList) (hM:bX s=M) (h:M=false∨∀r t,X.data.toList≠60::r::t):ef s=false:=by
 unfold ef;simp only;rw [hX,hM];split
 ·rfl
 ·rename_i h1;have hm:M≠false:=fun e=>h1 (Or.inl e);have h2:(bf 60 X.data.toList).2≠false:=fun e=>h1 (Or.inr e);rcases h with h|h
  ·exact absurd h hm
  ·cases hl:X.data.toList with
   |nil=>rw [hl]at h2;exact absurd rfl h2
   |cons c t=>
    rw [hl,gp]at h2;rw [gp];by_cases hc:c=60
    ·rw [if_pos hc];cases t with
     |nil=>rfl
     |cons r t=>exact absurd (by rw [hl,hc]) (h r t)
    ·rw [if_neg hc]at h2;exact absurd rfl h2
theorem AA {s t:List UInt8} {r:UInt8} {X:ByteArray} (hX:ab s=X.data.toList) (hM:bX s=true) (h:X.data.toList=60::r::t):ef s=(gF r||(r==47||(r==33||r==63))):=by
 unfold ef;simp only;rw [hX,hM,h,gp,if_pos rfl,if_neg (by simp)];simp only [List.head?_cons];rw [DM r,yL r];congr 1;rw [List.contains_cons,List.contains_cons,List.contains_cons];simp
theorem zD (s:ByteArray) (h9:(9:UInt8)∉s.data.toList) (hs:s.size <= 1000000) (w:World):
  Calls Tryz.prog 36 #[.string s] w fun e w'=>e=.returned (.bool (ef s.data.toList))∧w'=w:=by
 have hbe:=dS s h9 hs;have hXz:=cH s.data.toList;obtain ⟨X,hX⟩:∃X:ByteArray,(⟨(ab s.data.toList).toArray⟩:ByteArray)=X:=⟨_,rfl⟩
 have hXl:ab s.data.toList=X.data.toList:=(by rw [<- hX]);rw [hX]at hbe;rw [hXl,<- Lib.size_eq,<- Lib.size_eq]at hXz;obtain ⟨M,hM⟩:∃M,bX s.data.toList=M:=⟨_,rfl⟩
 rw [hM]at hbe;have HNO:=zh (fun h=>Cl hXl hM h);have HYES:=zh (fun (h:M=true) t r=>AA (t:=t) (r:=r) hXl (hM.trans h));have HBE:=zh hbe;clear hbe hM hXl hX h9;go_enter Tryz.func36,Tryz.ntmps36
 go_wp2_with fail;refine (HBE.out _).mono ?_;rintro e w' ⟨rfl,rfl⟩;cases M
 ·have HQ:=zh (HNO.out (Or.inl rfl));go_wp2_with fail;go_ret;exact ⟨by rw [HQ.out];try rfl,rfl⟩
 ·by_cases h2:2 <= X.size
  ·have q2:(2:Int) <= (X.size:Int):=(by omega);have hda:=bP X 0 (by omega);have hdb:=bP X 1 (by omega);rw [List.drop_zero,Nat.zero_add,hdb]at hda;obtain ⟨c,hc⟩:∃c,X[0]=c:=⟨_,rfl⟩
   obtain ⟨r,hr⟩:∃r,X[1]=r:=⟨_,rfl⟩
   rw [hc,hr]at hda;by_cases h60:c=60
   ·have t1:((c.toNat:Int)==60)=true:=e6 (d:=60) h60;rw [h60]at hda;have hq:=HYES.out rfl _ _ hda;have hle:=vk r;obtain ⟨L,hL⟩:∃L,gF r=L:=⟨_,rfl⟩
    rw [hL]at hle hq;have HLE:=zh hle;have HQ0:=zh hq;clear hdb hda hq hle hL h60;cases L
    ·by_cases a1:r=47
     ·have u1:((r.toNat:Int)==47)=true:=e6 (d:=47) a1;have HQ:=zh (show ef s.data.toList=true by rw [HQ0.out,a1];rfl);clear HQ0 a1;go_wp2_with fail;refine (HLE.out _).mono ?_;rintro e w' ⟨rfl,rfl⟩;go_wp2_with fail;go_ret;exact ⟨by rw [HQ.out];try rfl,rfl⟩
     ·have u1:((r.toNat:Int)==47)=false:=eJ (d:=47) a1;by_cases a2:r=33
      ·have u2:((r.toNat:Int)==33)=true:=e6 (d:=33) a2;have HQ:=zh (show ef s.data.toList=true by rw [HQ0.out,a2];rfl);clear HQ0 a1 a2;go_wp2_with fail;refine (HLE.out _).mono ?_;rintro e w' ⟨rfl,rfl⟩;go_wp2_with fail;go_ret;exact ⟨by rw [HQ.out];try rfl,rfl⟩
      ·have u2:((r.toNat:Int)==33)=false:=eJ (d:=33) a2;have HQ:=zh (show ef s.data.toList=((r.toNat:Int)==63) by
        rw [HQ0.out];have e1:(r==47)=false:=(by simpa using a1);have e2:(r==33)=false:=(by simpa using a2);rw [e1,e2];by_cases a3:r=63
        ·rw [a3];rfl
        ·rw [show ((r.toNat:Int)==63)=false from eJ (d:=63) a3];have e3:(r==63)=false:=(by simpa using a3);rw [e3];rfl)
       clear HQ0 a1 a2;go_wp2_with fail;refine (HLE.out _).mono ?_;rintro e w' ⟨rfl,rfl⟩;go_wp2_with fail;go_ret;exact ⟨by rw [HQ.out];try rfl,rfl⟩
    ·have HQ:=zh (show ef s.data.toList=true by rw [HQ0.out];rfl);clear HQ0;go_wp2_with fail;refine (HLE.out _).mono ?_;rintro e w' ⟨rfl,rfl⟩;go_wp2_with fail;go_ret;exact ⟨by rw [HQ.out];try rfl,rfl⟩
   ·have t1:((c.toNat:Int)==60)=false:=eJ (d:=60) h60;have HQ:=zh (HNO.out (Or.inr (fun r t e=>by rw [hda,List.cons.injEq]at e;exact h60 e.1)));clear hda hdb h60;go_wp2_with fail;go_ret;exact ⟨by rw [HQ.out];try rfl,rfl⟩
  ·have q2:¬(2:Int) <= (X.size:Int):=(by omega);have HQ:=zh (HNO.out (Or.inr (fun r t e=>by
    have:=congrArg List.length e;rw [<- Lib.size_eq]at this;simp at this;omega)))
   go_wp2_with fail;go_ret;exact ⟨by rw [HQ.out];try rfl,rfl⟩
theorem qq {c d:UInt8} {t:List UInt8} (h:d≠c):(d::t).count c=t.count c:=by
 rw [List.count_cons,if_neg (by simpa using h),Nat.add_zero]
theorem nK (s:ByteArray) (h9:(9:UInt8)∉s.data.toList) (hs:s.size <= 1000000) (w:World):
  Calls Tryz.prog 31 #[.string s] w fun e w'=>e=.returned (.bool (cZ s.data.toList))∧Below w.heap.size w w':=by
 have hbe:=dS s h9 hs;have hXz:=cH s.data.toList;obtain ⟨X,hX⟩:∃X:ByteArray,(⟨(ab s.data.toList).toArray⟩:ByteArray)=X:=⟨_,rfl⟩
 have hXl:ab s.data.toList=X.data.toList:=(by rw [<- hX]);rw [hX]at hbe;rw [hXl,<- Lib.size_eq,<- Lib.size_eq]at hXz;obtain ⟨M,hM⟩:∃M,bX s.data.toList=M:=⟨_,rfl⟩
 rw [hM]at hbe;by_cases h0:0<X.size
 ·have he:=aX h0;obtain ⟨c,hc⟩:∃c,X[0]=c:=⟨_,rfl⟩
  have hh:=dC X h0;rw [hc]at hh;have hv:=uM hXl hM hh;have HBE:=zh hbe;clear hbe hM hXl hX hh h9;cases M
  ·have HQ:=zh (show cZ s.data.toList=false by rw [hv];rfl);clear hv;go_enter Tryz.func31,Tryz.ntmps31
   go_wp2_with fail;refine (HBE.out _).mono ?_;rintro e w' ⟨rfl,hw'⟩;obtain rfl:=hw'.symm;go_wp2_with fail;go_ret;exact ⟨by rw [HQ.out];try rfl,Below.refl _ _⟩
  ·by_cases hcc:c=45∨c=42∨c=95
   ·have hct:([45,42,95]:List UInt8).contains c=true:=(by rcases hcc with rfl|rfl|rfl<;>rfl);have hcn:((c.toNat:Int) !=45)=false∨(((c.toNat:Int) !=45)=true∧((c.toNat:Int) !=42)=false)∨(((c.toNat:Int) !=45)=true∧((c.toNat:Int) !=42)=true∧((c.toNat:Int) !=95)=false):=by
     rcases hcc with rfl|rfl|rfl
     ·exact Or.inl rfl
     ·exact Or.inr (Or.inl ⟨rfl,rfl⟩)
     ·exact Or.inr (Or.inr ⟨rfl,rfl,rfl⟩)
    rw [hct]at hv;obtain ⟨N,hN⟩:∃N,X.data.toList.count c=N:=⟨_,rfl⟩
    obtain ⟨E,hE⟩:∃E,(X.data.toList.all fun y=>ag y||y==c)=E:=⟨_,rfl⟩
    rw [hN,hE]at hv;have HV:=zh (show cZ s.data.toList=(decide (3 <= N)&&E) by rw [hv];simp);have HR0:=zh (show 0+(X.data.toList.drop 0).count c=N∧((X.data.toList.drop 0).all fun y=>ag y||y==c)=E by rw [List.drop_zero,Nat.zero_add];exact ⟨hN,hE⟩);clear hv hN hE hct hcc;go_enter Tryz.func31,Tryz.ntmps31
    go_wp2_with fail;refine (HBE.out _).mono ?_;rintro e w' ⟨rfl,hw'⟩;obtain rfl:=hw'.symm;rcases hcn with t1|⟨t1,t2⟩|⟨t1,t2,t3⟩
    all_goals
     go_wp2_with fail;go_loopw [5,6] (fun un ui wr=>∃i n:Nat,Below w.heap.size w wr∧i <= X.size∧n <= i∧un=.int .i64 n∧ui=.int .i64 i∧Hid (n+(X.data.toList.drop i).count c=N∧((X.data.toList.drop i).all fun y=>ag y||y==c)=E)) (fun _ ui _=>X.size - (intOf ui).toNat)
     case atStart=>exact ⟨0,0,Below.refl _ _,Nat.zero_le _,Nat.le_refl _,rfl,rfl,HR0⟩
     case round=>
      rename World=>wx
      obtain ⟨i,n,hbw,hi,hni,rfl,rfl,HR⟩:=hrel;have HBW:=zh hbw;clear hbw;by_cases hlt:i<X.size
      ·have hg:=Lib.data_getElem? X i hlt;obtain ⟨d,hd⟩:∃d,X[i]=d:=⟨_,rfl⟩
       rw [hd]at hg;have hr:=HR.out;rw [p9 hg]at hr;by_cases hdc:d=c
       ·have q1:((d.toNat:Int)==(c.toNat:Int))=true:=e6 hdc;have HN:=zh (show n+1+(X.data.toList.drop (i+1)).count c=N∧((X.data.toList.drop (i+1)).all fun y=>ag y||y==c)=E by
         obtain ⟨a1,a2⟩:=hr;rw [hdc,List.count_cons_self]at a1;rw [List.all_cons,hdc]at a2;refine ⟨by omega,?_⟩;rw [<- a2];simp)
        clear hg hr hdc;go_wp2_with fail;go_quiet (fail)
        have HBQ:=zh (bD HBW.out nq);go_wp2_with fail;go_roundw;case rel=>exact ⟨i+1,n+1,HBQ.out,by omega,by omega,by go_num,by go_num,HN⟩
        case measure=>simp [intOf];omega
       ·have q1:((d.toNat:Int)==(c.toNat:Int))=false:=eJ hdc;have hgp:=d8 d;have hbc:(d==c)=false:=(by simpa using hdc);cases hb:ag d with
        |true=>
         rw [hb]at hgp;have HN:=zh (show n+(X.data.toList.drop (i+1)).count c=N∧((X.data.toList.drop (i+1)).all fun y=>ag y||y==c)=E by
          obtain ⟨a1,a2⟩:=hr;rw [qq hdc]at a1;rw [List.all_cons,hb,hbc]at a2;exact ⟨a1,a2⟩)
         have HG:=zh hgp;clear hg hr hdc hgp hb hbc;go_wp2_with fail;go_quiet (fail)
         have HBQ:=zh (bD HBW.out nq);go_wp2_with fail;refine (HG.out _).mono ?_;rintro e w' ⟨rfl,hw'⟩;obtain rfl:=hw'.symm;go_wp2_with fail;go_roundw;case rel=>exact ⟨i+1,n,HBQ.out,by omega,by omega,by go_num,by go_num,HN⟩
         case measure=>simp [intOf];omega
        |false=>
         rw [hb]at hgp;have hE:E=false:=by
          obtain ⟨a1,a2⟩:=hr;rw [List.all_cons,hb,hbc]at a2;exact a2.symm
         have HQ:=zh (show cZ s.data.toList=false by rw [HV.out,hE];simp);have HG:=zh hgp;clear hg hr hdc hgp hb hbc hE HR HR0 HV;go_wp2_with fail;go_quiet (fail)
         have HBQ:=zh (bD HBW.out nq);go_wp2_with fail;refine (HG.out _).mono ?_;rintro e w' ⟨rfl,hw'⟩;obtain rfl:=hw'.symm;go_wp2_with fail;go_ret;exact ⟨by rw [HQ.out];try rfl,HBQ.out⟩
      ·obtain rfl:i=X.size:=(by omega);have hr:=HR.out;rw [qa]at hr;have hnN:n=N:=hr.1;have hE:E=true:=hr.2.symm;have HQ:=zh (show cZ s.data.toList=decide ((3:Int) <= (n:Int)) by
        rw [HV.out,hE,<- hnN,Bool.and_true];by_cases h:3 <= n
        ·rw [decide_eq_true h,decide_eq_true (by omega)]
        ·rw [decide_eq_false h,decide_eq_false (by omega)])
       clear hr hnN hE HR HR0 HV;go_wp2_with fail;go_ret;exact ⟨by rw [HQ.out];try rfl,HBW.out⟩
   ·have h1:c≠45:=fun e=>hcc (Or.inl e);have h2:c≠42:=fun e=>hcc (Or.inr (Or.inl e));have h3:c≠95:=fun e=>hcc (Or.inr (Or.inr e));have t1:((c.toNat:Int) !=45)=true:=bN (d:=45) h1;have t2:((c.toNat:Int) !=42)=true:=bN (d:=42) h2;have t3:((c.toNat:Int) !=95)=true:=bN (d:=95) h3;have HQ:=zh (show cZ s.data.toList=false by
     rw [hv];have:([45,42,95]:List UInt8).contains c=false:=(by simp [h1,h2,h3]);rw [this];rfl)
    clear hv hcc h1 h2 h3;go_enter Tryz.func31,Tryz.ntmps31
    go_wp2_with fail;refine (HBE.out _).mono ?_;rintro e w' ⟨rfl,hw'⟩;obtain rfl:=hw'.symm;go_wp2_with fail;go_ret;exact ⟨by rw [HQ.out];try rfl,Below.refl _ _⟩
 ·have he:=aS (s:=X) (by omega);have HQ:=zh (rJ hXl (by omega));have HBE:=zh hbe;clear hbe hM hXl hX h9;cases M
  all_goals
   go_enter Tryz.func31,Tryz.ntmps31
   go_wp2_with fail;refine (HBE.out _).mono ?_;rintro e w' ⟨rfl,hw'⟩;obtain rfl:=hw'.symm;go_wp2_with fail;go_ret;exact ⟨by rw [HQ.out];try rfl,Below.refl _ _⟩
theorem kW {p:UInt8 ->Bool}:∀{l:List UInt8} {c:UInt8} {t:List UInt8},l.dropWhile p=c::t ->p c=false
 |[],c,t,h=>by cases h
 |d::l,c,t,h=>by
  by_cases hd:p d=true
  ·rw [List.dropWhile_cons_of_pos hd]at h;exact kW h
  ·rw [List.dropWhile_cons_of_neg hd,List.cons.injEq]at h;rw [<- h.1];simpa using hd
theorem uL {p:UInt8 ->Bool} {l t:List UInt8} {c:UInt8} (h:ai p l=t++[c]):p c=false:=by
 unfold ai at h;have h2:=congrArg List.reverse h;rw [List.reverse_reverse,List.reverse_append,List.reverse_cons,List.reverse_nil,List.nil_append,List.singleton_append]at h2;exact kW h2
theorem lM (p:UInt8 ->Bool):∀l:List UInt8,∃t,l=ai p l++t
 |[]=>⟨[],rfl⟩
 |c::l=>by
  obtain ⟨t,ht⟩:=lM p l;rw [fB];by_cases h:ai p l=[]∧p c=true
  ·rw [if_pos h];exact ⟨c::l,rfl⟩
  ·rw [if_neg h];exact ⟨t,by rw [List.cons_append,<- ht]⟩
theorem BD {R U t:List UInt8} (h:trimB R=U++t):trimB U=ai ag U:=by
 unfold trimB;cases hu:U with
 |nil=>rfl
 |cons c v=>
  have hc:ag c=false:=by
   obtain ⟨t2,h2⟩:=lM ag (ab R);have h3:ab R=c::(v++t++t2):=by
    rw [h2];show trimB R++t2=_;rw [h,hu];simp
   exact rI (s:=R) (by rw [h3];rfl)
  rw [ep hc]
theorem mi {K:Nat} {R:List UInt8} (h:ai (·==35) (trimB R)=[]):eL K R=(K,[],true):=by
 unfold eL;rw [if_pos (Or.inl h),h];rfl
theorem mh {K:Nat} {R u:List UInt8} {y:UInt8} (h:ai (·==35) (trimB R)=u++[y]) (hy:ag y=true):eL K R=(K,trimB (u++[y]),true):=by
 unfold eL;rw [if_pos (Or.inr (by rw [h];simp [hy])),h];obtain ⟨t,ht⟩:=lM (·==35) (trimB R);rw [h]at ht;rw [BD ht]
theorem iT {K:Nat} {R u:List UInt8} {y:UInt8} (h:ai (·==35) (trimB R)=u++[y]) (hy:ag y=false):eL K R=(K,trimB R,true):=by
 unfold eL;rw [if_neg (by rw [h];rintro (h|h)<;>simp [hy]at h)]
theorem mj {K:Nat} {R u:List UInt8} {y:UInt8} (h:ai (·==35) (trimB R)=trimB R) (hu:trimB R=u++[y]):eL K R=(K,trimB R,true):=by
 refine iT (h.trans hu) ?_;have h2:ai ag (ab R)=u++[y]:=hu;exact uL h2
theorem mS (s:ByteArray) (h9:(9:UInt8)∉s.data.toList) (hs:s.size <= 1000000) (w:World):
  Calls Tryz.prog 26 #[.string s] w fun e w'=>e=.returned (.tuple #[.int .i64 (ck s.data.toList).1,.string ⟨(ck s.data.toList).2.1.toArray⟩,.bool (ck s.data.toList).2.2])∧w'=w:=by
 have hbe:=dS s h9 hs;have hXz:=cH s.data.toList;obtain ⟨X,hX⟩:∃X:ByteArray,(⟨(ab s.data.toList).toArray⟩:ByteArray)=X:=⟨_,rfl⟩
 have hXl:ab s.data.toList=X.data.toList:=(by rw [<- hX]);rw [hX]at hbe;rw [hXl,<- Lib.size_eq,<- Lib.size_eq]at hXz;obtain ⟨M,hM⟩:∃M,bX s.data.toList=M:=⟨_,rfl⟩
 rw [hM]at hbe;have hno:=qT (s:=s.data.toList);have hso:=qU (s:=s.data.toList);rw [hXl]at hno hso;rw [hM]at hno hso;have hro:∀W,Calls Tryz.prog 65 #[.string X,.int .u8 35] W fun e w'=>e=.returned (.int .i64 (bF X.data.toList 35))∧w'=W:=fun W=>ki X 35 (by omega) W;have hKz:=eg X.data.toList 35;rw [<- Lib.size_eq]at hKz;obtain ⟨K,hK⟩:∃K,bF X.data.toList 35=K:=⟨_,rfl⟩
 rw [hK]at hro hno hso hKz;obtain ⟨R,hR⟩:∃R:ByteArray,X.extract K X.size=R:=⟨_,rfl⟩
 have hRl:X.data.toList.drop K=R.data.toList:=(by rw [<- hR,Lib.extract_to_end]);have hRz:R.size <= X.size:=(by rw [<- hR];simp);rw [hRl]at hno hso;have hT:=kO R (by omega);have hTz:=uZ R.data.toList;obtain ⟨T,hTT⟩:∃T:ByteArray,(⟨(trimB R.data.toList).toArray⟩:ByteArray)=T:=⟨_,rfl⟩
 have hTl:trimB R.data.toList=T.data.toList:=(by rw [<- hTT]);rw [hTT]at hT;rw [hTl,<- Lib.size_eq,<- Lib.size_eq]at hTz;have HBE:=zh hbe;have HRO:=zh hro;have HT:=zh hT;have HTL:=zh hTl;have HN:=zh hno;have HS:=zh hso;have hTb:T.size <= 1000000:=(by omega);have HRH:=zh (show∀c,X.data.toList[K]? =some c ->R.data.toList.head? =some c from fun c hc=>by rw [<- hRl,p9 hc];rfl);have HRN:=zh (show X.size <= K ->R.data.toList=[]from fun h=>by rw [<- hRl];exact dl X K h);clear hbe hro hT hTl hno hso hX hXl hM hK hRl hTT hTz hRz h9;go_enter Tryz.func26,Tryz.ntmps26
 go_wp2_with fail;refine (HBE.out _).mono ?_;rintro e w' ⟨rfl,hw'⟩;obtain rfl:=hw'.symm;go_wp2_with fail;refine (HRO.out _).mono ?_;rintro e w' ⟨rfl,hw'⟩;obtain rfl:=hw'.symm;cases M
 ·have HQ:=zh (HN.out (Or.inl rfl));go_wp2_with fail;refine bodyPost_ret (v:=.tuple #[.int .i64 0,.string ⟨#[]⟩,.bool false]) (by simp [results,Tryz.results26,go_sem]) rfl ⟨(by rw [HQ.out];rfl),rfl⟩
 ·by_cases k1:K<1
  ·have HQ:=zh (HN.out (Or.inr (Or.inl k1)));have q1:(K:Int)<1:=(by omega);go_wp2_with fail;refine bodyPost_ret (v:=.tuple #[.int .i64 0,.string ⟨#[]⟩,.bool false]) (by simp [results,Tryz.results26,go_sem]) rfl ⟨(by rw [HQ.out];rfl),rfl⟩
  ·have q1:¬(K:Int)<1:=(by omega);by_cases k6:6<K
   ·have HQ:=zh (HN.out (Or.inr (Or.inr (Or.inl k6))));have q2:(6:Int)<(K:Int):=(by omega);go_wp2_with fail;refine bodyPost_ret (v:=.tuple #[.int .i64 0,.string ⟨#[]⟩,.bool false]) (by simp [results,Tryz.results26,go_sem]) rfl ⟨(by rw [HQ.out];rfl),rfl⟩
   ·have q2:¬(6:Int)<(K:Int):=(by omega);by_cases hr0:K<X.size
    ·have q3:(K:Int)<(X.size:Int):=(by omega);obtain ⟨q,hq⟩:∃q,X[K]=q:=⟨_,rfl⟩
     have hg:=Lib.data_getElem? X K hr0;rw [hq]at hg;have hh:=HRH.out q hg;have hcq:=d8 q;cases hbq:ag q
     ·rw [hbq]at hcq;have HQ:=zh (HN.out (Or.inr (Or.inr (Or.inr (by rw [hh];simp [hbq])))));have HCQ:=zh hcq;clear hcq hh hbq k1 k6 hg;go_wp2_with fail;refine (HCQ.out _).mono ?_;rintro e w' ⟨rfl,hw'⟩;obtain rfl:=hw'.symm;go_wp2_with fail;refine bodyPost_ret (v:=.tuple #[.int .i64 0,.string ⟨#[]⟩,.bool false]) (by simp [results,Tryz.results26,go_sem]) rfl ⟨(by rw [HQ.out];rfl),rfl⟩
     ·rw [hbq]at hcq;have hcond:¬(true=false∨K<1∨6<K∨(R.data.toList.head?.any fun c=> !ag c)=true):=by
       rintro (h|h|h|h)
       ·cases h
       ·exact k1 h
       ·exact k6 h
       ·rw [hh]at h;simp [hbq]at h
      have HCQ:=zh hcq;clear hcq hh hbq k1 k6 hg;go_wp2_with fail;refine (HCQ.out _).mono ?_;rintro e w' ⟨rfl,hw'⟩;obtain rfl:=hw'.symm;go_wp2_with fail;refine (HT.out _).mono ?_;rintro e w' ⟨rfl,hw'⟩;obtain rfl:=hw'.symm;go_wp2_with fail;go_loop [9] (fun uk=>∃k:Nat,k <= T.size∧uk=.int .i64 k∧Hid (ai (·==35) (T.data.toList.take k)=ai (·==35) T.data.toList)) (fun uk=>(intOf uk).toNat)
      case atStart=>exact ⟨T.size,Nat.le_refl _,rfl,zh (by rw [Lib.size_eq,List.take_length])⟩
      case round=>
       obtain ⟨k,hk,rfl,HR⟩:=hrel;by_cases hk0:0<k
       ·have qk:(0:Int)<(k:Int):=(by omega);obtain ⟨j,rfl⟩:∃j,k=j+1:=⟨k - 1,by omega⟩
        have hj:j<T.size:=(by omega);have hts:=fY T j hj;obtain ⟨y,hy⟩:∃y,T[j]=y:=⟨_,rfl⟩
        rw [hy]at hts;have hr:=HR.out;rw [hts,gJ]at hr;have hj1:((j+1:Nat):Int) - 1=(j:Int):=(by omega);by_cases h35:y=35
        ·have q1:((y.toNat:Int)==35)=true:=e6 (d:=35) h35;rw [if_pos (by simpa using h35)]at hr;have HN:=zh hr;clear hr hts h35;go_wp2_with fail;go_round;case rel=>exact ⟨j,by omega,by go_num,HN⟩
         case measure=>simp [intOf]<;>omega
        ·have q1:((y.toNat:Int)==35)=false:=eJ (d:=35) h35;have q0:(((j+1:Nat):Int)==0)=false:=(by simp;omega);rw [if_neg (by simpa using h35)]at hr;have hgp:=d8 y;by_cases hjt:j+1<T.size
         ·have q2:((j+1:Nat):Int)<(T.size:Int):=(by omega);cases hb:ag y with
          |true=>
           rw [hb]at hgp;obtain ⟨U,hU⟩:∃U:ByteArray,T.extract 0 (j+1)=U:=⟨_,rfl⟩
           have hUl:U.data.toList=T.data.toList.take j++[y]:=(by rw [<- hU,dO,hts]);have hUz:U.size <= T.size:=(by rw [<- hU];simp<;>omega);have htr:=kO U (by omega);have HQ:=zh (show ck s.data.toList=(K,trimB U.data.toList,true) by
            rw [HS.out hcond,mh (u:=T.data.toList.take j) (y:=y) (by rw [HTL.out];exact hr.symm) hb,hUl])
           have HG:=zh hgp;have HTR:=zh htr;clear hr hts h35 hgp hb hUl htr HR;go_wp2_with fail;refine (HG.out _).mono ?_;rintro e w' ⟨rfl,hw'⟩;obtain rfl:=hw'.symm;go_wp2_with fail;refine (HTR.out _).mono ?_;rintro e w' ⟨rfl,hw'⟩;obtain rfl:=hw'.symm;go_wp2_with fail;refine bodyPost_ret (v:=.tuple #[.int .i64 K,.string ⟨(trimB U.data.toList).toArray⟩,.bool true]) (by simp [results,Tryz.results26,go_sem]) rfl ⟨(by rw [HQ.out]),rfl⟩
          |false=>
           rw [hb]at hgp;have HQ:=zh (show ck s.data.toList=(K,T.data.toList,true) by
            rw [HS.out hcond,iT (u:=T.data.toList.take j) (y:=y) (by rw [HTL.out];exact hr.symm) hb,HTL.out])
           have HG:=zh hgp;clear hr hts h35 hgp hb HR;go_wp2_with fail;refine (HG.out _).mono ?_;rintro e w' ⟨rfl,hw'⟩;obtain rfl:=hw'.symm;go_wp2_with fail;refine bodyPost_ret (v:=.tuple #[.int .i64 K,.string T,.bool true]) (by simp [results,Tryz.results26,go_sem]) rfl ⟨(by rw [HQ.out]),rfl⟩
         ·have q2:¬((j+1:Nat):Int)<(T.size:Int):=(by omega);have hall:T.data.toList.take j++[y]=T.data.toList:=by
           rw [<- hts,show j+1=T.size by omega,Lib.size_eq,List.take_length]
          have HQ:=zh (show ck s.data.toList=(K,T.data.toList,true) by
           rw [HS.out hcond,mj (u:=T.data.toList.take j) (y:=y) (by rw [HTL.out,<- hr,hall]) (by rw [HTL.out,hall]),HTL.out])
          clear hr hts h35 hgp hall HR;go_wp2_with fail;refine bodyPost_ret (v:=.tuple #[.int .i64 K,.string T,.bool true]) (by simp [results,Tryz.results26,go_sem]) rfl ⟨(by rw [HQ.out]),rfl⟩
       ·obtain rfl:k=0:=(by omega);have hr:=HR.out;rw [List.take_zero]at hr;have HQ:=zh (show ck s.data.toList=(K,[],true) by rw [HS.out hcond,mi (by rw [HTL.out];exact hr.symm)]);clear hr HR;go_wp2_with fail;refine bodyPost_ret (v:=.tuple #[.int .i64 K,.string ⟨#[]⟩,.bool true]) (by simp [results,Tryz.results26,go_sem]) rfl ⟨(by rw [HQ.out];try rfl),rfl⟩
    ·have q3:¬(K:Int)<(X.size:Int):=(by omega);have hcond:¬(true=false∨K<1∨6<K∨(R.data.toList.head?.any fun c=> !ag c)=true):=by
      rintro (h|h|h|h)
      ·cases h
      ·exact k1 h
      ·exact k6 h
      ·rw [HRN.out (by omega)]at h;simp at h
     clear k1 k6;go_wp2_with fail;refine (HT.out _).mono ?_;rintro e w' ⟨rfl,hw'⟩;obtain rfl:=hw'.symm;go_wp2_with fail;go_loop [9] (fun uk=>∃k:Nat,k <= T.size∧uk=.int .i64 k∧Hid (ai (·==35) (T.data.toList.take k)=ai (·==35) T.data.toList)) (fun uk=>(intOf uk).toNat)
     case atStart=>exact ⟨T.size,Nat.le_refl _,rfl,zh (by rw [Lib.size_eq,List.take_length])⟩
     case round=>
      obtain ⟨k,hk,rfl,HR⟩:=hrel;by_cases hk0:0<k
      ·have qk:(0:Int)<(k:Int):=(by omega);obtain ⟨j,rfl⟩:∃j,k=j+1:=⟨k - 1,by omega⟩
       have hj:j<T.size:=(by omega);have hts:=fY T j hj;obtain ⟨y,hy⟩:∃y,T[j]=y:=⟨_,rfl⟩
       rw [hy]at hts;have hr:=HR.out;rw [hts,gJ]at hr;have hj1:((j+1:Nat):Int) - 1=(j:Int):=(by omega);by_cases h35:y=35
       ·have q1:((y.toNat:Int)==35)=true:=e6 (d:=35) h35;rw [if_pos (by simpa using h35)]at hr;have HN:=zh hr;clear hr hts h35;go_wp2_with fail;go_round;case rel=>exact ⟨j,by omega,by go_num,HN⟩
        case measure=>simp [intOf]<;>omega
       ·have q1:((y.toNat:Int)==35)=false:=eJ (d:=35) h35;have q0:(((j+1:Nat):Int)==0)=false:=(by simp;omega);rw [if_neg (by simpa using h35)]at hr;have hgp:=d8 y;by_cases hjt:j+1<T.size
        ·have q2:((j+1:Nat):Int)<(T.size:Int):=(by omega);cases hb:ag y with
         |true=>
          rw [hb]at hgp;obtain ⟨U,hU⟩:∃U:ByteArray,T.extract 0 (j+1)=U:=⟨_,rfl⟩
          have hUl:U.data.toList=T.data.toList.take j++[y]:=(by rw [<- hU,dO,hts]);have hUz:U.size <= T.size:=(by rw [<- hU];simp<;>omega);have htr:=kO U (by omega);have HQ:=zh (show ck s.data.toList=(K,trimB U.data.toList,true) by
           rw [HS.out hcond,mh (u:=T.data.toList.take j) (y:=y) (by rw [HTL.out];exact hr.symm) hb,hUl])
          have HG:=zh hgp;have HTR:=zh htr;clear hr hts h35 hgp hb hUl htr HR;go_wp2_with fail;refine (HG.out _).mono ?_;rintro e w' ⟨rfl,hw'⟩;obtain rfl:=hw'.symm;go_wp2_with fail;refine (HTR.out _).mono ?_;rintro e w' ⟨rfl,hw'⟩;obtain rfl:=hw'.symm;go_wp2_with fail;refine bodyPost_ret (v:=.tuple #[.int .i64 K,.string ⟨(trimB U.data.toList).toArray⟩,.bool true]) (by simp [results,Tryz.results26,go_sem]) rfl ⟨(by rw [HQ.out]),rfl⟩
         |false=>
          rw [hb]at hgp;have HQ:=zh (show ck s.data.toList=(K,T.data.toList,true) by
           rw [HS.out hcond,iT (u:=T.data.toList.take j) (y:=y) (by rw [HTL.out];exact hr.symm) hb,HTL.out])
          have HG:=zh hgp;clear hr hts h35 hgp hb HR;go_wp2_with fail;refine (HG.out _).mono ?_;rintro e w' ⟨rfl,hw'⟩;obtain rfl:=hw'.symm;go_wp2_with fail;refine bodyPost_ret (v:=.tuple #[.int .i64 K,.string T,.bool true]) (by simp [results,Tryz.results26,go_sem]) rfl ⟨(by rw [HQ.out]),rfl⟩
        ·have q2:¬((j+1:Nat):Int)<(T.size:Int):=(by omega);have hall:T.data.toList.take j++[y]=T.data.toList:=by
          rw [<- hts,show j+1=T.size by omega,Lib.size_eq,List.take_length]
         have HQ:=zh (show ck s.data.toList=(K,T.data.toList,true) by
          rw [HS.out hcond,mj (u:=T.data.toList.take j) (y:=y) (by rw [HTL.out,<- hr,hall]) (by rw [HTL.out,hall]),HTL.out])
         clear hr hts h35 hgp hall HR;go_wp2_with fail;refine bodyPost_ret (v:=.tuple #[.int .i64 K,.string T,.bool true]) (by simp [results,Tryz.results26,go_sem]) rfl ⟨(by rw [HQ.out]),rfl⟩
      ·obtain rfl:k=0:=(by omega);have hr:=HR.out;rw [List.take_zero]at hr;have HQ:=zh (show ck s.data.toList=(K,[],true) by rw [HS.out hcond,mi (by rw [HTL.out];exact hr.symm)]);clear hr HR;go_wp2_with fail;refine bodyPost_ret (v:=.tuple #[.int .i64 K,.string ⟨#[]⟩,.bool true]) (by simp [results,Tryz.results26,go_sem]) rfl ⟨(by rw [HQ.out];try rfl),rfl⟩
end Go.Proofs.YtcannffahjbjnaaGreatDoor
