import Derived.Test.YtcannffahjbjnaaGreatDoorVwBH
import Derived.Lib.Replace
import Derived.Lib.CountLaws
import Derived.Shelf.Strings.Replace
import Derived.Shelf.Strings.IndexAnyAll
set_option linter.unusedVariables false
set_option linter.unusedSimpArgs false
set_option maxRecDepth 100000
set_option maxHeartbeats 64000000
namespace Go.Proofs.YtcannffahjbjnaaGreatDoor
open Go.RowKit
theorem CF {o:Option (oz×Nat)} {t:oz} {m:Nat} {v:Value} {n:Int} (h:o=some (t,m)) (hv:v=t.val) (hn:n=m):Ending.returned (.tuple #[v,.int .i64 n])=.returned (.tuple #[kd o,.int .i64 (kc o)]):=by
 rw [h,hv,hn];rfl
theorem sN {o:Option (oz×Nat)} (h:o=none):Ending.returned (.tuple #[.nilIface,.int .i64 0])=.returned (.tuple #[kd o,.int .i64 (kc o)]):=by
 rw [h];rfl
theorem xY (s set:ByteArray) (w:World) (hz:set.size<4294967281) (ha:∀(j:Nat) b,set.data.toList[j]? =some b ->b.toNat<128) (hs:s.size <= 1000000000):
  Calls Tryz.prog 211 #[.string s,.string set] w fun e w'=>e=.returned (.int .i64 (aK s.data.toList set.data.toList))∧Below w.heap.size w w':=by
 have hc:∀W,Calls Tryz.prog 105 #[.string s,.string set] W fun e w'=>e=.returned (.string ⟨(Lib.trimLeftS s.data.toList set.data.toList).toArray⟩)∧Below W.heap.size W w':=fun W=>
  Any.strings_TrimLeft_laid Tryz.lays161 (by kernel_rfl) s set W hz ha
 obtain ⟨X,hX⟩:∃X:ByteArray,X=⟨(Lib.trimLeftS s.data.toList set.data.toList).toArray⟩:=⟨_,rfl⟩
 have hXs:X.size=(Lib.trimLeftS s.data.toList set.data.toList).length:=(by rw [hX,Lib.size_eq]);rw [<- hX]at hc;have hl:=oT s.data.toList set.data.toList;rw [<- hXs,<- Lib.size_eq]at hl;have HC:=zh hc;have HL:=zh hl;have hXle:X.size <= s.size:=(by omega);clear hc hl hXs hX;go_enter Tryz.func211,Tryz.ntmps211
 go_wp2_with fail;refine (HC.out _).mono ?_;rintro e w2 ⟨rfl,b2⟩;go_wp2_with fail;go_ret;exact ⟨oK (by have:=HL.out;omega),b2⟩
theorem tf (set:List UInt8) (h:set.all (fun b=>decide (b.toNat<128))=true) (hn:set.length<4294967281) (s:ByteArray) (w:World) (hs:s.size <= 1000000000):
  Calls Tryz.prog 211 #[.string s,.string ⟨set.toArray⟩] w fun e w'=>e=.returned (.int .i64 (aK s.data.toList set))∧Below w.heap.size w w':=
 xY s ⟨set.toArray⟩ w (by rw [Lib.size_eq];exact hn) (ascii_of_all h) hs
theorem iA (s:ByteArray) (k:Nat):(s.extract k s.size).data.toList=s.data.toList.drop k:=Lib.extract_to_end s k
theorem nF (s:ByteArray) (k:Nat):(s.extract k s.size).size=s.size - k:=by rw [Lib.size_eq,iA,List.length_drop,<- Lib.size_eq]
theorem Dh (c:UInt8) (s:ByteArray) (w:World):
  Calls Tryz.prog 106 #[.string s,.string ⟨#[c]⟩] w fun e w'=>e=.returned (.bool (decide (s.data.toList.head? =some c)))∧w'=w:=by
 have:=Tryz.strings_HasPrefix s ⟨#[c]⟩ w;rw [show (ByteArray.mk #[c]).data.toList=[c]from rfl,xH]at this;exact this
theorem ww (l:List UInt8) (c:UInt8):jV (l++[c])=jV l*10+(c.toNat - 48):=by
 unfold jV;rw [List.foldl_append];rfl
theorem ug:∀(l:List UInt8) (v:Nat),(∀b∈l,b.toNat <= 57) ->l.foldl (fun v c=>v*10+(c.toNat - 48)) v<(v+1)*10 ^ l.length
 |[],v,_=>by simp
 |c::l,v,h=>by
  have hc:=h c (List.mem_cons_self ..);have ih:=ug l (v*10+(c.toNat - 48)) (fun b hb=>h b (List.mem_cons_of_mem _ hb));rw [List.foldl_cons,List.length_cons,Nat.pow_succ];refine Nat.lt_of_lt_of_le ih ?_;rw [Nat.mul_comm (10 ^ l.length) 10,<- Nat.mul_assoc];exact Nat.mul_le_mul_right _ (by omega)
theorem vA (c:UInt8) (s set:List UInt8):aK (c::s) set=if set.contains c=true then aK s set+1 else 0:=by
 unfold aK;rw [List.takeWhile_cons];split<;>simp
theorem pZ (set:List UInt8):∀(s:List UInt8),∀b∈s.take (aK s set),set.contains b=true
 |[],b,hb=>by simp at hb
 |c::s,b,hb=>by
  rw [vA]at hb;split at hb
  ·rename_i h;rw [List.take_succ_cons]at hb;rcases List.mem_cons.1 hb with e|e
   ·rw [e];exact h
   ·exact pZ set s b e
  ·simp at hb
theorem nT:∀b:UInt8,aU.contains b=true ->48 <= b.toNat∧b.toNat <= 57:=fun b=>te (p:=fun b=>aU.contains b=true ->48 <= b.toNat∧b.toNat <= 57) (by unfold rT;decide+kernel) b
theorem z8 (s:ByteArray) (w:World) (h0:1 <= s.size) (hs:s.size <= 1000000000):
  Calls Tryz.prog 206 #[.string s] w fun e w'=>e=.returned (.tuple #[kd (ig s.data.toList),.int .i64 (kc (ig s.data.toList))])∧Below w.heap.size w w':=by
 have hc:=fun W=>tf aU (by decide) (by decide) (s.extract 1 s.size) W (by rw [nF];omega);rw [iA]at hc;have hle:=z6 (s.data.toList.drop 1) aU;rw [List.length_drop,<- Lib.size_eq]at hle
 have hA:ig s.data.toList=if aK (s.data.toList.drop 1) aU<1∨4<aK (s.data.toList.drop 1) aU then none
   else if (s.data.toList.drop (1+aK (s.data.toList.drop 1) aU)).head? =some 0 then some (.atom (jV ((s.data.toList.drop 1).take (aK (s.data.toList.drop 1) aU))),aK (s.data.toList.drop 1) aU+2)else none:=rfl
 have hdig:=pZ aU (s.data.toList.drop 1);obtain ⟨n,hn⟩:∃n,aK (s.data.toList.drop 1) aU=n:=⟨_,rfl⟩
 rw [hn]at hc hle hA hdig;have HC:=zh hc;clear hc hn;rw [show (ByteArray.mk aU.toArray)=ByteArray.mk #[48,49,50,51,52,53,54,55,56,57]from rfl]at HC;by_cases t1:n<1
 ·have t1':(n:Int)<1:=(by omega);rw [if_pos (Or.inl t1)]at hA;have HA:=zh hA;clear hA hdig;go_enter Tryz.func206,Tryz.ntmps206
  go_wp2_with fail;refine (HC.out _).mono ?_;rintro e w2 ⟨rfl,b2⟩;go_wp2_with fail
  go_ret2
  exact ⟨sN HA.out,b2⟩
 ·have t1':¬(n:Int)<1:=(by omega);by_cases t2:4<n
  ·have t2':(4:Int)<(n:Int):=(by omega);rw [if_pos (Or.inr t2)]at hA;have HA:=zh hA;clear hA hdig;go_enter Tryz.func206,Tryz.ntmps206
   go_wp2_with fail;refine (HC.out _).mono ?_;rintro e w2 ⟨rfl,b2⟩;go_wp2_with fail
   go_ret2
   exact ⟨sN HA.out,b2⟩
  ·have t2':¬(4:Int)<(n:Int):=(by omega);rw [if_neg (by omega)]at hA;have hp:=fun W=>Dh 0 (s.extract (1+n) s.size) W;rw [iA]at hp;by_cases t3:(s.data.toList.drop (1+n)).head? =some 0
   ·rw [decide_eq_true t3]at hp;rw [if_pos t3]at hA;obtain ⟨D,hD⟩:∃D:ByteArray,s.extract 1 (1+n)=D:=⟨_,rfl⟩
    have hDl:D.data.toList=(s.data.toList.drop 1).take n:=(by rw [<- hD,Lib.extract_data];congr 1;omega);have hDz:D.size=n:=(by rw [Lib.size_eq,hDl,List.length_take,List.length_drop,<- Lib.size_eq];omega);rw [<- hDl]at hA hdig;have HP:=zh hp;have HA:=zh hA;have HDIG:=zh hdig;clear hA hdig hp hDl t3;go_enter Tryz.func206,Tryz.ntmps206
    go_wp2_with fail;refine (HC.out _).mono ?_;rintro e w2 ⟨rfl,b2⟩;go_wp2_with fail;refine (HP.out _).mono ?_;rintro e w' ⟨rfl,hw'⟩;obtain rfl:=hw'.symm;go_wp2_with fail;go_loopw [5] (fun u5 wr=>∃pos:Nat,pos <= n∧u5=.int .i64 (jV (D.data.toList.take pos))∧wr.heap[w2.heap.size]? =some (.stringIter D pos)∧Below w2.heap.size w2 wr) (fun _ wr=>D.size - wr.iterPos w2.heap.size)
    case atStart=>
     refine ⟨0,by omega,rfl,?_,(Below.refl _ w2).alloc (Nat.le_refl _) _⟩;have:=World.iter_heap w2 D 0;simpa using this
    case round=>
     obtain ⟨pos,hpn,rfl,hit,hbw⟩:=hrel;have hsz:w2.heap.size<wr.heap.size:=(Array.getElem?_eq_some_iff.1 hit).1;by_cases hp:pos<D.size
     ·obtain ⟨c,hc⟩:∃c,D[pos]=c:=⟨_,rfl⟩
      have hcd:48 <= c.toNat∧c.toNat <= 57:=by
       refine nT c (HDIG.out c ?_);rw [<- hc];have:=Lib.data_getElem? D pos hp;exact List.mem_of_getElem? this
      have hnx:∀ty,(Instr.next (.pointer (some ⟨w2.heap.size,0,none⟩)) true ty).run Tryz.prog wr=_:=fun ty=>Lib.run_next_any_at wr w2.heap.size D pos ty hit hp;have hit2:=Lib.iterAt_heap wr w2.heap.size D pos (pos+(Utf8.decode D pos).2) hit;have hbw2:=Lib.below_iterAt hbw (k:=w2.heap.size) (by omega) D (pos+(Utf8.decode D pos).2);rw [Go.decode_ascii D pos hp (by rw [hc];omega),hc]at hnx;rw [Go.decode_ascii D pos hp (by rw [hc];omega)]at hit2 hbw2;simp only at hnx hit2 hbw2;have hnum:jV (D.data.toList.take (pos+1))=jV (D.data.toList.take pos)*10+(c.toNat - 48):=(by rw [fY D pos hp,ww,hc]);have hnl:jV (D.data.toList.take pos)<10000:=by
       have h1:=ug (D.data.toList.take pos) 0 (fun b hb=>(nT b (HDIG.out b (List.mem_of_mem_take hb))).2);have h2:(D.data.toList.take pos).length <= 4:=(by have:=List.length_take_le pos D.data.toList;omega);have h3:10 ^ (D.data.toList.take pos).length <= 10 ^ 4:=Nat.pow_le_pow_right (by omega) h2;unfold jV;omega
      obtain ⟨v,hv⟩:∃v,jV (D.data.toList.take pos)=v:=⟨_,rfl⟩
      rw [hv]at hnum hnl⊢;have HNUM:=zh hnum;have hw1:IntKind.i32.wrap ((c.toNat:Int) - 48)=(c.toNat:Int) - 48:=IntWalk.i32_in _ (by omega);clear hnum hv hc hbw;go_wp2_with fail;go_roundw;case rel=>exact ⟨pos+1,by omega,by rw [HNUM.out];exact congrArg (Value.int .i64) (by omega),hit2,hbw2⟩
      case measure=>simp only [World.iterPos,hit2,hit];omega
     ·have hnx:∀ty,(Instr.next (.pointer (some ⟨w2.heap.size,0,none⟩)) true ty).run Tryz.prog wr=_:=fun ty=>Lib.run_next_end_at wr w2.heap.size D pos ty hit hp;obtain rfl:pos=D.size:=(by omega);rw [uW];go_wp2_with fail
      go_ret2
      exact ⟨CF HA.out rfl (by omega),aa b2 hbw⟩
   ·rw [decide_eq_false t3]at hp;rw [if_neg t3]at hA;have HP:=zh hp;have HA:=zh hA;clear hA hdig hp t3;go_enter Tryz.func206,Tryz.ntmps206
    go_wp2_with fail;refine (HC.out _).mono ?_;rintro e w2 ⟨rfl,b2⟩;go_wp2_with fail;refine (HP.out _).mono ?_;rintro e _ ⟨rfl,rfl⟩;go_wp2_with fail
    go_ret2
    exact ⟨sN HA.out,b2⟩
theorem Cj {l:List UInt8} {k:Nat} {c:UInt8} (h:(l.drop k).head? =some c):k<l.length:=by
 rcases Nat.lt_or_ge k l.length with h'|h'
 ·exact h'
 ·rw [List.drop_eq_nil_of_le h']at h;cases h
theorem sa {s:List UInt8} {t:oz} {n:Nat} (h:ig s=some (t,n)):0<n∧n <= s.length:=by
 unfold ig at h;split at h
 ·cases h
 ·split at h
  ·rename_i h3;have h3':=Cj h3;injection h with h;injection h with h1 h2;omega
  ·cases h
theorem kP {l:List UInt8} {n m:Nat} (h:jT (0::l)=(.atom n,m)):0<m∧m <= (0::l).length:=by
 have hb:eH (0::l)=ig (0::l):=(by unfold eH;rfl);unfold jT at h;rw [hb]at h;cases ha:ig (0::l)with
 |none=>rw [ha]at h;cases h
 |some r=>
  rw [ha]at h;obtain ⟨t,k⟩:=r;simp only [Prod.mk.injEq]at h;have:=sa ha;rw [h.2]at this;exact this
theorem nX (chars:List UInt8):∀(l:List UInt8),0 <= Lib.indexAny l chars ->(Lib.indexAny l chars).toNat<l.length
 |[],h=>by
  have:Lib.indexAny [] chars= -1:=rfl;rw [this]at h;omega
 |b::l,h=>by
  have ih:=nX chars l;unfold Lib.indexAny at h⊢;split
  ·simp
  ·rename_i hb;rw [if_neg hb]at h;split
   ·rename_i hm;rw [if_pos hm]at h;omega
   ·rename_i hm;have hge:=Lib.indexAny_ge chars l;have hne:Lib.indexAny l chars≠ -1:=(by simpa using hm);have:=ih (by omega);simp;omega
theorem gU (chars:List UInt8):∀(c r:List UInt8),(∀b∈c,chars.contains b=false) ->Lib.indexAny (c++r) chars=if Lib.indexAny r chars= -1 then -1 else Lib.indexAny r chars+c.length
 |[],r,_=>by
  simp only [List.nil_append,List.length_nil];split<;>simp_all
 |b::c,r,h=>by
  have ih:=gU chars c r (fun x hx=>h x (List.mem_cons_of_mem _ hx));have hb:=h b (List.mem_cons_self ..);show (if chars.contains b then (0:Int)else if Lib.indexAny (c++r) chars== -1 then -1 else Lib.indexAny (c++r) chars+1)=_;have hge:=Lib.indexAny_ge chars r;rw [ih,hb,if_neg (by simp)];by_cases h1:Lib.indexAny r chars= -1
  ·rw [if_pos h1,if_pos h1];rfl
  ·rw [if_neg h1,if_neg h1,if_neg (by simp;omega),List.length_cons];omega
theorem su (chars:List UInt8) (b:UInt8) (r:List UInt8) (h:chars.contains b=true):Lib.indexAny (b::r) chars=0:=by
 show (if chars.contains b then (0:Int)else _)=0;rw [h];rfl
theorem od:∀b:UInt8,128 <= b.toNat ->aT.contains b=false:=fun b=>te (p:=fun b=>128 <= b.toNat ->aT.contains b=false) (by unfold rT;decide+kernel) b
theorem qw:∀b:UInt8,decide (0 <= Lib.indexByte aT b)=aT.contains b:=fun b=>te (p:=fun b=>decide (0 <= Lib.indexByte aT b)=aT.contains b) (by unfold rT;decide+kernel) b
theorem yg (s:ByteArray) (pos:Nat) (hp:pos<s.size) (h:128 <= s[pos].toNat):∀b∈(s.data.toList.drop pos).take (Utf8.decode s pos).2,aT.contains b=false:=by
 intro b hb;have hd:=bP s pos hp;have hw:=Lib.decodeL_width (s.data.toList.drop pos);have hc:=(gN s[pos] (s.data.toList.drop (pos+1))).1;rw [<- hd,Lib.decodeL_drop]at hc;rw [Lib.decodeL_drop]at hw;rw [hd,List.take_cons (by omega)]at hb;rcases List.mem_cons.1 hb with e|e
 ·rw [e];exact od _ h
 ·have:=hc b e;unfold lD at this;refine od _ ?_;simp at this;omega
theorem pm (s:ByteArray) (w:World) (h8:s.size <= 8):
  Calls Tryz.prog 172 #[.string s,.string ⟨#[0,92,38,96,60,42,95,33,91,93,10,32]⟩] w fun e w'=>e=.returned (.int .i64 (Lib.indexAny s.data.toList aT))∧Below w.heap.size w w':=by
 have hu:=fun W=>Any.strings_shouldUseASCIISet Tryz.lays226 (s.size:Int) W;have h8':decide ((8:Int)<(s.size:Int))=false:=(by simp;omega);rw [h8']at hu;have HU:=zh hu;clear hu;have he:(ByteArray.mk #[0,92,38,96,60,42,95,33,91,93,10,32]).toList.isEmpty=false:=(by rw [Lib.toList_data];rfl);go_enter Tryz.func172,Tryz.ntmps172
 go_wp2_with fail;refine (HU.out _).mono ?_;rintro e w' ⟨rfl,hw'⟩;obtain rfl:=hw'.symm;go_wp2_with fail;go_loopw [] (fun wr=>∃pos:Nat,wr.heap[w.heap.size]? =some (.stringIter s pos)∧Below w.heap.size w wr∧pos <= s.size∧Lib.indexAny s.data.toList aT=(if Lib.indexAny (s.data.toList.drop pos) aT= -1 then -1 else Lib.indexAny (s.data.toList.drop pos) aT+pos)) (fun wr=>s.size - wr.iterPos w.heap.size)
 case atStart=>
  refine ⟨0,?_,(Below.refl _ w).alloc (Nat.le_refl _) _,by omega,?_⟩
  ·have:=World.iter_heap w s 0;simpa using this
  ·rw [List.drop_zero];split
   ·assumption
   ·omega
 case round=>
  obtain ⟨pos,hit,hbw,hps,hix⟩:=hrel;have hsz:w.heap.size<wr.heap.size:=(Array.getElem?_eq_some_iff.1 hit).1;by_cases hp:pos<s.size
  ·have hnx:∀ty,(Instr.next (.pointer (some ⟨w.heap.size,0,none⟩)) true ty).run Tryz.prog wr=_:=fun ty=>Lib.run_next_any_at wr w.heap.size s pos ty hit hp;have hit2:=Lib.iterAt_heap wr w.heap.size s pos (pos+(Utf8.decode s pos).2) hit;have hbw2:=Lib.below_iterAt hbw (k:=w.heap.size) (by omega) s (pos+(Utf8.decode s pos).2);have hda:=bP s pos hp;have hge:=Lib.indexAny_ge aT (s.data.toList.drop (pos+1));obtain ⟨c,hc⟩:∃c,s[pos]=c:=⟨_,rfl⟩
   by_cases hasc:c.toNat<128
   ·rw [Go.decode_ascii s pos hp (by rw [hc];exact hasc),hc]at hnx;rw [Go.decode_ascii s pos hp (by rw [hc];exact hasc)]at hit2 hbw2;simp only at hnx hit2 hbw2;rw [hc]at hda;have hi0:(0:Int) <= (c.toNat:Int):=(by omega);have hi1:(c.toNat:Int)<128:=(by omega);have hir:=fun W=>Tryz.strings_IndexRune_ascii ⟨#[0,92,38,96,60,42,95,33,91,93,10,32]⟩ (c.toNat:Int) W hi0 hi1;have hsi:=qw c;rw [show (ByteArray.mk #[0,92,38,96,60,42,95,33,91,93,10,32]).data.toList=aT from rfl,show ((c.toNat:Int).toNat.toUInt8)=c by rw [Int.toNat_natCast];simp]at hir;obtain ⟨k,hk⟩:∃k,Lib.indexByte aT c=k:=⟨_,rfl⟩
    rw [hk]at hir hsi;have HIR:=zh hir;clear hir hk hbw;cases hsp:aT.contains c
    ·rw [hsp,decide_eq_false_iff_not]at hsi;have hn:=gU aT [c] (s.data.toList.drop (pos+1)) (fun b hb=>by rw [List.mem_singleton.1 hb];exact hsp);rw [hda,show c::s.data.toList.drop (pos+1)=[c]++s.data.toList.drop (pos+1)from rfl,hn]at hix;have HN:=zh (show Lib.indexAny s.data.toList aT=(if Lib.indexAny (s.data.toList.drop (pos+1)) aT= -1 then -1 else Lib.indexAny (s.data.toList.drop (pos+1)) aT+((pos+1:Nat):Int)) by
      rw [hix];by_cases h1:Lib.indexAny (s.data.toList.drop (pos+1)) aT= -1
      ·rw [if_pos h1,if_pos h1,if_pos rfl]
      ·rw [if_neg h1,if_neg h1,if_neg (by simp;omega)];simp;omega)
     clear hix hn hda hc;go_wp2_with fail;refine (HIR.out _).mono ?_;rintro e w' ⟨rfl,hw'⟩;obtain rfl:=hw'.symm;go_wp2_with fail;go_roundw;case rel=>exact ⟨pos+1,hit2,hbw2,by omega,HN.out⟩
     case measure=>simp only [World.iterPos,hit2,hit];omega
    ·rw [hsp,decide_eq_true_eq]at hsi;rw [hda,su aT c _ hsp,if_neg (by omega)]at hix;have HN:=zh hix;clear hix hda hc;go_wp2_with fail;refine (HIR.out _).mono ?_;rintro e w' ⟨rfl,hw'⟩;obtain rfl:=hw'.symm;go_wp2_with fail;go_ret;exact ⟨oK (by rw [HN.out];omega),hbw2⟩
   ·have hbig:=lw s pos hp (by rw [hc];omega);have hcb:=yg s pos hp (by rw [hc];omega);have hrl:=Lib.decodeL_rune (s.data.toList.drop pos);have hwl:=Lib.decodeL_le (s.data.toList.drop pos) (by rw [hda];simp);have hwd:=Lib.decodeL_width (s.data.toList.drop pos);rw [Lib.decodeL_drop]at hrl hwl hwd;obtain ⟨r,n,hrn⟩:∃r n,Utf8.decode s pos=(r,n):=⟨_,_,rfl⟩
    rw [hrn]at hnx hit2 hbw2 hbig hcb hrl hwl hwd;simp only at hnx hit2 hbw2 hbig hcb hrl hwl hwd;rw [List.length_drop,<- Lib.size_eq]at hwl;have hir:=fun W=>gV ⟨#[0,92,38,96,60,42,95,33,91,93,10,32]⟩ (r:Int) W (by unfold cN;decide) (by decide) (by omega) (by omega);have hn:=gU aT ((s.data.toList.drop pos).take n) ((s.data.toList.drop pos).drop n) hcb;rw [List.take_append_drop,List.drop_drop,List.length_take,List.length_drop,<- Lib.size_eq,show min n (s.size - pos)=n by omega]at hn;rw [hn]at hix;have hge2:=Lib.indexAny_ge aT (s.data.toList.drop (pos+n));have HN:=zh (show Lib.indexAny s.data.toList aT=(if Lib.indexAny (s.data.toList.drop (pos+n)) aT= -1 then -1 else Lib.indexAny (s.data.toList.drop (pos+n)) aT+((pos+n:Nat):Int)) by
     rw [hix];by_cases h1:Lib.indexAny (s.data.toList.drop (pos+n)) aT= -1
     ·rw [if_pos h1,if_pos h1,if_pos rfl]
     ·rw [if_neg h1,if_neg h1,if_neg (by omega)];omega)
    have HIR:=zh hir;clear hir hix hn hda hc hrn hcb;go_wp2_with fail;refine (HIR.out _).mono ?_;rintro e w' ⟨rfl,b3⟩;have hit3:=a7 hit2 b3;have hbw3:=aa hbw2 b3;go_wp2_with fail;go_roundw;case rel=>exact ⟨pos+n,hit3,hbw3,by omega,HN.out⟩
    case measure=>simp only [World.iterPos,hit3,hit];omega
  ·have hnx:∀ty,(Instr.next (.pointer (some ⟨w.heap.size,0,none⟩)) true ty).run Tryz.prog wr=_:=fun ty=>Lib.run_next_end_at wr w.heap.size s pos ty hit hp;rw [dl s pos (by omega),if_pos (by rfl)]at hix;have HN:=zh hix;clear hix;go_wp2_with fail;go_ret;exact ⟨oK HN.out.symm,hbw⟩
theorem ss (s:ByteArray) (w:World) (hs:s.size <= 1000000000):
  Calls Tryz.prog 172 #[.string s,.string ⟨#[0,92,38,96,60,42,95,33,91,93,10,32]⟩] w fun e w'=>e=.returned (.int .i64 (Lib.indexAny s.data.toList aT))∧Below w.heap.size w w':=by
 by_cases h8:s.size <= 8
 ·exact pm s w h8
 ·have hz:(Tryz.prog.info? 180).map (fun i=>(i.zero,i.size))=some (some (.agg (Array.replicate 256 (.bool false))),256):=(by kernel_rfl);refine (Any.strings_IndexAny_long Tryz.lays153 (zero_of_info hz).1 (zero_of_info hz).2 s ⟨#[0,92,38,96,60,42,95,33,91,93,10,32]⟩ w (by decide) (by omega) (by omega) (by decide) (ascii_of_all (by decide))).mono ?_;rintro e w' ⟨rfl,rfl⟩;exact ⟨rfl,((Below.refl _ w).alloc (Nat.le_refl _) _).alloc (by simp) _⟩
theorem A2 {a b:Option (oz×Nat)} (h:a=b):Ending.returned (.tuple #[kd a,.int .i64 (kc a)])=.returned (.tuple #[kd b,.int .i64 (kc b)]):=by rw [h]
theorem vC (s:ByteArray) (r:List UInt8) (w:World) (hl:s.data.toList=0::r) (hs:s.size <= 1000000000):
  Calls Tryz.prog 171 #[.string s] w fun e w'=>e=.returned (.tuple #[kd (eH s.data.toList),.int .i64 (kc (eH s.data.toList))])∧Below w.heap.size w w':=by
 have hsz:1 <= s.size:=(by rw [Lib.size_eq,hl];simp);have hc:∀h,s[0]'h=0:=fun h=>by
  have:=Lib.data_getElem? s 0 h;rw [hl]at this;simpa using this.symm
 have HB:=zh (show eH s.data.toList=ig s.data.toList by rw [hl];rfl);clear hl;go_enter Tryz.func171,Tryz.ntmps171
 go_wp2_with fail;refine (z8 s _ hsz hs).mono ?_;rintro e w2 ⟨rfl,b2⟩;go_wp2_with fail
 go_ret2
 exact ⟨A2 HB.out.symm,b2⟩
theorem uf {r:oz×Nat} {t:oz} {m i:Nat} {v:Value} {n:Int} (h:r=(t,m)) (hv:v=t.val) (hn:n=((i+m:Nat):Int)):Ending.returned (.tuple #[v,.int .i64 n])=.returned (.tuple #[r.1.val,.int .i64 ((i+r.2:Nat):Int)]):=by
 rw [h,hv,hn]
theorem rz {r:oz×Nat} {l:List UInt8} {X:ByteArray} {m i:Nat} {n:Int} (h:r=(.word l,m)) (hX:X.data.toList=l) (hn:n=((i+m:Nat):Int)):Ending.returned (.tuple #[.iface 211 (.string X),.int .i64 n])=.returned (.tuple #[r.1.val,.int .i64 ((i+r.2:Nat):Int)]):=by
 refine uf h ?_ hn;rw [Ab hX];rfl
theorem A0 (s:ByteArray) (i:Nat) (w:World) (hi:i<s.size) (h0:∀h,s[i]'h=0) (hs:s.size <= 1000000):
  Calls Tryz.prog 132 #[.string s,.int .i64 i] w fun e w'=>e=.returned (.tuple #[(jT (s.data.toList.drop i)).1.val,.int .i64 ((i+(jT (s.data.toList.drop i)).2:Nat):Int)])∧Below w.heap.size w w':=by
 have hi':(i:Int)<(s.size:Int):=(by omega);have hi2:¬(s.size:Int) <= (i:Int):=(by omega);obtain ⟨S,hS⟩:∃S,s.extract i s.size=S:=⟨_,rfl⟩
 have hSl:S.data.toList=s.data.toList.drop i:=(by rw [<- hS,iA]);have hSz:S.size=s.size - i:=(by rw [<- hS,nF]);have hS1:1 <= S.size:=(by omega);have hS2:S.size+i <= s.size:=(by omega);have hS3:s.size <= S.size+i:=(by omega);clear hSz;have hSr:S.data.toList=0::s.data.toList.drop (i+1):=(by rw [hSl,bP s i hi,h0 hi]);have hb:=fun W=>vC S _ W hSr (by omega);have hbz:eH (s.data.toList.drop i)=ig (s.data.toList.drop i):=(by rw [<- hSl,hSr];unfold eH;rfl);rw [hSl]at hb;clear hSr
 have hN:jT (s.data.toList.drop i)=match eH (s.data.toList.drop i)with
  |some r=>r
  |none=>(.word ((s.data.toList.drop i).take (mG (s.data.toList.drop i))),mG (s.data.toList.drop i)):=rfl
 cases hbo:eH (s.data.toList.drop i)with
 |none=>
  rw [hbo]at hb hN;simp only at hN;simp only [kd,kc]at hb;have hx:=fun W=>ss (S.extract 1 S.size) W (by rw [nF];omega);rw [iA,hSl]at hx;have hlt:=nX aT ((s.data.toList.drop i).drop 1);have hP:mG (s.data.toList.drop i)=if 0 <= Lib.indexAny ((s.data.toList.drop i).drop 1) aT then 1+(Lib.indexAny ((s.data.toList.drop i).drop 1) aT).toNat else (s.data.toList.drop i).length:=rfl;obtain ⟨k,hk⟩:∃k,Lib.indexAny ((s.data.toList.drop i).drop 1) aT=k:=⟨_,rfl⟩
  rw [hk]at hx hlt hP;rw [<- hSl,<- Lib.size_eq]at hP;have HB:=zh hb;have HX:=zh hx;have HSL:=zh hSl;clear hb hx hk hbo hbz;by_cases hk0:0 <= k
  ·rw [if_pos hk0]at hP;obtain ⟨K,rfl⟩:∃K:Nat,k=K:=⟨k.toNat,by omega⟩
   have hlt:=hlt hk0;rw [List.length_drop,<- hSl,<- Lib.size_eq,Int.toNat_natCast]at hlt;rw [Int.toNat_natCast,hSl]at hP;rw [hP]at hN;have HN:=zh hN;have hK1:(1:Int)+(K:Int) <= (S.size:Int):=(by omega);clear hN hP hSl;go_enter Tryz.func132,Tryz.ntmps132
   go_wp2_with fail;refine (HB.out _).mono ?_;rintro e w2 ⟨rfl,b2⟩;go_wp2_with fail;refine (HX.out _).mono ?_;rintro e w3 ⟨rfl,b3⟩;have B3:=aa b2 b3;go_wp2_with fail
   go_ret2
   exact ⟨rz HN.out (by rw [Lib.extract_data,HSL.out];simp) (by omega),B3⟩
  ·rw [if_neg hk0,hSl]at hP;rw [hP,<- hSl]at hN;have HN:=zh hN;clear hN hP hSl hlt;go_enter Tryz.func132,Tryz.ntmps132
   go_wp2_with fail;refine (HB.out _).mono ?_;rintro e w2 ⟨rfl,b2⟩;go_wp2_with fail;refine (HX.out _).mono ?_;rintro e w3 ⟨rfl,b3⟩;have B3:=aa b2 b3;go_wp2_with fail
   go_ret2
   exact ⟨rz (l:=S.data.toList.take S.size) (m:=S.size) (X:=S) (by rw [<- HSL.out];exact HN.out) (uW S).symm (by omega),B3⟩
 |some r=>
  obtain ⟨t,n⟩:=r;rw [hbo]at hb hN;simp only at hN;simp only [kd,kc]at hb;obtain ⟨hpos,hsafe⟩:=sa (hbz▸hbo);rw [List.length_drop,<- Lib.size_eq]at hsafe;have HB:=zh hb;have HN:=zh hN;have hn0:(0:Int)<(n:Int):=(by omega);clear hb hN hbo hSl hbz;go_enter Tryz.func132,Tryz.ntmps132
  go_wp2_with fail;refine (HB.out _).mono ?_;rintro e w2 ⟨rfl,b2⟩;go_wp2_with fail
  go_ret2
  exact ⟨uf HN.out rfl (by omega),b2⟩
end Go.Proofs.YtcannffahjbjnaaGreatDoor
