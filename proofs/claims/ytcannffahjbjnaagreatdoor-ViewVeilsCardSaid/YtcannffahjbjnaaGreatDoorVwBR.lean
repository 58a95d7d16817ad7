import Derived.Test.YtcannffahjbjnaaGreatDoorVwBH
import Derived.Lib.Replace
import Derived.Lib.CountLaws
import Derived.Shelf.Strings.Replace
import Derived.Shelf.Strings.IndexAnyAll
set_option linter.unusedVariables false
set_option linter.unusedSimpArgs false
set_option maxRecDepth 100000
set_option maxHeartbeats 64000000
namespace Go.Proofs.YtcannffahjbjnaaGreatDoor
open Go.RowKit
theorem DM {o:Option (o9×Nat)} {t:o9} {m:Nat} {v:Value} {n:Int} (h:o=some (t,m)) (hv:v=t.val) (hn:n=m):Ending.returned (.tuple #[v,.int .i64 n])=.returned (.tuple #[kE o,.int .i64 (kD o)]):=by
 rw [h,hv,hn];rfl
theorem tq {o:Option (o9×Nat)} (h:o=none):Ending.returned (.tuple #[.nilIface,.int .i64 0])=.returned (.tuple #[kE o,.int .i64 (kD o)]):=by
 rw [h];rfl
theorem yN (s set:ByteArray) (w:World) (hz:set.size<4294967281) (ha:∀(j:Nat) b,set.data.toList[j]? =some b ->b.toNat<128) (hs:s.size <= 1000000000):
  Calls Tryz.prog 211 #[.string s,.string set] w fun e w'=>e=.returned (.int .i64 (aV s.data.toList set.data.toList))∧Below w.heap.size w w':=by
 have hc:∀W,Calls Tryz.prog 105 #[.string s,.string set] W fun e w'=>e=.returned (.string ⟨(Lib.trimLeftS s.data.toList set.data.toList).toArray⟩)∧Below W.heap.size W w':=fun W=>
  Any.strings_TrimLeft_laid Tryz.lays161 (by kernel_rfl) s set W hz ha
 obtain ⟨X,hX⟩:∃X:ByteArray,X=⟨(Lib.trimLeftS s.data.toList set.data.toList).toArray⟩:=⟨_,rfl⟩
 have hXs:X.size=(Lib.trimLeftS s.data.toList set.data.toList).length:=(by rw [hX,Lib.size_eq]);rw [<- hX]at hc;have hl:=pM s.data.toList set.data.toList;rw [<- hXs,<- Lib.size_eq]at hl;have HC:=zh hc;have HL:=zh hl;have hXle:X.size <= s.size:=(by omega);clear hc hl hXs hX;go_enter Tryz.func211,Tryz.ntmps211
 go_wp2_with fail;refine (HC.out _).mono ?_;rintro e w2 ⟨rfl,b2⟩;go_wp2_with fail;go_ret;exact ⟨py (by have:=HL.out;omega),b2⟩
theorem tM (set:List UInt8) (h:set.all (fun b=>decide (b.toNat<128))=true) (hn:set.length<4294967281) (s:ByteArray) (w:World) (hs:s.size <= 1000000000):
  Calls Tryz.prog 211 #[.string s,.string ⟨set.toArray⟩] w fun e w'=>e=.returned (.int .i64 (aV s.data.toList set))∧Below w.heap.size w w':=
 yN s ⟨set.toArray⟩ w (by rw [Lib.size_eq];exact hn) (ascii_of_all h) hs
theorem iQ (s:ByteArray) (k:Nat):(s.extract k s.size).data.toList=s.data.toList.drop k:=Lib.extract_to_end s k
theorem od (s:ByteArray) (k:Nat):(s.extract k s.size).size=s.size - k:=by rw [Lib.size_eq,iQ,List.length_drop,<- Lib.size_eq]
theorem En (c:UInt8) (s:ByteArray) (w:World):
  Calls Tryz.prog 106 #[.string s,.string ⟨#[c]⟩] w fun e w'=>e=.returned (.bool (decide (s.data.toList.head? =some c)))∧w'=w:=by
 have:=Tryz.strings_HasPrefix s ⟨#[c]⟩ w;rw [show (ByteArray.mk #[c]).data.toList=[c]from rfl,yr]at this;exact this
theorem wX (l:List UInt8) (c:UInt8):kl (l++[c])=kl l*10+(c.toNat - 48):=by
 unfold kl;rw [List.foldl_append];rfl
theorem uH:∀(l:List UInt8) (v:Nat),(∀b∈l,b.toNat <= 57) ->l.foldl (fun v c=>v*10+(c.toNat - 48)) v<(v+1)*10 ^ l.length
 |[],v,_=>by simp
 |c::l,v,h=>by
  have hc:=h c (List.mem_cons_self ..);have ih:=uH l (v*10+(c.toNat - 48)) (fun b hb=>h b (List.mem_cons_of_mem _ hb));rw [List.foldl_cons,List.length_cons,Nat.pow_succ];refine Nat.lt_of_lt_of_le ih ?_;rw [Nat.mul_comm (10 ^ l.length) 10,<- Nat.mul_assoc];exact Nat.mul_le_mul_right _ (by omega)
theorem vU (c:UInt8) (s set:List UInt8):aV (c::s) set=if set.contains c=true then aV s set+1 else 0:=by
 unfold aV;rw [List.takeWhile_cons];split<;>simp
theorem qJ (set:List UInt8):∀(s:List UInt8),∀b∈s.take (aV s set),set.contains b=true
 |[],b,hb=>by simp at hb
 |c::s,b,hb=>by
  rw [vU]at hb;split at hb
  ·rename_i h;rw [List.take_succ_cons]at hb;rcases List.mem_cons.1 hb with e|e
   ·rw [e];exact h
   ·exact qJ set s b e
  ·simp at hb
theorem oE:∀b:UInt8,a8.contains b=true ->48 <= b.toNat∧b.toNat <= 57:=fun b=>vS (p:=fun b=>a8.contains b=true ->48 <= b.toNat∧b.toNat <= 57) (by unfold tI;decide+kernel) b
theorem AZ (s:ByteArray) (w:World) (h0:1 <= s.size) (hs:s.size <= 1000000000):
  Calls Tryz.prog 206 #[.string s] w fun e w'=>e=.returned (.tuple #[kE (iA s.data.toList),.int .i64 (kD (iA s.data.toList))])∧Below w.heap.size w w':=by
 have hc:=fun W=>tM a8 (by decide) (by decide) (s.extract 1 s.size) W (by rw [od];omega);rw [iQ]at hc;have hle:=AX (s.data.toList.drop 1) a8;rw [List.length_drop,<- Lib.size_eq]at hle
 have hA:iA s.data.toList=if aV (s.data.toList.drop 1) a8<1∨4<aV (s.data.toList.drop 1) a8 then none
   else if (s.data.toList.drop (1+aV (s.data.toList.drop 1) a8)).head? =some 0 then some (.atom (kl ((s.data.toList.drop 1).take (aV (s.data.toList.drop 1) a8))),aV (s.data.toList.drop 1) a8+2)else none:=rfl
 have hdig:=qJ a8 (s.data.toList.drop 1);obtain ⟨n,hn⟩:∃n,aV (s.data.toList.drop 1) a8=n:=⟨_,rfl⟩
 rw [hn]at hc hle hA hdig;have HC:=zh hc;clear hc hn;rw [show (ByteArray.mk a8.toArray)=ByteArray.mk #[48,49,50,51,52,53,54,55,56,57]from rfl]at HC;by_cases t1:n<1
 ·have t1':(n:Int)<1:=(by omega);rw [if_pos (Or.inl t1)]at hA;have HA:=zh hA;clear hA hdig;go_enter Tryz.func206,Tryz.ntmps206
  go_wp2_with fail;refine (HC.out _).mono ?_;rintro e w2 ⟨rfl,b2⟩;go_wp2_with fail
  go_ret2
  exact ⟨tq HA.out,b2⟩
 ·have t1':¬(n:Int)<1:=(by omega);by_cases t2:4<n
  ·have t2':(4:Int)<(n:Int):=(by omega);rw [if_pos (Or.inr t2)]at hA;have HA:=zh hA;clear hA hdig;go_enter Tryz.func206,Tryz.ntmps206
   go_wp2_with fail;refine (HC.out _).mono ?_;rintro e w2 ⟨rfl,b2⟩;go_wp2_with fail
   go_ret2
   exact ⟨tq HA.out,b2⟩
  ·have t2':¬(4:Int)<(n:Int):=(by omega);rw [if_neg (by omega)]at hA;have hp:=fun W=>En 0 (s.extract (1+n) s.size) W;rw [iQ]at hp;by_cases t3:(s.data.toList.drop (1+n)).head? =some 0
   ·rw [decide_eq_true t3]at hp;rw [if_pos t3]at hA;obtain ⟨D,hD⟩:∃D:ByteArray,s.extract 1 (1+n)=D:=⟨_,rfl⟩
    have hDl:D.data.toList=(s.data.toList.drop 1).take n:=(by rw [<- hD,Lib.extract_data];congr 1;omega);have hDz:D.size=n:=(by rw [Lib.size_eq,hDl,List.length_take,List.length_drop,<- Lib.size_eq];omega);rw [<- hDl]at hA hdig;have HP:=zh hp;have HA:=zh hA;have HDIG:=zh hdig;clear hA hdig hp hDl t3;go_enter Tryz.func206,Tryz.ntmps206
    go_wp2_with fail;refine (HC.out _).mono ?_;rintro e w2 ⟨rfl,b2⟩;go_wp2_with fail;refine (HP.out _).mono ?_;rintro e w' ⟨rfl,hw'⟩;obtain rfl:=hw'.symm;go_wp2_with fail;go_loopw [5] (fun u5 wr=>∃pos:Nat,pos <= n∧u5=.int .i64 (kl (D.data.toList.take pos))∧wr.heap[w2.heap.size]? =some (.stringIter D pos)∧Below w2.heap.size w2 wr) (fun _ wr=>D.size - wr.iterPos w2.heap.size)
    case atStart=>
     refine ⟨0,by omega,rfl,?_,(Below.refl _ w2).alloc (Nat.le_refl _) _⟩;have:=World.iter_heap w2 D 0;simpa using this
    case round=>
     obtain ⟨pos,hpn,rfl,hit,hbw⟩:=hrel;have hsz:w2.heap.size<wr.heap.size:=(Array.getElem?_eq_some_iff.1 hit).1;by_cases hp:pos<D.size
     ·obtain ⟨c,hc⟩:∃c,D[pos]=c:=⟨_,rfl⟩
      have hcd:48 <= c.toNat∧c.toNat <= 57:=by
       refine oE c (HDIG.out c ?_);rw [<- hc];have:=Lib.data_getElem? D pos hp;exact List.mem_of_getElem? this
      have hnx:∀ty,(Instr.next (.pointer (some ⟨w2.heap.size,0,none⟩)) true ty).run Tryz.prog wr=_:=fun ty=>Lib.run_next_any_at wr w2.heap.size D pos ty hit hp;have hit2:=Lib.iterAt_heap wr w2.heap.size D pos (pos+(Utf8.decode D pos).2) hit;have hbw2:=Lib.below_iterAt hbw (k:=w2.heap.size) (by omega) D (pos+(Utf8.decode D pos).2);rw [Go.decode_ascii D pos hp (by rw [hc];omega),hc]at hnx;rw [Go.decode_ascii D pos hp (by rw [hc];omega)]at hit2 hbw2;simp only at hnx hit2 hbw2;have hnum:kl (D.data.toList.take (pos+1))=kl (D.data.toList.take pos)*10+(c.toNat - 48):=(by rw [sF D pos hp,wX,hc]);have hnl:kl (D.data.toList.take pos)<10000:=by
       have h1:=uH (D.data.toList.take pos) 0 (fun b hb=>(oE b (HDIG.out b (List.mem_of_mem_take hb))).2);have h2:(D.data.toList.take pos).length <= 4:=(by have:=List.length_take_le pos D.data.toList;omega);have h3:10 ^ (D.data.toList.take pos).length <= 10 ^ 4:=Nat.pow_le_pow_right (by omega) h2;unfold kl;omega
      obtain ⟨v,hv⟩:∃v,kl (D.data.toList.take pos)=v:=⟨_,rfl⟩
      rw [hv]at hnum hnl⊢;have HNUM:=zh hnum;have hw1:IntKind.i32.wrap ((c.toNat:Int) - 48)=(c.toNat:Int) - 48:=IntWalk.i32_in _ (by omega);clear hnum hv hc hbw;go_wp2_with fail;go_roundw;case rel=>exact ⟨pos+1,by omega,by rw [HNUM.out];exact congrArg (Value.int .i64) (by omega),hit2,hbw2⟩
      case measure=>simp only [World.iterPos,hit2,hit];omega
     ·have hnx:∀ty,(Instr.next (.pointer (some ⟨w2.heap.size,0,none⟩)) true ty).run Tryz.prog wr=_:=fun ty=>Lib.run_next_end_at wr w2.heap.size D pos ty hit hp;obtain rfl:pos=D.size:=(by omega);rw [vv];go_wp2_with fail
      go_ret2
      exact ⟨DM HA.out rfl (by omega),aa b2 hbw⟩
   ·rw [decide_eq_false t3]at hp;rw [if_neg t3]at hA;have HP:=zh hp;have HA:=zh hA;clear hA hdig hp t3;go_enter Tryz.func206,Tryz.ntmps206
    go_wp2_with fail;refine (HC.out _).mono ?_;rintro e w2 ⟨rfl,b2⟩;go_wp2_with fail;refine (HP.out _).mono ?_;rintro e _ ⟨rfl,rfl⟩;go_wp2_with fail
    go_ret2
    exact ⟨tq HA.out,b2⟩
theorem Dr {l:List UInt8} {k:Nat} {c:UInt8} (h:(l.drop k).head? =some c):k<l.length:=by
 rcases Nat.lt_or_ge k l.length with h'|h'
 ·exact h'
 ·rw [List.drop_eq_nil_of_le h']at h;cases h
theorem sT {s:List UInt8} {t:o9} {n:Nat} (h:iA s=some (t,n)):0<n∧n <= s.length:=by
 unfold iA at h;split at h
 ·cases h
 ·split at h
  ·rename_i h3;have h3':=Dr h3;injection h with h;injection h with h1 h2;omega
  ·cases h
theorem lw {l:List UInt8} {n m:Nat} (h:kj (0::l)=(.atom n,m)):0<m∧m <= (0::l).length:=by
 have hb:eU (0::l)=iA (0::l):=(by unfold eU;rfl);unfold kj at h;rw [hb]at h;cases ha:iA (0::l)with
 |none=>rw [ha]at h;cases h
 |some r=>
  rw [ha]at h;obtain ⟨t,k⟩:=r;simp only [Prod.mk.injEq]at h;have:=sT ha;rw [h.2]at this;exact this
theorem oI (chars:List UInt8):∀(l:List UInt8),0 <= Lib.indexAny l chars ->(Lib.indexAny l chars).toNat<l.length
 |[],h=>by
  have:Lib.indexAny [] chars= -1:=rfl;rw [this]at h;omega
 |b::l,h=>by
  have ih:=oI chars l;unfold Lib.indexAny at h⊢;split
  ·simp
  ·rename_i hb;rw [if_neg hb]at h;split
   ·rename_i hm;rw [if_pos hm]at h;omega
   ·rename_i hm;have hge:=Lib.indexAny_ge chars l;have hne:Lib.indexAny l chars≠ -1:=(by simpa using hm);have:=ih (by omega);simp;omega
theorem io (chars:List UInt8):∀(c r:List UInt8),(∀b∈c,chars.contains b=false) ->Lib.indexAny (c++r) chars=if Lib.indexAny r chars= -1 then -1 else Lib.indexAny r chars+c.length
 |[],r,_=>by
  simp only [List.nil_append,List.length_nil];split<;>simp_all
 |b::c,r,h=>by
  have ih:=io chars c r (fun x hx=>h x (List.mem_cons_of_mem _ hx));have hb:=h b (List.mem_cons_self ..);show (if chars.contains b then (0:Int)else if Lib.indexAny (c++r) chars== -1 then -1 else Lib.indexAny (c++r) chars+1)=_;have hge:=Lib.indexAny_ge chars r;rw [ih,hb,if_neg (by simp)];by_cases h1:Lib.indexAny r chars= -1
  ·rw [if_pos h1,if_pos h1];rfl
  ·rw [if_neg h1,if_neg h1,if_neg (by simp;omega),List.length_cons];omega
theorem tc (chars:List UInt8) (b:UInt8) (r:List UInt8) (h:chars.contains b=true):Lib.indexAny (b::r) chars=0:=by
 show (if chars.contains b then (0:Int)else _)=0;rw [h];rfl
theorem oY:∀b:UInt8,128 <= b.toNat ->a7.contains b=false:=fun b=>vS (p:=fun b=>128 <= b.toNat ->a7.contains b=false) (by unfold tI;decide+kernel) b
theorem ri:∀b:UInt8,decide (0 <= Lib.indexByte a7 b)=a7.contains b:=fun b=>vS (p:=fun b=>decide (0 <= Lib.indexByte a7 b)=a7.contains b) (by unfold tI;decide+kernel) b
theorem yZ (s:ByteArray) (pos:Nat) (hp:pos<s.size) (h:128 <= s[pos].toNat):∀b∈(s.data.toList.drop pos).take (Utf8.decode s pos).2,a7.contains b=false:=by
 intro b hb;have hd:=cZ s pos hp;have hw:=Lib.decodeL_width (s.data.toList.drop pos);have hc:=(gZ s[pos] (s.data.toList.drop (pos+1))).1;rw [<- hd,Lib.decodeL_drop]at hc;rw [Lib.decodeL_drop]at hw;rw [hd,List.take_cons (by omega)]at hb;rcases List.mem_cons.1 hb with e|e
 ·rw [e];exact oY _ h
 ·have:=hc b e;unfold mb at this;refine oY _ ?_;simp at this;omega
theorem qd (s:ByteArray) (w:World) (h8:s.size <= 8):
  Calls Tryz.prog 172 #[.string s,.string ⟨#[0,92,38,96,60,42,95,33,91,93,10,32]⟩] w fun e w'=>e=.returned (.int .i64 (Lib.indexAny s.data.toList a7))∧Below w.heap.size w w':=by
 have hu:=fun W=>Any.strings_shouldUseASCIISet Tryz.lays226 (s.size:Int) W;have h8':decide ((8:Int)<(s.size:Int))=false:=(by simp;omega);rw [h8']at hu;have HU:=zh hu;clear hu;have he:(ByteArray.mk #[0,92,38,96,60,42,95,33,91,93,10,32]).toList.isEmpty=false:=(by rw [Lib.toList_data];rfl);go_enter Tryz.func172,Tryz.ntmps172
 go_wp2_with fail;refine (HU.out _).mono ?_;rintro e w' ⟨rfl,hw'⟩;obtain rfl:=hw'.symm;go_wp2_with fail;go_loopw [] (fun wr=>∃pos:Nat,wr.heap[w.heap.size]? =some (.stringIter s pos)∧Below w.heap.size w wr∧pos <= s.size∧Lib.indexAny s.data.toList a7=(if Lib.indexAny (s.data.toList.drop pos) a7= -1 then -1 else Lib.indexAny (s.data.toList.drop pos) a7+pos)) (fun wr=>s.size - wr.iterPos w.heap.size)
 case atStart=>
  refine ⟨0,?_,(Below.refl _ w).alloc (Nat.le_refl _) _,by omega,?_⟩
  ·have:=World.iter_heap w s 0;simpa using this
  ·rw [List.drop_zero];split
   ·assumption
   ·omega
 case round=>
  obtain ⟨pos,hit,hbw,hps,hix⟩:=hrel;have hsz:w.heap.size<wr.heap.size:=(Array.getElem?_eq_some_iff.1 hit).1;by_cases hp:pos<s.size
  ·have hnx:∀ty,(Instr.next (.pointer (some ⟨w.heap.size,0,none⟩)) true ty).run Tryz.prog wr=_:=fun ty=>Lib.run_next_any_at wr w.heap.size s pos ty hit hp;have hit2:=Lib.iterAt_heap wr w.heap.size s pos (pos+(Utf8.decode s pos).2) hit;have hbw2:=Lib.below_iterAt hbw (k:=w.heap.size) (by omega) s (pos+(Utf8.decode s pos).2);have hda:=cZ s pos hp;have hge:=Lib.indexAny_ge a7 (s.data.toList.drop (pos+1));obtain ⟨c,hc⟩:∃c,s[pos]=c:=⟨_,rfl⟩
   by_cases hasc:c.toNat<128
   ·rw [Go.decode_ascii s pos hp (by rw [hc];exact hasc),hc]at hnx;rw [Go.decode_ascii s pos hp (by rw [hc];exact hasc)]at hit2 hbw2;simp only at hnx hit2 hbw2;rw [hc]at hda;have hi0:(0:Int) <= (c.toNat:Int):=(by omega);have hi1:(c.toNat:Int)<128:=(by omega);have hir:=fun W=>Tryz.strings_IndexRune_ascii ⟨#[0,92,38,96,60,42,95,33,91,93,10,32]⟩ (c.toNat:Int) W hi0 hi1;have hsi:=ri c;rw [show (ByteArray.mk #[0,92,38,96,60,42,95,33,91,93,10,32]).data.toList=a7 from rfl,show ((c.toNat:Int).toNat.toUInt8)=c by rw [Int.toNat_natCast];simp]at hir;obtain ⟨k,hk⟩:∃k,Lib.indexByte a7 c=k:=⟨_,rfl⟩
    rw [hk]at hir hsi;have HIR:=zh hir;clear hir hk hbw;cases hsp:a7.contains c
    ·rw [hsp,decide_eq_false_iff_not]at hsi;have hn:=io a7 [c] (s.data.toList.drop (pos+1)) (fun b hb=>by rw [List.mem_singleton.1 hb];exact hsp);rw [hda,show c::s.data.toList.drop (pos+1)=[c]++s.data.toList.drop (pos+1)from rfl,hn]at hix;have HN:=zh (show Lib.indexAny s.data.toList a7=(if Lib.indexAny (s.data.toList.drop (pos+1)) a7= -1 then -1 else Lib.indexAny (s.data.toList.drop (pos+1)) a7+((pos+1:Nat):Int)) by
      rw [hix];by_cases h1:Lib.indexAny (s.data.toList.drop (pos+1)) a7= -1
      ·rw [if_pos h1,if_pos h1,if_pos rfl]
      ·rw [if_neg h1,if_neg h1,if_neg (by simp;omega)];simp;omega)
     clear hix hn hda hc;go_wp2_with fail;refine (HIR.out _).mono ?_;rintro e w' ⟨rfl,hw'⟩;obtain rfl:=hw'.symm;go_wp2_with fail;go_roundw;case rel=>exact ⟨pos+1,hit2,hbw2,by omega,HN.out⟩
     case measure=>simp only [World.iterPos,hit2,hit];omega
    ·rw [hsp,decide_eq_true_eq]at hsi;rw [hda,tc a7 c _ hsp,if_neg (by omega)]at hix;have HN:=zh hix;clear hix hda hc;go_wp2_with fail;refine (HIR.out _).mono ?_;rintro e w' ⟨rfl,hw'⟩;obtain rfl:=hw'.symm;go_wp2_with fail;go_ret;exact ⟨py (by rw [HN.out];omega),hbw2⟩
   ·have hbig:=lV s pos hp (by rw [hc];omega);have hcb:=yZ s pos hp (by rw [hc];omega);have hrl:=Lib.decodeL_rune (s.data.toList.drop pos);have hwl:=Lib.decodeL_le (s.data.toList.drop pos) (by rw [hda];simp);have hwd:=Lib.decodeL_width (s.data.toList.drop pos);rw [Lib.decodeL_drop]at hrl hwl hwd;obtain ⟨r,n,hrn⟩:∃r n,Utf8.decode s pos=(r,n):=⟨_,_,rfl⟩
    rw [hrn]at hnx hit2 hbw2 hbig hcb hrl hwl hwd;simp only at hnx hit2 hbw2 hbig hcb hrl hwl hwd;rw [List.length_drop,<- Lib.size_eq]at hwl;have hir:=fun W=>iq ⟨#[0,92,38,96,60,42,95,33,91,93,10,32]⟩ (r:Int) W (by unfold cQ;decide) (by decide) (by omega) (by omega);have hn:=io a7 ((s.data.toList.drop pos).take n) ((s.data.toList.drop pos).drop n) hcb;rw [List.take_append_drop,List.drop_drop,List.length_take,List.length_drop,<- Lib.size_eq,show min n (s.size - pos)=n by omega]at hn;rw [hn]at hix;have hge2:=Lib.indexAny_ge a7 (s.data.toList.drop (pos+n));have HN:=zh (show Lib.indexAny s.data.toList a7=(if Lib.indexAny (s.data.toList.drop (pos+n)) a7= -1 then -1 else Lib.indexAny (s.data.toList.drop (pos+n)) a7+((pos+n:Nat):Int)) by
     rw [hix];by_cases h1:Lib.indexAny (s.data.toList.drop (pos+n)) a7= -1
     ·rw [if_pos h1,if_pos h1,if_pos rfl]
     ·rw [if_neg h1,if_neg h1,if_neg (by omega)];omega)
    have HIR:=zh hir;clear hir hix hn hda hc hrn hcb;go_wp2_with fail;refine (HIR.out _).mono ?_;rintro e w' ⟨rfl,b3⟩;have hit3:=bA hit2 b3;have hbw3:=aa hbw2 b3;go_wp2_with fail;go_roundw;case rel=>exact ⟨pos+n,hit3,hbw3,by omega,HN.out⟩
    case measure=>simp only [World.iterPos,hit3,hit];omega
  ·have hnx:∀ty,(Instr.next (.pointer (some ⟨w.heap.size,0,none⟩)) true ty).run Tryz.prog wr=_:=fun ty=>Lib.run_next_end_at wr w.heap.size s pos ty hit hp;rw [ee s pos (by omega),if_pos (by rfl)]at hix;have HN:=zh hix;clear hix;go_wp2_with fail;go_ret;exact ⟨py HN.out.symm,hbw⟩
theorem s9 (s:ByteArray) (w:World) (hs:s.size <= 1000000000):
  Calls Tryz.prog 172 #[.string s,.string ⟨#[0,92,38,96,60,42,95,33,91,93,10,32]⟩] w fun e w'=>e=.returned (.int .i64 (Lib.indexAny s.data.toList a7))∧Below w.heap.size w w':=by
 by_cases h8:s.size <= 8
 ·exact qd s w h8
 ·have hz:(Tryz.prog.info? 180).map (fun i=>(i.zero,i.size))=some (some (.agg (Array.replicate 256 (.bool false))),256):=(by kernel_rfl);refine (Any.strings_IndexAny_long Tryz.lays153 (zero_of_info hz).1 (zero_of_info hz).2 s ⟨#[0,92,38,96,60,42,95,33,91,93,10,32]⟩ w (by decide) (by omega) (by omega) (by decide) (ascii_of_all (by decide))).mono ?_;rintro e w' ⟨rfl,rfl⟩;exact ⟨rfl,((Below.refl _ w).alloc (Nat.le_refl _) _).alloc (by simp) _⟩
theorem B6 {a b:Option (o9×Nat)} (h:a=b):Ending.returned (.tuple #[kE a,.int .i64 (kD a)])=.returned (.tuple #[kE b,.int .i64 (kD b)]):=by rw [h]
theorem vW (s:ByteArray) (r:List UInt8) (w:World) (hl:s.data.toList=0::r) (hs:s.size <= 1000000000):
  Calls Tryz.prog 171 #[.string s] w fun e w'=>e=.returned (.tuple #[kE (eU s.data.toList),.int .i64 (kD (eU s.data.toList))])∧Below w.heap.size w w':=by
 have hsz:1 <= s.size:=(by rw [Lib.size_eq,hl];simp);have hc:∀h,s[0]'h=0:=fun h=>by
  have:=Lib.data_getElem? s 0 h;rw [hl]at this;simpa using this.symm
 have HB:=zh (show eU s.data.toList=iA s.data.toList by rw [hl];rfl);clear hl;go_enter Tryz.func171,Tryz.ntmps171
 go_wp2_with fail;refine (AZ s _ hsz hs).mono ?_;rintro e w2 ⟨rfl,b2⟩;go_wp2_with fail
 go_ret2
 exact ⟨B6 HB.out.symm,b2⟩
theorem uG {r:o9×Nat} {t:o9} {m i:Nat} {v:Value} {n:Int} (h:r=(t,m)) (hv:v=t.val) (hn:n=((i+m:Nat):Int)):Ending.returned (.tuple #[v,.int .i64 n])=.returned (.tuple #[r.1.val,.int .i64 ((i+r.2:Nat):Int)]):=by
 rw [h,hv,hn]
theorem sa {r:o9×Nat} {l:List UInt8} {X:ByteArray} {m i:Nat} {n:Int} (h:r=(.word l,m)) (hX:X.data.toList=l) (hn:n=((i+m:Nat):Int)):Ending.returned (.tuple #[.iface 211 (.string X),.int .i64 n])=.returned (.tuple #[r.1.val,.int .i64 ((i+r.2:Nat):Int)]):=by
 refine uG h ?_ hn;rw [A0 hX];rfl
theorem B5 (s:ByteArray) (i:Nat) (w:World) (hi:i<s.size) (h0:∀h,s[i]'h=0) (hs:s.size <= 1000000):
  Calls Tryz.prog 132 #[.string s,.int .i64 i] w fun e w'=>e=.returned (.tuple #[(kj (s.data.toList.drop i)).1.val,.int .i64 ((i+(kj (s.data.toList.drop i)).2:Nat):Int)])∧Below w.heap.size w w':=by
 have hi':(i:Int)<(s.size:Int):=(by omega);have hi2:¬(s.size:Int) <= (i:Int):=(by omega);obtain ⟨S,hS⟩:∃S,s.extract i s.size=S:=⟨_,rfl⟩
 have hSl:S.data.toList=s.data.toList.drop i:=(by rw [<- hS,iQ]);have hSz:S.size=s.size - i:=(by rw [<- hS,od]);have hS1:1 <= S.size:=(by omega);have hS2:S.size+i <= s.size:=(by omega);have hS3:s.size <= S.size+i:=(by omega);clear hSz;have hSr:S.data.toList=0::s.data.toList.drop (i+1):=(by rw [hSl,cZ s i hi,h0 hi]);have hb:=fun W=>vW S _ W hSr (by omega);have hbz:eU (s.data.toList.drop i)=iA (s.data.toList.drop i):=(by rw [<- hSl,hSr];unfold eU;rfl);rw [hSl]at hb;clear hSr
 have hN:kj (s.data.toList.drop i)=match eU (s.data.toList.drop i)with
  |some r=>r
  |none=>(.word ((s.data.toList.drop i).take (nm (s.data.toList.drop i))),nm (s.data.toList.drop i)):=rfl
 cases hbo:eU (s.data.toList.drop i)with
 |none=>
  rw [hbo]at hb hN;simp only at hN;simp only [kE,kD]at hb;have hx:=fun W=>s9 (S.extract 1 S.size) W (by rw [od];omega);rw [iQ,hSl]at hx;have hlt:=oI a7 ((s.data.toList.drop i).drop 1);have hP:nm (s.data.toList.drop i)=if 0 <= Lib.indexAny ((s.data.toList.drop i).drop 1) a7 then 1+(Lib.indexAny ((s.data.toList.drop i).drop 1) a7).toNat else (s.data.toList.drop i).length:=rfl;obtain ⟨k,hk⟩:∃k,Lib.indexAny ((s.data.toList.drop i).drop 1) a7=k:=⟨_,rfl⟩
  rw [hk]at hx hlt hP;rw [<- hSl,<- Lib.size_eq]at hP;have HB:=zh hb;have HX:=zh hx;have HSL:=zh hSl;clear hb hx hk hbo hbz;by_cases hk0:0 <= k
  ·rw [if_pos hk0]at hP;obtain ⟨K,rfl⟩:∃K:Nat,k=K:=⟨k.toNat,by omega⟩
   have hlt:=hlt hk0;rw [List.length_drop,<- hSl,<- Lib.size_eq,Int.toNat_natCast]at hlt;rw [Int.toNat_natCast,hSl]at hP;rw [hP]at hN;have HN:=zh hN;have hK1:(1:Int)+(K:Int) <= (S.size:Int):=(by omega);clear hN hP hSl;go_enter Tryz.func132,Tryz.ntmps132
   go_wp2_with fail;refine (HB.out _).mono ?_;rintro e w2 ⟨rfl,b2⟩;go_wp2_with fail;refine (HX.out _).mono ?_;rintro e w3 ⟨rfl,b3⟩;have B3:=aa b2 b3;go_wp2_with fail
   go_ret2
   exact ⟨sa HN.out (by rw [Lib.extract_data,HSL.out];simp) (by omega),B3⟩
  ·rw [if_neg hk0,hSl]at hP;rw [hP,<- hSl]at hN;have HN:=zh hN;clear hN hP hSl hlt;go_enter Tryz.func132,Tryz.ntmps132
   go_wp2_with fail;refine (HB.out _).mono ?_;rintro e w2 ⟨rfl,b2⟩;go_wp2_with fail;refine (HX.out _).mono ?_;rintro e w3 ⟨rfl,b3⟩;have B3:=aa b2 b3;go_wp2_with fail
   go_ret2
   exact ⟨sa (l:=S.data.toList.take S.size) (m:=S.size) (X:=S) (by rw [<- HSL.out];exact HN.out) (vv S).symm (by omega),B3⟩
 |some r=>
  obtain ⟨t,n⟩:=r;rw [hbo]at hb hN;simp only at hN;simp only [kE,kD]at hb;obtain ⟨hpos,hsafe⟩:=sT (hbz▸hbo);rw [List.length_drop,<- Lib.size_eq]at hsafe;have HB:=zh hb;have HN:=zh hN;have hn0:(0:Int)<(n:Int):=(by omega);clear hb hN hbo hSl hbz;go_enter Tryz.func132,Tryz.ntmps132
  go_wp2_with fail;refine (HB.out _).mono ?_;rintro e w2 ⟨rfl,b2⟩;go_wp2_with fail
  go_ret2
  exact ⟨uG HN.out rfl (by omega),b2⟩
end Go.Proofs.YtcannffahjbjnaaGreatDoor
