import Derived.Test.YtkphljggkajlkaaGreatDoorVwBH
import Derived.Lib.Replace
import Derived.Lib.CountLaws
import Derived.Shelf.Strings.Replace
import Derived.LoopN
import Derived.Shelf.Strings.IndexAnyAll
set_option linter.unusedVariables false
set_option linter.unusedSimpArgs false
namespace Go.Proofs.YtkphljggkajlkaaGreatDoor
open Go.RowKit
set_option maxRecDepth 100000
set_option linter.unusedVariables false
set_option linter.unusedSimpArgs false
theorem ret_tok {o:Option (Tok×Nat)} {t:Tok} {m:Nat} {v:Value} {n:Int} (h:o=some (t,m)) (hv:v=t.val) (hn:n=m):Ending.returned (.tuple #[v,.int .i64 n])=.returned (.tuple #[tokVal o,.int .i64 (tokLen o)]):=by
 rw [h,hv,hn];rfl
theorem ret_nil {o:Option (Tok×Nat)} (h:o=none):Ending.returned (.tuple #[.nilIface,.int .i64 0])=.returned (.tuple #[tokVal o,.int .i64 (tokLen o)]):=by
 rw [h];rfl
theorem ret_tokc {r:Tok×Nat} {t:Tok} {m:Nat} {v:Value} {n:Int} (h:r=(t,m)) (hv:v=t.val) (hn:n=m):Ending.returned (.tuple #[v,.int .i64 n])=.returned (.tuple #[r.1.val,.int .i64 r.2]):=by
 rw [h,hv,hn]
theorem ret_word {o:Option (Tok×Nat)} {l:List UInt8} {X:ByteArray} {m:Nat} {n:Int} (h:o=some (.word l,m)) (hX:X.data.toList=l) (hn:n=m):Ending.returned (.tuple #[.iface 198 (.string X),.int .i64 n])=.returned (.tuple #[tokVal o,.int .i64 (tokLen o)]):=by
 refine ret_tok h ?_ hn;rw [ba_of hX];rfl
theorem ret_tag {o:Option (Tok×Nat)} {l:List UInt8} {X:ByteArray} {m:Nat} {n:Int} (h:o=some (.tag l,m)) (hX:X.data.toList=l) (hn:n=m):Ending.returned (.tuple #[.iface 251 (.string X),.int .i64 n])=.returned (.tuple #[tokVal o,.int .i64 (tokLen o)]):=by
 refine ret_tok h ?_ hn;rw [ba_of hX];rfl
theorem ret_auto {o:Option (Tok×Nat)} {u t:List UInt8} {X Y:ByteArray} {m:Nat} {n:Int} (h:o=some (.auto u t,m)) (hX:X.data.toList=u) (hY:Y.data.toList=t) (hn:n=m):Ending.returned (.tuple #[.iface 250 (.agg #[.string X,.string Y]),.int .i64 n])=.returned (.tuple #[tokVal o,.int .i64 (tokLen o)]):=by
 refine ret_tok h ?_ hn;rw [ba_of hX,ba_of hY];rfl
theorem ret_cword {r:Tok×Nat} {l:List UInt8} {X:ByteArray} {m:Nat} {n:Int} (h:r=(.word l,m)) (hX:X.data.toList=l) (hn:n=m):Ending.returned (.tuple #[.iface 198 (.string X),.int .i64 n])=.returned (.tuple #[r.1.val,.int .i64 r.2]):=by
 refine ret_tokc h ?_ hn;rw [ba_of hX];rfl
theorem ret_ccode {r:Tok×Nat} {l:List UInt8} {X:ByteArray} {m:Nat} {n:Int} (h:r=(.code l,m)) (hX:X.data.toList=l) (hn:n=m):Ending.returned (.tuple #[.iface 239 (.string X),.int .i64 n])=.returned (.tuple #[r.1.val,.int .i64 r.2]):=by
 refine ret_tokc h ?_ hn;rw [ba_of hX];rfl
theorem among_tok (s set:ByteArray) (w:World) (hz:set.size<4294967281) (ha:∀(j:Nat) b,set.data.toList[j]? =some b→b.toNat<128) (hs:s.size≤1000000000):
  Calls Tryz.prog 195 #[.string s,.string set] w fun e w'=>e=.returned (.int .i64 (amongL s.data.toList set.data.toList))∧Below w.heap.size w w':=by
 have hc:∀W,Calls Tryz.prog 108 #[.string s,.string set] W fun e w'=>e=.returned (.string ⟨(Lib.trimLeftS s.data.toList set.data.toList).toArray⟩)∧Below W.heap.size W w':=fun W=>
  Any.strings_TrimLeft_laid Tryz.lays161 (by kernel_rfl) s set W hz ha
 obtain ⟨X,hX⟩:∃X:ByteArray,X=⟨(Lib.trimLeftS s.data.toList set.data.toList).toArray⟩:=⟨_,rfl⟩
 have hXs:X.size=(Lib.trimLeftS s.data.toList set.data.toList).length:=(by rw [hX,Lib.size_eq]);rw [←hX]at hc;have hl:=among_trim s.data.toList set.data.toList;rw [←hXs,←Lib.size_eq]at hl;have HC:=Lib.hid hc;have HL:=Lib.hid hl;have hXle:X.size≤s.size:=(by omega);clear hc hl hXs hX;go_enter Tryz.func195,Tryz.ntmps195
 go_wp2_with fail;refine (HC.out _).mono ?_;rintro e w2 ⟨rfl,b2⟩;go_wp2_with fail;go_ret;exact ⟨ret_int (by have:=HL.out;omega),b2⟩
theorem among_small (set:List UInt8) (h:set.all (fun b=>decide (b.toNat<128))=true) (hn:set.length<4294967281) (s:ByteArray) (w:World) (hs:s.size≤1000000000):
  Calls Tryz.prog 195 #[.string s,.string ⟨set.toArray⟩] w fun e w'=>e=.returned (.int .i64 (amongL s.data.toList set))∧Below w.heap.size w w':=
 among_tok s ⟨set.toArray⟩ w (by rw [Lib.size_eq];exact hn) (ascii_of_all h) hs
theorem tail_list (s:ByteArray) (k:Nat):(s.extract k s.size).data.toList=s.data.toList.drop k:=Lib.extract_to_end s k
theorem tail_size (s:ByteArray) (k:Nat):(s.extract k s.size).size=s.size - k:=by rw [Lib.size_eq,tail_list,List.length_drop,←Lib.size_eq]
theorem behind_tok (s:ByteArray) (w:World) (h0:1≤s.size) (hs:s.size≤1000000000):
  Calls Tryz.prog 196 #[.string s] w fun e w'=>e=.returned (.int .i64 (behindT s.data.toList))∧Below w.heap.size w w':=by
 have hc:=fun W=>among_small [32,9] (by decide) (by decide) (s.extract 1 s.size) W (by rw [tail_size];omega);rw [tail_list]at hc;have hle:=among_le (s.data.toList.drop 1) [32,9];rw [List.length_drop,←Lib.size_eq]at hle;have HB:=Lib.hid (show behindT s.data.toList=1+amongL (s.data.toList.drop 1) [32,9]from rfl);obtain ⟨n,hn⟩:∃n,amongL (s.data.toList.drop 1) [32,9]=n:=⟨_,rfl⟩
 rw [hn]at hc hle;have HN:=Lib.hid hn;have HC:=Lib.hid hc;clear hc hn;go_enter Tryz.func196,Tryz.ntmps196
 go_wp2_with fail;refine (HC.out _).mono ?_;rintro e w2 ⟨rfl,b2⟩;go_wp2_with fail;go_ret;exact ⟨ret_int (by rw [HB.out,HN.out];omega),b2⟩
theorem escaped_tok (s:ByteArray) (w:World) (h0:1≤s.size) (hs:s.size≤1000000000):
  Calls Tryz.prog 191 #[.string s] w fun e w'=>e=.returned (.tuple #[tokVal (escapedL s.data.toList),.int .i64 (tokLen (escapedL s.data.toList))])∧Below w.heap.size w w':=by
 by_cases h1:1<s.size
 ·have hd:=drop_at s 1 h1;obtain ⟨c,hc⟩:∃c,s[1]=c:=⟨_,rfl⟩
  rw [hc]at hd;have ha:=fun W=>ascii_any c W;have h1':(1:Int)<(s.size:Int):=(by omega);have hE:escapedL s.data.toList=if asciiP c=true then some (.word [c],2)else if c=10 then some (.brk true,1+behindT (s.data.toList.drop 1))else none:=by
   unfold escapedL;rw [hd]
  have hx:(s.extract 1 2).data.toList=[c]:=by
   rw [Lib.extract_data,hd];rfl
  cases hp:asciiP c
  ·rw [hp]at ha hE;simp only [Bool.false_eq_true,if_false]at hE;by_cases h10:c=10
   ·subst h10;rw [if_pos rfl]at hE;have hb:=fun W=>behind_tok (s.extract 1 s.size) W (by rw [tail_size];omega) (by rw [tail_size];omega);rw [tail_list]at hb;have hbl:behindT (s.data.toList.drop 1)≤1000000000:=by
     unfold behindT;have:=among_le ((s.data.toList.drop 1).drop 1) [32,9];simp only [List.length_drop]at this;rw [←Lib.size_eq]at this;omega
    obtain ⟨n,hn⟩:∃n,behindT (s.data.toList.drop 1)=n:=⟨_,rfl⟩
    rw [hn]at hb hE hbl;have HA:=Lib.hid ha;have HB:=Lib.hid hb;have HE:=Lib.hid hE;clear ha hb hE hd hx hn hp;go_enter Tryz.func191,Tryz.ntmps191
    go_wp2_with fail;refine (HA.out _).mono ?_;rintro e w2 ⟨rfl,b2⟩;go_wp2_with fail;refine (HB.out _).mono ?_;rintro e w3 ⟨rfl,b3⟩;go_wp2_with fail
    go_ret2
    exact ⟨ret_tok HE.out rfl (by omega),below_step b2 b3⟩
   ·rw [if_neg h10]at hE;have h10':((c.toNat:Int)==10)=false:=by
     rw [beq_eq_false_iff_ne];intro e
     exact h10 (by have:c.toNat=10:=by omega
                   exact byte_eq this)
    have HA:=Lib.hid ha;have HE:=Lib.hid hE;clear ha hE hd hx h10 hp;go_enter Tryz.func191,Tryz.ntmps191
    go_wp2_with fail;refine (HA.out _).mono ?_;rintro e w2 ⟨rfl,b2⟩;go_wp2_with fail
    go_ret2
    exact ⟨ret_nil HE.out,b2⟩
  ·rw [hp]at ha hE;rw [if_pos rfl]at hE;have HA:=Lib.hid ha;have HE:=Lib.hid hE;have HX:=Lib.hid hx;clear ha hE hd hx hp;go_enter Tryz.func191,Tryz.ntmps191
   go_wp2_with fail;refine (HA.out _).mono ?_;rintro e w2 ⟨rfl,b2⟩;go_wp2_with fail
   go_ret2
   exact ⟨ret_word HE.out HX.out rfl,b2⟩
 ·have h1':¬(1:Int)<(s.size:Int):=(by omega);have HE:=Lib.hid (show escapedL s.data.toList=none by unfold escapedL;rw [drop_end s 1 (by omega)]);go_enter Tryz.func191,Tryz.ntmps191
  go_wp2_with fail
  go_ret2
  exact ⟨ret_nil HE.out,Below.refl _ _⟩
theorem pre_at (c:UInt8) (s:ByteArray) (w:World):
  Calls Tryz.prog 109 #[.string s,.string ⟨#[c]⟩] w fun e w'=>e=.returned (.bool (decide (s.data.toList.head? =some c)))∧w'=w:=by
 have:=Tryz.strings_HasPrefix s ⟨#[c]⟩ w;rw [show (ByteArray.mk #[c]).data.toList=[c]from rfl,pre_one]at this;exact this
theorem numOf_snoc (l:List UInt8) (c:UInt8):numOf (l++[c])=numOf l*10+(c.toNat - 48):=by
 unfold numOf;rw [List.foldl_append];rfl
theorem numOf_lt:∀(l:List UInt8) (v:Nat),(∀b∈l,b.toNat≤57)→l.foldl (fun v c=>v*10+(c.toNat - 48)) v<(v+1)*10 ^ l.length
 |[],v,_=>by simp
 |c::l,v,h=>by
  have hc:=h c (List.mem_cons_self ..);have ih:=numOf_lt l (v*10+(c.toNat - 48)) (fun b hb=>h b (List.mem_cons_of_mem _ hb));rw [List.foldl_cons,List.length_cons,Nat.pow_succ];refine Nat.lt_of_lt_of_le ih ?_;rw [Nat.mul_comm (10 ^ l.length) 10,←Nat.mul_assoc];exact Nat.mul_le_mul_right _ (by omega)
theorem among_cons (c:UInt8) (s set:List UInt8):amongL (c::s) set=if set.contains c=true then amongL s set+1 else 0:=by
 unfold amongL;rw [List.takeWhile_cons];split<;>simp
theorem take_among (set:List UInt8):∀(s:List UInt8),∀b∈s.take (amongL s set),set.contains b=true
 |[],b,hb=>by simp at hb
 |c::s,b,hb=>by
  rw [among_cons]at hb;split at hb
  ·rename_i h;rw [List.take_succ_cons]at hb;rcases List.mem_cons.1 hb with e|e
   ·rw [e];exact h
   ·exact take_among set s b e
  ·simp at hb
theorem digit_range:∀b:UInt8,digitsL.contains b=true→48≤b.toNat∧b.toNat≤57:=fun b=>allB (p:=fun b=>digitsL.contains b=true→48≤b.toNat∧b.toNat≤57) (by unfold AllB;decide+kernel) b
set_option maxHeartbeats 4000000 in
theorem atom_tok (s:ByteArray) (w:World) (h0:1≤s.size) (hs:s.size≤1000000000):
  Calls Tryz.prog 190 #[.string s] w fun e w'=>e=.returned (.tuple #[tokVal (atomL s.data.toList),.int .i64 (tokLen (atomL s.data.toList))])∧Below w.heap.size w w':=by
 have hc:=fun W=>among_small digitsL (by decide) (by decide) (s.extract 1 s.size) W (by rw [tail_size];omega);rw [tail_list]at hc;have hle:=among_le (s.data.toList.drop 1) digitsL;rw [List.length_drop,←Lib.size_eq]at hle
 have hA:atomL s.data.toList=if amongL (s.data.toList.drop 1) digitsL<1∨4<amongL (s.data.toList.drop 1) digitsL then none
   else if (s.data.toList.drop (1+amongL (s.data.toList.drop 1) digitsL)).head? =some 0 then some (.atom (numOf ((s.data.toList.drop 1).take (amongL (s.data.toList.drop 1) digitsL))),amongL (s.data.toList.drop 1) digitsL+2)else none:=rfl
 have hdig:=take_among digitsL (s.data.toList.drop 1);obtain ⟨n,hn⟩:∃n,amongL (s.data.toList.drop 1) digitsL=n:=⟨_,rfl⟩
 rw [hn]at hc hle hA hdig;have HC:=Lib.hid hc;clear hc hn;rw [show (ByteArray.mk digitsL.toArray)=ByteArray.mk #[48,49,50,51,52,53,54,55,56,57]from rfl]at HC;by_cases t1:n<1
 ·have t1':(n:Int)<1:=(by omega);rw [if_pos (Or.inl t1)]at hA;have HA:=Lib.hid hA;clear hA hdig;go_enter Tryz.func190,Tryz.ntmps190
  go_wp2_with fail;refine (HC.out _).mono ?_;rintro e w2 ⟨rfl,b2⟩;go_wp2_with fail
  go_ret2
  exact ⟨ret_nil HA.out,b2⟩
 ·have t1':¬(n:Int)<1:=(by omega);by_cases t2:4<n
  ·have t2':(4:Int)<(n:Int):=(by omega);rw [if_pos (Or.inr t2)]at hA;have HA:=Lib.hid hA;clear hA hdig;go_enter Tryz.func190,Tryz.ntmps190
   go_wp2_with fail;refine (HC.out _).mono ?_;rintro e w2 ⟨rfl,b2⟩;go_wp2_with fail
   go_ret2
   exact ⟨ret_nil HA.out,b2⟩
  ·have t2':¬(4:Int)<(n:Int):=(by omega);rw [if_neg (by omega)]at hA;have hp:=fun W=>pre_at 0 (s.extract (1+n) s.size) W;rw [tail_list]at hp;by_cases t3:(s.data.toList.drop (1+n)).head? =some 0
   ·rw [decide_eq_true t3]at hp;rw [if_pos t3]at hA;obtain ⟨D,hD⟩:∃D:ByteArray,s.extract 1 (1+n)=D:=⟨_,rfl⟩
    have hDl:D.data.toList=(s.data.toList.drop 1).take n:=(by rw [←hD,Lib.extract_data];congr 1;omega);have hDz:D.size=n:=(by rw [Lib.size_eq,hDl,List.length_take,List.length_drop,←Lib.size_eq];omega);rw [←hDl]at hA hdig;have HP:=Lib.hid hp;have HA:=Lib.hid hA;have HDIG:=Lib.hid hdig;clear hA hdig hp hDl t3;go_enter Tryz.func190,Tryz.ntmps190
    go_wp2_with fail;refine (HC.out _).mono ?_;rintro e w2 ⟨rfl,b2⟩;go_wp2_with fail;refine (HP.out _).mono ?_;rintro e w' ⟨rfl,hw'⟩;obtain rfl:=hw'.symm;go_wp2_with fail;go_loopw [5] (fun u5 wr=>∃pos:Nat,pos≤n∧u5=.int .i64 (numOf (D.data.toList.take pos))∧wr.heap[w2.heap.size]? =some (.stringIter D pos)∧Below w2.heap.size w2 wr) (fun _ wr=>D.size - wr.iterPos w2.heap.size)
    case atStart=>
     refine ⟨0,by omega,rfl,?_,(Below.refl _ w2).alloc (Nat.le_refl _) _⟩;have:=World.iter_heap w2 D 0;simpa using this
    case round=>
     obtain ⟨pos,hpn,rfl,hit,hbw⟩:=hrel;have hsz:w2.heap.size<wr.heap.size:=(Array.getElem?_eq_some_iff.1 hit).1;by_cases hp:pos<D.size
     ·obtain ⟨c,hc⟩:∃c,D[pos]=c:=⟨_,rfl⟩
      have hcd:48≤c.toNat∧c.toNat≤57:=by
       refine digit_range c (HDIG.out c ?_);rw [←hc];have:=Lib.data_getElem? D pos hp;exact List.mem_of_getElem? this
      have hnx:∀ty,(Instr.next (.pointer (some ⟨w2.heap.size,0,none⟩)) true ty).run Tryz.prog wr=_:=fun ty=>Lib.run_next_any_at wr w2.heap.size D pos ty hit hp;have hit2:=Lib.iterAt_heap wr w2.heap.size D pos (pos+(Utf8.decode D pos).2) hit;have hbw2:=Lib.below_iterAt hbw (k:=w2.heap.size) (by omega) D (pos+(Utf8.decode D pos).2);rw [Go.decode_ascii D pos hp (by rw [hc];omega),hc]at hnx;rw [Go.decode_ascii D pos hp (by rw [hc];omega)]at hit2 hbw2;simp only at hnx hit2 hbw2;have hnum:numOf (D.data.toList.take (pos+1))=numOf (D.data.toList.take pos)*10+(c.toNat - 48):=(by rw [take_succ D pos hp,numOf_snoc,hc]);have hnl:numOf (D.data.toList.take pos)<10000:=by
       have h1:=numOf_lt (D.data.toList.take pos) 0 (fun b hb=>(digit_range b (HDIG.out b (List.mem_of_mem_take hb))).2);have h2:(D.data.toList.take pos).length≤4:=(by have:=List.length_take_le pos D.data.toList;omega);have h3:10 ^ (D.data.toList.take pos).length≤10 ^ 4:=Nat.pow_le_pow_right (by omega) h2;unfold numOf;omega
      obtain ⟨v,hv⟩:∃v,numOf (D.data.toList.take pos)=v:=⟨_,rfl⟩
      rw [hv]at hnum hnl⊢;have HNUM:=Lib.hid hnum;have hw1:IntKind.i32.wrap ((c.toNat:Int) - 48)=(c.toNat:Int) - 48:=IntWalk.i32_in _ (by omega);clear hnum hv hc hbw;go_wp2_with fail;go_roundw;case rel=>exact ⟨pos+1,by omega,by rw [HNUM.out];exact congrArg (Value.int .i64) (by omega),hit2,hbw2⟩
      case measure=>simp only [World.iterPos,hit2,hit];omega
     ·have hnx:∀ty,(Instr.next (.pointer (some ⟨w2.heap.size,0,none⟩)) true ty).run Tryz.prog wr=_:=fun ty=>Lib.run_next_end_at wr w2.heap.size D pos ty hit hp;obtain rfl:pos=D.size:=(by omega);rw [take_all];go_wp2_with fail
      go_ret2
      exact ⟨ret_tok HA.out rfl (by omega),below_step b2 hbw⟩
   ·rw [decide_eq_false t3]at hp;rw [if_neg t3]at hA;have HP:=Lib.hid hp;have HA:=Lib.hid hA;clear hA hdig hp t3;go_enter Tryz.func190,Tryz.ntmps190
    go_wp2_with fail;refine (HC.out _).mono ?_;rintro e w2 ⟨rfl,b2⟩;go_wp2_with fail;refine (HP.out _).mono ?_;rintro e _ ⟨rfl,rfl⟩;go_wp2_with fail
    go_ret2
    exact ⟨ret_nil HA.out,b2⟩
theorem replace_lf:∀(n:Nat) (l:List UInt8),l.length≤n→Lib.replaceK [10] [32] (Lib.count l [10]) l=lfBlank l
 |n,[],_=>by
  rw [Lib.count_miss (by rfl)];rfl
 |0,c::l,h=>by simp at h
 |n+1,c::l,h=>by
  by_cases hm:(10:UInt8)∈c::l
  ·obtain ⟨a,b,hab,ha⟩:=List.append_of_mem hm |> fun ⟨a,b,e⟩=>(show∃a b,c::l=a++10::b∧(10:UInt8)∉a from by
    have key:∀(x:List UInt8),(10:UInt8)∈x→∃a b,x=a++10::b∧(10:UInt8)∉a:=by
     intro x;induction x with
     |nil=>intro h;cases h
     |cons y x ih=>
      intro h;by_cases hy:y=10
      ·exact ⟨[],x,by rw [hy];rfl,by simp⟩
      ·obtain ⟨a,b,e,k⟩:=ih (by rcases List.mem_cons.1 h with h|h;exact absurd h.symm hy;exact h);exact ⟨y::a,b,by rw [e];rfl,by
        intro h;rcases List.mem_cons.1 h with h|h
        ·exact hy h.symm
        ·exact k h⟩
    exact key _ hm)
   have hi:Lib.index (c::l) [10]=(a.length:Nat):=(by rw [hab];exact index_hit 10 a b ha);have hd:(c::l).drop (a.length+([10]:List UInt8).length)=b:=by
    rw [hab,show a++(10:UInt8)::b=(a++[10])++b by simp,List.drop_left' (by simp)]
   rw [Lib.count_hit (by simp) hi,hd,Nat.add_comm 1,Lib.replaceK_hit _ _ _ _ _ hi,hd];have hbl:b.length≤n:=by
    have:=congrArg List.length hab;simp at this h;omega
   rw [replace_lf n b hbl,hab,List.take_left' rfl];have hna:lfBlank a=a:=by
    unfold lfBlank
    conv=>rhs;rw [←List.map_id a]
    refine List.map_congr_left (fun x hx=>?_);rw [if_neg (fun e=>ha (by rw [←e];exact hx))];rfl
   have:lfBlank (a++10::b)=lfBlank a++32::lfBlank b:=(by unfold lfBlank;simp);rw [this,hna];simp
  ·rw [Lib.count_miss (index_miss 10 _ hm)];show c::l=_;unfold lfBlank
   conv=>lhs;rw [←List.map_id (c::l)]
   refine List.map_congr_left (fun x hx=>?_);rw [if_neg (fun e=>hm (by rw [←e];exact hx))];rfl
theorem replaceAll_lf (l:List UInt8):Lib.replaceAll l [10] [32]=lfBlank l:=by
 unfold Lib.replaceAll Lib.replace;rw [if_neg (by decide)];unfold Lib.replaceNum;rw [if_pos (Or.inl (by omega))];exact replace_lf l.length l (Nat.le_refl _)
theorem lf_len (l:List UInt8):(lfBlank l).length=l.length:=by simp [lfBlank]
theorem lf_any (s:ByteArray) (w:World) (hE:Env w) (hs:s.size≤1000000000):
  Calls Tryz.prog 215 #[.string s,.string ⟨#[10]⟩,.string ⟨#[32]⟩] w fun e w'=>e=.returned (.string ⟨(lfBlank s.data.toList).toArray⟩)∧Below w.heap.size w w':=by
 obtain ⟨m,hm⟩:=hE.maxl;have hcb:=Lib.countB_le ⟨#[10]⟩ (by decide) s.size s (Nat.le_refl _);have:=Tryz.strings_ReplaceAll s ⟨#[10]⟩ ⟨#[32]⟩ m w (by omega) hm (by decide) (by
  rw [show (ByteArray.mk #[32]).size=1 from rfl];omega)
 rw [show (ByteArray.mk #[10]).data.toList=[10]from rfl,show (ByteArray.mk #[32]).data.toList=[32]from rfl,replaceAll_lf]at this;exact this
theorem indexByte_lt (c:UInt8):∀(l:List UInt8),0≤Lib.indexByte l c→(Lib.indexByte l c).toNat<l.length∧l[(Lib.indexByte l c).toNat]? =some c
 |[],h=>by
  have:Lib.indexByte [] c= -1:=rfl;rw [this]at h;omega
 |b::l,h=>by
  have ih:=indexByte_lt c l;unfold Lib.indexByte at h⊢;split
  ·rename_i hb;have:b=c:=(by simpa using hb);exact ⟨by simp,by simp [this]⟩
  ·rename_i hb;rw [if_neg hb]at h;split
   ·rename_i hm;rw [if_pos hm]at h;omega
   ·rename_i hm;have hge:=Lib.indexByte_ge l c;have hne:Lib.indexByte l c≠ -1:=(by simpa using hm);obtain ⟨k1,k2⟩:=ih (by omega);have e:(Lib.indexByte l c+1).toNat=(Lib.indexByte l c).toNat+1:=(by omega);rw [e];exact ⟨by simp;omega,by simpa using k2⟩
theorem head_lt {l:List UInt8} {k:Nat} {c:UInt8} (h:(l.drop k).head? =some c):k<l.length:=by
 rcases Nat.lt_or_ge k l.length with h'|h'
 ·exact h'
 ·rw [List.drop_eq_nil_of_le h']at h;cases h
theorem codeGo_le (s:List UInt8) (n:Nat) (hn:n≤s.length):∀(f i:Nat),i≤s.length→(codeGo f s n i).2≤s.length∧(n≤i→n≤(codeGo f s n i).2)
 |0,i,_=>⟨hn,fun _=>Nat.le_refl _⟩
 |f+1,i,hi=>by
  rw [codeGo];split
  ·exact ⟨hn,fun _=>Nat.le_refl _⟩
  ·rename_i hk;have hlt:=indexByte_lt 96 (s.drop i) (by omega);rw [List.length_drop]at hlt;have hm:=among_le (s.drop (i+(Lib.indexByte (s.drop i) 96).toNat)) [96];rw [List.length_drop]at hm;split
   ·rename_i e;rw [e]at hm;exact ⟨by simp only;omega,fun h=>by simp only;omega⟩
   ·have ih:=codeGo_le s n hn f (i+(Lib.indexByte (s.drop i) 96).toNat+amongL (s.drop (i+(Lib.indexByte (s.drop i) 96).toNat)) [96]) (by omega);exact ⟨ih.1,fun h=>ih.2 (by omega)⟩
theorem code_le (c:UInt8) (r:List UInt8) (h:c=96):(codeL (c::r)).2≤(c::r).length∧0<(codeL (c::r)).2:=by
 have hn:=among_le (c::r) [96];have hk:=codeGo_le (c::r) _ hn ((c::r).length+1) _ hn;have h1:1≤amongL (c::r) [96]:=(by rw [h,among_cons];simp);exact ⟨hk.1,Nat.lt_of_lt_of_le h1 (hk.2 (Nat.le_refl _))⟩
theorem autoEnd_lt:∀(l:List UInt8) (i j:Nat),autoEnd l i=some j→i≤j∧j<i+l.length
 |[],i,j,h=>by cases h
 |c::l,i,j,h=>by
  rw [autoEnd]at h;split at h
  ·injection h with h;subst h;simp
  ·split at h
   ·cases h
   ·have:=autoEnd_lt l (i+1) j h;simp;omega
theorem tagEnd_lt:∀(l:List UInt8) (i j:Nat),tagEnd l i=some j→i≤j∧j<i+l.length
 |[],i,j,h=>by cases h
 |c::l,i,j,h=>by
  rw [tagEnd]at h;split at h
  ·injection h with h;subst h;simp
  ·split at h
   ·cases h
   ·have:=tagEnd_lt l (i+1) j h;simp;omega
theorem auto_le {s:List UInt8} {t:Tok} {n:Nat} (h:autoL s=some (t,n)):0<n∧n≤s.length:=by
 unfold autoL at h;split at h
 ·cases h
 ·split at h
  ·cases h
  ·split at h
   ·rename_i h3;have h3':=head_lt h3;split at h
    ·rename_i i hi;have:=autoEnd_lt _ _ _ hi;rw [List.length_drop]at this;injection h with h;injection h with h1 h2;omega
    ·cases h
   ·cases h
theorem mail_le {s:List UInt8} {t:Tok} {n:Nat} (h:mailL s=some (t,n)):0<n∧n≤s.length:=by
 unfold mailL at h;split at h
 ·cases h
 ·split at h
  ·split at h
   ·cases h
   ·split at h
    ·rename_i h4;have h4':=head_lt h4;injection h with h;injection h with h1 h2;omega
    ·cases h
  ·cases h
theorem tagAt_le {s:List UInt8} {a:Nat} {t:Tok} {n:Nat} (h:tagAt s a=some (t,n)):0<n∧n≤s.length:=by
 unfold tagAt at h;split at h
 ·cases h
 ·split at h
  ·cases h
  ·rename_i c r hcr;split at h
   ·cases h
   ·split at h
    ·rename_i i hi;have:=tagEnd_lt _ _ _ hi;have hl:=congrArg List.length hcr;rw [List.length_drop]at hl;simp at hl this;injection h with h;injection h with h1 h2;omega
    ·cases h
theorem atom_le {s:List UInt8} {t:Tok} {n:Nat} (h:atomL s=some (t,n)):0<n∧n≤s.length:=by
 unfold atomL at h;split at h
 ·cases h
 ·split at h
  ·rename_i h3;have h3':=head_lt h3;injection h with h;injection h with h1 h2;omega
  ·cases h
theorem behindT_le (s:List UInt8) (h:1≤s.length):1≤behindT s∧behindT s≤s.length:=by
 unfold behindT;have:=among_le (s.drop 1) [32,9];rw [List.length_drop]at this;omega
theorem escaped_le {s:List UInt8} {t:Tok} {n:Nat} (h:escapedL s=some (t,n)):0<n∧n≤s.length:=by
 unfold escapedL at h;split at h
 ·cases h
 ·rename_i c r hcr;have hl:=congrArg List.length hcr;rw [List.length_drop]at hl;simp at hl;split at h
  ·injection h with h;injection h with h1 h2;omega
  ·split at h
   ·have:=behindT_le (s.drop 1) (by rw [List.length_drop];omega);rw [List.length_drop]at this;injection h with h;injection h with h1 h2;omega
   ·cases h
theorem begins_le {s:List UInt8} {t:Tok} {n:Nat} (h:beginsL s=some (t,n)):0<n∧n≤s.length+11:=by
 cases s with
 |nil=>cases h
 |cons c r=>
  rw [beginsL]at h;have pk:∀{x:Tok×Nat},some x=some (t,n)→n=x.2:=fun e=>by injection e with e;rw [e]
  split at h
  ·have:=atom_le h;omega
  ·split at h
   ·have:=escaped_le h;omega
   ·split at h
    ·split at h
     ·rename_i h0;have:=(entAt_size (c::r)).2;have:=pk h;simp only at this;omega
     ·cases h
    ·split at h
     ·rename_i hc;have:=code_le c r hc;have:=pk h;omega
     ·split at h
      ·unfold angleL at h;split at h
       ·rename_i x hx;have:=pk h;have:=auto_le (t:=x.1) (n:=x.2) hx;omega
       ·split at h
        ·rename_i x hx;have:=pk h;have:=mail_le (t:=x.1) (n:=x.2) hx;omega
        ·unfold tagL at h;have:=tagAt_le h;omega
      ·split at h
       ·have:=pk h;have:=among_le (c::r) [c];have h1:1≤amongL (c::r) [c]:=(by rw [among_cons];simp);simp only at*;omega
       ·split at h
        ·split at h
         ·have:=pk h;simp only at this;simp;omega
         ·cases h
        ·split at h
         ·have:=pk h;simp only at this;simp;omega
         ·split at h
          ·rename_i hc;split at h
           ·rename_i h3;have h3':=head_lt h3;have hb:=behindT_le ((c::r).drop (amongL (c::r) [32])) (by rw [List.length_drop];omega);rw [List.length_drop]at hb;have:=pk h;simp only at this;omega
           ·rename_i h3;have:=among_le (c::r) [32];have h1:1≤amongL (c::r) [32]:=by
             rcases hc with rfl|rfl
             ·rw [among_cons];simp
             ·exfalso;apply h3;rw [show amongL (10::r) [32]=0 by rw [among_cons];rfl];rfl
            have:=pk h;simp only at this;omega
          ·cases h
theorem indexAny_lt (chars:List UInt8):∀(l:List UInt8),0≤Lib.indexAny l chars→(Lib.indexAny l chars).toNat<l.length
 |[],h=>by
  have:Lib.indexAny [] chars= -1:=rfl;rw [this]at h;omega
 |b::l,h=>by
  have ih:=indexAny_lt chars l;unfold Lib.indexAny at h⊢;split
  ·simp
  ·rename_i hb;rw [if_neg hb]at h;split
   ·rename_i hm;rw [if_pos hm]at h;omega
   ·rename_i hm;have hge:=Lib.indexAny_ge chars l;have hne:Lib.indexAny l chars≠ -1:=(by simpa using hm);have:=ih (by omega);simp;omega
theorem next_le (s:List UInt8) (h:s≠[]):0<(nextL s).2∧(nextL s).2≤s.length+11:=by
 have hl:=List.length_pos_iff.2 h;unfold nextL;cases hb:beginsL s with
 |some r=>exact begins_le (t:=r.1) (n:=r.2) hb
 |none=>
  simp only;unfold plainTo;split
  ·rename_i h0;have:=indexAny_lt specialL (s.drop 1) h0;rw [List.length_drop]at this;omega
  ·omega
def autoSet:List UInt8:=lettersL++digitsL++[43,46,45]
def mailSet:List UInt8:=lettersL++digitsL++[46,45,95,43]
def hostSet:List UInt8:=lettersL++digitsL++[45,46]
def nameSet:List UInt8:=lettersL++digitsL++[45]
theorem among_letters (s:ByteArray) (k:Nat) (w:World) (hs:s.size≤1000000000):
  Calls Tryz.prog 195 #[.string (s.extract k s.size),.string ⟨#[97,98,99,100,101,102,103,104,105,106,107,108,109,110,111,112,113,114,115,116,117,118,119,120,121,122,65,66,67,68,69,70,71,72,73,74,75,76,77,78,79,80,81,82,83,84,85,86,87,88,89,90]⟩] w fun e w'=>e=.returned (.int .i64 (amongL (s.data.toList.drop k) lettersL))∧Below w.heap.size w w':=by
 have:=among_small lettersL (by decide) (by decide) (s.extract k s.size) w (by rw [tail_size];omega);rw [tail_list]at this;exact this
theorem among_auto (s:ByteArray) (k:Nat) (w:World) (hs:s.size≤1000000000):
  Calls Tryz.prog 195 #[.string (s.extract k s.size),.string ⟨([97,98,99,100,101,102,103,104,105,106,107,108,109,110,111,112,113,114,115,116,117,118,119,120,121,122,65,66,67,68,69,70].append [71,72,73,74,75,76,77,78,79,80,81,82,83,84,85,86,87,88,89,90,48,49,50,51,52,53,54,55,56,57,43,46,45]).toArray⟩] w fun e w'=>e=.returned (.int .i64 (amongL (s.data.toList.drop k) autoSet))∧Below w.heap.size w w':=by
 have:=among_small autoSet (by decide) (by decide) (s.extract k s.size) w (by rw [tail_size];omega);rw [tail_list]at this;exact this
theorem among_mail (s:ByteArray) (k:Nat) (w:World) (hs:s.size≤1000000000):
  Calls Tryz.prog 195 #[.string (s.extract k s.size),.string ⟨([97,98,99,100,101,102,103,104,105,106,107,108,109,110,111,112,113,114,115,116,117,118,119,120,121,122,65,66,67,68,69,70].append [71,72,73,74,75,76,77,78,79,80,81,82,83,84,85,86,87,88,89,90,48,49,50,51,52,53,54,55,56,57,46,45,95,43]).toArray⟩] w fun e w'=>e=.returned (.int .i64 (amongL (s.data.toList.drop k) mailSet))∧Below w.heap.size w w':=by
 have:=among_small mailSet (by decide) (by decide) (s.extract k s.size) w (by rw [tail_size];omega);rw [tail_list]at this;exact this
theorem among_host (s:ByteArray) (k:Nat) (w:World) (hs:s.size≤1000000000):
  Calls Tryz.prog 195 #[.string (s.extract k s.size),.string ⟨([97,98,99,100,101,102,103,104,105,106,107,108,109,110,111,112,113,114,115,116,117,118,119,120,121,122,65,66,67,68,69,70].append [71,72,73,74,75,76,77,78,79,80,81,82,83,84,85,86,87,88,89,90,48,49,50,51,52,53,54,55,56,57,45,46]).toArray⟩] w fun e w'=>e=.returned (.int .i64 (amongL (s.data.toList.drop k) hostSet))∧Below w.heap.size w w':=by
 have:=among_small hostSet (by decide) (by decide) (s.extract k s.size) w (by rw [tail_size];omega);rw [tail_list]at this;exact this
theorem among_name (s:ByteArray) (k:Nat) (w:World) (hs:s.size≤1000000000):
  Calls Tryz.prog 195 #[.string (s.extract k s.size),.string ⟨([97,98,99,100,101,102,103,104,105,106,107,108,109,110,111,112,113,114,115,116,117,118,119,120,121,122,65,66,67,68,69,70].append [71,72,73,74,75,76,77,78,79,80,81,82,83,84,85,86,87,88,89,90,48,49,50,51,52,53,54,55,56,57,45]).toArray⟩] w fun e w'=>e=.returned (.int .i64 (amongL (s.data.toList.drop k) nameSet))∧Below w.heap.size w w':=by
 have:=among_small nameSet (by decide) (by decide) (s.extract k s.size) w (by rw [tail_size];omega);rw [tail_list]at this;exact this
theorem auto_eq (s:List UInt8) (t:Nat) (h0:amongL (s.drop 1) lettersL≠0) (ht:amongL (s.drop 2) autoSet=t) (h1:1≤t) (h2:t≤31) (h3:(s.drop (2+t)).head? =some 58):
  autoL s=(match autoEnd (s.drop (2+t)) (2+t)with
   |some i=>some (.auto ((s.take i).drop 1) ((s.take i).drop 1),i+1)
   |none=>none):=by
 have ht':amongL (s.drop 2) (lettersL++digitsL++[43,46,45])=t:=ht;unfold autoL;rw [if_neg h0,ht',if_neg (by omega),if_pos h3];rfl
theorem auto_no (s:List UInt8) (t:Nat) (ht:amongL (s.drop 2) autoSet=t) (h:amongL (s.drop 1) lettersL=0∨t<1∨31<t∨(s.drop (2+t)).head? ≠some 58):autoL s=none:=by
 have ht':amongL (s.drop 2) (lettersL++digitsL++[43,46,45])=t:=ht;unfold autoL;rw [ht'];split
 ·rfl
 ·split
  ·rfl
  ·split
   ·rename_i a b c;exfalso;rcases h with h|h|h|h
    ·exact a h
    ·exact b (Or.inl h)
    ·exact b (Or.inr h)
    ·exact h c
   ·rfl
set_option maxHeartbeats 8000000 in
theorem auto_tok (s:ByteArray) (w:World) (h0:1≤s.size) (hs:s.size≤1000000000):
  Calls Tryz.prog 217 #[.string s] w fun e w'=>e=.returned (.tuple #[tokVal (autoL s.data.toList),.int .i64 (tokLen (autoL s.data.toList))])∧Below w.heap.size w w':=by
 have hc1:=fun W=>among_letters s 1 W hs;have hc2:=fun W=>among_auto s 2 W hs;have hno:=auto_no s.data.toList;have hyes:=auto_eq s.data.toList;have hl1:=among_le (s.data.toList.drop 1) lettersL;rw [List.length_drop,←Lib.size_eq]at hl1;have hl2:=among_le (s.data.toList.drop 2) autoSet;rw [List.length_drop,←Lib.size_eq]at hl2;obtain ⟨n,hn⟩:∃n,amongL (s.data.toList.drop 1) lettersL=n:=⟨_,rfl⟩
 obtain ⟨t,ht⟩:∃t,amongL (s.data.toList.drop 2) autoSet=t:=⟨_,rfl⟩
 have hno:=hno t ht;have hyes:=hyes t;rw [hn]at hc1 hno hl1 hyes;rw [ht]at hc2 hl2 hyes;have HC1:=Lib.hid hc1;have HC2:=Lib.hid hc2;clear hc1 hc2 hn ht;by_cases t0:n=0
 ·have HN:=Lib.hid (hno (Or.inl t0));have t0':((n:Int)==0)=true:=(by rw [beq_iff_eq];omega);clear hno hyes;go_enter Tryz.func217,Tryz.ntmps217
  go_wp2_with fail;refine (HC1.out _).mono ?_;rintro e w2 ⟨rfl,b2⟩;go_wp2_with fail
  go_ret2
  exact ⟨ret_nil HN.out,b2⟩
 ·have t0':((n:Int)==0)=false:=(by rw [beq_eq_false_iff_ne];omega);by_cases t1:t<1
  ·have HN:=Lib.hid (hno (Or.inr (Or.inl t1)));have t1':(t:Int)<1:=(by omega);clear hno hyes;go_enter Tryz.func217,Tryz.ntmps217
   go_wp2_with fail;refine (HC1.out _).mono ?_;rintro e w2 ⟨rfl,b2⟩;go_wp2_with fail;refine (HC2.out _).mono ?_;rintro e w3 ⟨rfl,b3⟩;have B3:=below_step b2 b3;go_wp2_with fail
   go_ret2
   exact ⟨ret_nil HN.out,B3⟩
  ·have t1':¬(t:Int)<1:=(by omega);by_cases t2:31<t
   ·have HN:=Lib.hid (hno (Or.inr (Or.inr (Or.inl t2))));have t2':(31:Int)<(t:Int):=(by omega);clear hno hyes;go_enter Tryz.func217,Tryz.ntmps217
    go_wp2_with fail;refine (HC1.out _).mono ?_;rintro e w2 ⟨rfl,b2⟩;go_wp2_with fail;refine (HC2.out _).mono ?_;rintro e w3 ⟨rfl,b3⟩;have B3:=below_step b2 b3;go_wp2_with fail
    go_ret2
    exact ⟨ret_nil HN.out,B3⟩
   ·have t2':¬(31:Int)<(t:Int):=(by omega);have hp:=fun W=>pre_at 58 (s.extract (2+t) s.size) W;rw [tail_list]at hp;by_cases t3:(s.data.toList.drop (2+t)).head? =some 58
    ·have hyes:=hyes t0 rfl (by omega) (by omega) t3;have hlt:=head_lt t3;rw [←Lib.size_eq]at hlt;rw [decide_eq_true t3]at hp;have HP:=Lib.hid hp;obtain ⟨R,hR⟩:∃R,autoEnd (s.data.toList.drop (2+t)) (2+t)=R:=⟨_,rfl⟩
     rw [hR]at hyes;have HY:=Lib.hid hyes;have HR:=Lib.hid hR;clear hp hno hyes hR t3;go_enter Tryz.func217,Tryz.ntmps217
     go_wp2_with fail;refine (HC1.out _).mono ?_;rintro e w2 ⟨rfl,b2⟩;go_wp2_with fail;refine (HC2.out _).mono ?_;rintro e w3 ⟨rfl,b3⟩;have B3:=below_step b2 b3;go_wp2_with fail;refine (HP.out _).mono ?_;rintro e w' ⟨rfl,hw'⟩;obtain rfl:=hw'.symm;go_wp2_with fail;go_loop [7] (fun u7=>∃i:Nat,u7=.int .i64 i∧2≤i∧i≤s.size∧autoEnd (s.data.toList.drop i) i=R) (fun u7=>s.size - (intOf u7).toNat)
     case atStart=>exact ⟨2+t,by go_num,by omega,by omega,HR.out⟩
     case round=>
      obtain ⟨i,rfl,hi2,hi,hri⟩:=hrel;clear HR;by_cases hit:i<s.size
      ·rw [drop_at s i hit,autoEnd]at hri;obtain ⟨c,hc⟩:∃c,s[i]=c:=⟨_,rfl⟩
       rw [hc]at hri;by_cases k1:c=62
       ·subst k1;rw [if_pos rfl]at hri;have HRI:=Lib.hid hri;clear hri;have hi1':(1:Int)≤(i:Int):=(by omega);have hi2':(i:Int)≤(s.size:Int):=(by omega);go_wp2_with fail;go_quiet (fail)
        go_wp2_with fail
        go_ret2
        have e1:(s.extract 1 i).data.toList=(s.data.toList.take i).drop 1:=(by rw [Lib.extract_data,List.drop_take]);exact ⟨ret_auto (u:=(s.data.toList.take i).drop 1) (t:=(s.data.toList.take i).drop 1) (m:=i+1) (by rw [HY.out,←HRI.out]) e1 e1 (by omega),B3.trans ((below_drewN _ _).mono B3.size)⟩
       ·have k1':((c.toNat:Int)==62)=false:=by
         rw [beq_eq_false_iff_ne];intro e;exact k1 (byte_eq (n:=62) (by omega))
        rw [if_neg k1]at hri;by_cases k2:c≤32∨c=60∨c=127
        ·rw [if_pos k2]at hri;have HRI:=Lib.hid (show autoL s.data.toList=none by rw [HY.out,←hri]);clear hri;have k2':(c.toNat:Int)≤32∨(¬(c.toNat:Int)≤32∧c=60)∨(¬(c.toNat:Int)≤32∧c=127):=by
          rcases k2 with h|h|h
          ·exact Or.inl (by rw [UInt8.le_iff_toNat_le]at h;have:(32:UInt8).toNat=32:=rfl;omega)
          ·exact Or.inr (Or.inl ⟨by rw [h];decide,h⟩)
          ·exact Or.inr (Or.inr ⟨by rw [h];decide,h⟩)
         rcases k2' with h|⟨h,rfl⟩|⟨h,rfl⟩
         all_goals
          go_wp2_with fail
          go_ret2
          exact ⟨ret_nil HRI.out,B3⟩
        ·rw [if_neg k2]at hri;have HRI:=Lib.hid hri;clear hri;have q1:¬(c.toNat:Int)≤32:=by
          intro h;apply k2;left;rw [UInt8.le_iff_toNat_le];have:(32:UInt8).toNat=32:=rfl;omega
         have q2:((c.toNat:Int)==60)=false:=by
          rw [beq_eq_false_iff_ne];intro e;exact k2 (Or.inr (Or.inl (byte_eq (n:=60) (by omega))))
         have q3:((c.toNat:Int)==127)=false:=by
          rw [beq_eq_false_iff_ne];intro e;exact k2 (Or.inr (Or.inr (byte_eq (n:=127) (by omega))))
         go_wp2_with fail;go_round;case rel=>exact ⟨i+1,by go_num,by omega,by omega,HRI.out⟩
         case measure=>simp [intOf];omega
      ·rw [drop_end s i (by omega),autoEnd]at hri;have HRI:=Lib.hid (show autoL s.data.toList=none by rw [HY.out,←hri]);clear hri;go_wp2_with fail
       go_ret2
       exact ⟨ret_nil HRI.out,B3⟩
    ·have HN:=Lib.hid (hno (Or.inr (Or.inr (Or.inr t3))));rw [decide_eq_false t3]at hp;have HP:=Lib.hid hp;clear hp hno hyes t3;go_enter Tryz.func217,Tryz.ntmps217
     go_wp2_with fail;refine (HC1.out _).mono ?_;rintro e w2 ⟨rfl,b2⟩;go_wp2_with fail;refine (HC2.out _).mono ?_;rintro e w3 ⟨rfl,b3⟩;have B3:=below_step b2 b3;go_wp2_with fail;refine (HP.out _).mono ?_;rintro e w' ⟨rfl,hw'⟩;obtain rfl:=hw'.symm;go_wp2_with fail
     go_ret2
     exact ⟨ret_nil HN.out,B3⟩
theorem mail_no (s:List UInt8) (n m:Nat) (hn:amongL (s.drop 1) mailSet=n) (hm:amongL (s.drop (2+n)) hostSet=m)
  (h:n=0∨(s.drop (1+n)).head? ≠some 64∨m=0∨(s.drop (2+n+m)).head? ≠some 62):mailL s=none:=by
 have hn':amongL (s.drop 1) (lettersL++digitsL++[46,45,95,43])=n:=hn;have hm':amongL (s.drop (2+n)) (lettersL++digitsL++[45,46])=m:=hm;unfold mailL;rw [hn',hm'];split
 ·rfl
 ·split
  ·split
   ·rfl
   ·split
    ·rename_i a b c d;exfalso;rcases h with h|h|h|h
     ·exact a h
     ·exact h b
     ·exact c h
     ·exact h d
    ·rfl
  ·rfl
theorem mail_yes (s:List UInt8) (n m:Nat) (hn:amongL (s.drop 1) mailSet=n) (hm:amongL (s.drop (2+n)) hostSet=m) (h1:n≠0) (h2:(s.drop (1+n)).head? =some 64) (h3:m≠0) (h4:(s.drop (2+n+m)).head? =some 62):
  mailL s=some (.auto (mailto++(s.take (2+n+m)).drop 1) ((s.take (2+n+m)).drop 1),2+n+m+1):=by
 have hn':amongL (s.drop 1) (lettersL++digitsL++[46,45,95,43])=n:=hn;have hm':amongL (s.drop (2+n)) (lettersL++digitsL++[45,46])=m:=hm;unfold mailL;rw [hn',hm',if_neg h1,if_pos h2,if_neg h3,if_pos h4]
set_option maxHeartbeats 8000000 in
theorem mail_tok (s:ByteArray) (w:World) (h0:1≤s.size) (hs:s.size≤1000000000):
  Calls Tryz.prog 218 #[.string s] w fun e w'=>e=.returned (.tuple #[tokVal (mailL s.data.toList),.int .i64 (tokLen (mailL s.data.toList))])∧Below w.heap.size w w':=by
 have hc1:=fun W=>among_mail s 1 W hs;have hl1:=among_le (s.data.toList.drop 1) mailSet;rw [List.length_drop,←Lib.size_eq]at hl1;obtain ⟨n,hn⟩:∃n,amongL (s.data.toList.drop 1) mailSet=n:=⟨_,rfl⟩
 have hc2:=fun W=>among_host s (2+n) W hs;have hl2:=among_le (s.data.toList.drop (2+n)) hostSet;rw [List.length_drop,←Lib.size_eq]at hl2;obtain ⟨m,hm⟩:∃m,amongL (s.data.toList.drop (2+n)) hostSet=m:=⟨_,rfl⟩
 have hno:=mail_no s.data.toList n m hn hm;have hyes:=mail_yes s.data.toList n m hn hm;rw [hn]at hc1 hl1;rw [hm]at hc2 hl2;have HC1:=Lib.hid hc1;have HC2:=Lib.hid hc2;clear hc1 hc2 hn hm;by_cases t0:n=0
 ·have HN:=Lib.hid (hno (Or.inl t0));have t0':((n:Int)==0)=true:=(by rw [beq_iff_eq];omega);clear hno hyes;go_enter Tryz.func218,Tryz.ntmps218
  go_wp2_with fail;refine (HC1.out _).mono ?_;rintro e w2 ⟨rfl,b2⟩;go_wp2_with fail
  go_ret2
  exact ⟨ret_nil HN.out,b2⟩
 ·have t0':((n:Int)==0)=false:=(by rw [beq_eq_false_iff_ne];omega);have hp:=fun W=>pre_at 64 (s.extract (1+n) s.size) W;rw [tail_list]at hp;by_cases t1:(s.data.toList.drop (1+n)).head? =some 64
  ·have hlt1:=head_lt t1;rw [←Lib.size_eq]at hlt1;rw [decide_eq_true t1]at hp;have HP:=Lib.hid hp;clear hp;by_cases t2:m=0
   ·have HN:=Lib.hid (hno (Or.inr (Or.inr (Or.inl t2))));have t2':((m:Int)==0)=true:=(by rw [beq_iff_eq];omega);clear hno hyes t1;go_enter Tryz.func218,Tryz.ntmps218
    go_wp2_with fail;refine (HC1.out _).mono ?_;rintro e w2 ⟨rfl,b2⟩;go_wp2_with fail;refine (HP.out _).mono ?_;rintro e w' ⟨rfl,hw'⟩;obtain rfl:=hw'.symm;go_wp2_with fail;refine (HC2.out _).mono ?_;rintro e w3 ⟨rfl,b3⟩;have B3:=below_step b2 b3;go_wp2_with fail
    go_ret2
    exact ⟨ret_nil HN.out,B3⟩
   ·have t2':((m:Int)==0)=false:=(by rw [beq_eq_false_iff_ne];omega);have hq:=fun W=>pre_at 62 (s.extract (2+n+m) s.size) W;rw [tail_list]at hq;by_cases t3:(s.data.toList.drop (2+n+m)).head? =some 62
    ·have hlt2:=head_lt t3;rw [←Lib.size_eq]at hlt2;rw [decide_eq_true t3]at hq;have HQ:=Lib.hid hq;have HY:=Lib.hid (hyes t0 t1 t2 t3);have e1:(s.extract 1 (2+n+m)).data.toList=(s.data.toList.take (2+n+m)).drop 1:=(by rw [Lib.extract_data,List.drop_take]);have HE1:=Lib.hid e1;have hez:(s.extract 1 (2+n+m)).size≤1000000000:=(by rw [Lib.size_eq,e1,List.length_drop,List.length_take,←Lib.size_eq];omega);obtain ⟨X,hX⟩:∃X,s.extract 1 (2+n+m)=X:=⟨_,rfl⟩
     rw [hX]at hez HE1;clear hno hyes t1 t3 hq e1;go_enter Tryz.func218,Tryz.ntmps218
     go_wp2_with fail;refine (HC1.out _).mono ?_;rintro e w2 ⟨rfl,b2⟩;go_wp2_with fail;refine (HP.out _).mono ?_;rintro e w' ⟨rfl,hw'⟩;obtain rfl:=hw'.symm;go_wp2_with fail;refine (HC2.out _).mono ?_;rintro e w3 ⟨rfl,b3⟩;have B3:=below_step b2 b3;go_wp2_with fail;refine (HQ.out _).mono ?_;rintro e w' ⟨rfl,hw'⟩;obtain rfl:=hw'.symm;go_wp2_with fail;go_quiet (fail)
     go_wp2_with fail
     go_ret2
     exact ⟨ret_auto HY.out (by rw [app_list,HE1.out];rfl) HE1.out (by omega),B3.trans ((below_drewN _ _).mono B3.size)⟩
    ·rw [decide_eq_false t3]at hq;have HQ:=Lib.hid hq;have HN:=Lib.hid (hno (Or.inr (Or.inr (Or.inr t3))));clear hno hyes t1 t3 hq;go_enter Tryz.func218,Tryz.ntmps218
     go_wp2_with fail;refine (HC1.out _).mono ?_;rintro e w2 ⟨rfl,b2⟩;go_wp2_with fail;refine (HP.out _).mono ?_;rintro e w' ⟨rfl,hw'⟩;obtain rfl:=hw'.symm;go_wp2_with fail;refine (HC2.out _).mono ?_;rintro e w3 ⟨rfl,b3⟩;have B3:=below_step b2 b3;go_wp2_with fail;refine (HQ.out _).mono ?_;rintro e w' ⟨rfl,hw'⟩;obtain rfl:=hw'.symm;go_wp2_with fail
     go_ret2
     exact ⟨ret_nil HN.out,B3⟩
  ·have HN:=Lib.hid (hno (Or.inr (Or.inl t1)));rw [decide_eq_false t1]at hp;have HP:=Lib.hid hp;clear hp hno hyes t1;go_enter Tryz.func218,Tryz.ntmps218
   go_wp2_with fail;refine (HC1.out _).mono ?_;rintro e w2 ⟨rfl,b2⟩;go_wp2_with fail;refine (HP.out _).mono ?_;rintro e w' ⟨rfl,hw'⟩;obtain rfl:=hw'.symm;go_wp2_with fail
   go_ret2
   exact ⟨ret_nil HN.out,b2⟩
theorem tag_signs (c:UInt8) (w:World):
  Calls Tryz.prog 101 #[.string ⟨#[32,10,47]⟩,.int .i32 (c.toNat:Int)] w fun e w'=>e=.returned (.bool (decide (c=32∨c=10∨c=47)))∧Below w.heap.size w w':=by
 have:=containsRune_nat ⟨#[32,10,47]⟩ c.toNat w (by unfold AllAscii;decide) (by decide) (by have:=c.toNat_lt;omega);rw [show (ByteArray.mk #[32,10,47]).data.toList=[32,10,47]from rfl]at this;have e:([32,10,47]:List UInt8).any (fun b=>b.toNat==c.toNat)=decide (c=32∨c=10∨c=47):=allB (p:=fun c=>([32,10,47]:List UInt8).any (fun b=>b.toNat==c.toNat)=decide (c=32∨c=10∨c=47)) (by unfold AllB;decide+kernel) c;rw [e]at this;exact this
theorem tag_no (s:List UInt8) (a k:Nat) (hk:amongL (s.drop a) nameSet=k) (h:amongL (s.drop a) lettersL=0∨s.drop (a+k)=[]∨(∃c r,s.drop (a+k)=c::r∧(c≠62∧c≠32∧c≠10∧c≠47))∨tagEnd (s.drop (a+k)) (a+k)=none):tagAt s a=none:=by
 have hk':amongL (s.drop a) (lettersL++digitsL++[45])=k:=hk;unfold tagAt;rw [hk'];split
 ·rfl
 ·rename_i q;split
  ·rfl
  ·rename_i c r hcr;split
   ·rfl
   ·rename_i hq;rcases h with h|h|⟨c',r',h,h2⟩|h
    ·exact absurd h q
    ·rw [h]at hcr;cases hcr
    ·rw [h]at hcr;injection hcr with e1 e2;subst e1;exact absurd h2 hq
    ·rw [hcr]at h;rw [h]
theorem tag_yes (s:List UInt8) (a k i:Nat) (hk:amongL (s.drop a) nameSet=k) (h0:amongL (s.drop a) lettersL≠0) (c:UInt8) (r:List UInt8) (hc:s.drop (a+k)=c::r) (h1:¬(c≠62∧c≠32∧c≠10∧c≠47))
  (hi:tagEnd (s.drop (a+k)) (a+k)=some i):tagAt s a=some (.tag (s.take (i+1)),i+1):=by
 have hk':amongL (s.drop a) (lettersL++digitsL++[45])=k:=hk;unfold tagAt;rw [hk',if_neg h0];rw [hc]at hi⊢;simp only;rw [if_neg h1,hi]
set_option maxHeartbeats 16000000 in
theorem tag_two (s:ByteArray) (w:World) (h0:1≤s.size) (hs:s.size≤1000000000) (hsl:(s.data.toList.drop 1).head? =some 47):
  Calls Tryz.prog 219 #[.string s] w fun e w'=>e=.returned (.tuple #[tokVal (tagL s.data.toList),.int .i64 (tokLen (tagL s.data.toList))])∧Below w.heap.size w w':=by
 have hp:=fun W=>pre_at 47 (s.extract 1 s.size) W;rw [tail_list,decide_eq_true hsl]at hp;have hTA:tagL s.data.toList=tagAt s.data.toList 2:=(by unfold tagL;rw [if_pos hsl]);have hlt:=head_lt hsl;rw [←Lib.size_eq]at hlt;have HP:=Lib.hid hp;clear hp hsl;have hc1:=fun W=>among_letters s 2 W hs;have hc2:=fun W=>among_name s 2 W hs;have hl1:=among_le (s.data.toList.drop 2) lettersL;rw [List.length_drop,←Lib.size_eq]at hl1;have hl2:=among_le (s.data.toList.drop 2) nameSet;rw [List.length_drop,←Lib.size_eq]at hl2;have hno:=tag_no s.data.toList 2;have hyes:=tag_yes s.data.toList 2;obtain ⟨n,hn⟩:∃n,amongL (s.data.toList.drop 2) lettersL=n:=⟨_,rfl⟩
 obtain ⟨k,hk⟩:∃k,amongL (s.data.toList.drop 2) nameSet=k:=⟨_,rfl⟩
 have hno:=hno k hk;have hyes:=fun i=>hyes k i hk;rw [hn]at hc1 hno hl1 hyes;rw [hk]at hc2 hl2;have HC1:=Lib.hid hc1;have HC2:=Lib.hid hc2;clear hc1 hc2 hn hk;by_cases t0:n=0
 ·have HN:=Lib.hid (hTA.trans (hno (Or.inl t0)));have t0':((n:Int)==0)=true:=(by rw [beq_iff_eq];omega);clear hno hyes hTA;go_enter Tryz.func219,Tryz.ntmps219
  go_wp2_with fail;refine (HP.out _).mono ?_;rintro e w' ⟨rfl,hw'⟩;obtain rfl:=hw'.symm;go_wp2_with fail;refine (HC1.out _).mono ?_;rintro e w2 ⟨rfl,b2⟩;go_wp2_with fail
  go_ret2
  exact ⟨ret_nil HN.out,b2⟩
 ·have t0':((n:Int)==0)=false:=(by rw [beq_eq_false_iff_ne];omega);by_cases t1:2+k<s.size
  ·have t1':(2:Int)+(k:Int)<(s.size:Int):=(by omega);have hd:=drop_at s (2+k) t1;obtain ⟨c,hc⟩:∃c,s[2+k]=c:=⟨_,rfl⟩
   rw [hc]at hd;have hsg:=fun W=>tag_signs c W;have hcb:=byte_lt c;obtain ⟨hcb0,hcb1⟩:=hcb;by_cases q1:c=62
   ·subst q1;have hq0:¬((62:UInt8)≠62∧(62:UInt8)≠32∧(62:UInt8)≠10∧(62:UInt8)≠47):=(by decide);have hyes:=fun i=>hyes i t0 62 _ hd hq0;obtain ⟨R,hR⟩:∃R,tagEnd (s.data.toList.drop (2+k)) (2+k)=R:=⟨_,rfl⟩
    have hnone:R=none→tagL s.data.toList=none:=fun h=>hTA.trans (hno (Or.inr (Or.inr (Or.inr (hR.trans h)))));have hsome:∀i,R=some i→tagL s.data.toList=some (.tag (s.data.toList.take (i+1)),i+1):=fun i h=>hTA.trans (hyes i (hR.trans h));have HNO:=Lib.hid hnone;have HYE:=Lib.hid hsome;have HR:=Lib.hid hR;clear hno hyes hTA hR hnone hsome hd;go_enter Tryz.func219,Tryz.ntmps219
    go_wp2_with fail;refine (HP.out _).mono ?_;rintro e w' ⟨rfl,hw'⟩;obtain rfl:=hw'.symm;go_wp2_with fail;refine (HC1.out _).mono ?_;rintro e w2 ⟨rfl,b2⟩;go_wp2_with fail;refine (HC2.out _).mono ?_;rintro e w3 ⟨rfl,b3⟩;have B4:=below_step b2 b3;go_wp2_with fail;go_loop [5] (fun u5=>∃i:Nat,u5=.int .i64 i∧i≤s.size∧tagEnd (s.data.toList.drop i) i=R) (fun u5=>s.size - (intOf u5).toNat)
    case atStart=>exact ⟨2+k,by go_num,by omega,HR.out⟩
    case round=>
     obtain ⟨i,rfl,hi,hri⟩:=hrel;clear HR;by_cases hit:i<s.size
     ·rw [drop_at s i hit,tagEnd]at hri;obtain ⟨d,hdd⟩:∃d,s[i]=d:=⟨_,rfl⟩
      rw [hdd]at hri;by_cases k1:d=62
      ·subst k1;rw [if_pos rfl]at hri;have HRI:=Lib.hid (HYE.out i hri.symm);clear hri;have hi1':(i:Int)+1≤(s.size:Int):=(by omega);go_wp2_with fail
       go_ret2
       exact ⟨ret_tag HRI.out (by rw [Lib.extract_data];simp) (by omega),B4⟩
      ·have k1':((d.toNat:Int)==62)=false:=by
        rw [beq_eq_false_iff_ne];intro e;exact k1 (byte_eq (n:=62) (by omega))
       rw [if_neg k1]at hri;by_cases k2:d=60∨d=0
       ·rw [if_pos k2]at hri;have HRI:=Lib.hid (HNO.out hri.symm);clear hri;rcases k2 with rfl|rfl
        all_goals
         go_wp2_with fail
         go_ret2
         exact ⟨ret_nil HRI.out,B4⟩
       ·rw [if_neg k2]at hri;have HRI:=Lib.hid hri;clear hri;have q2:((d.toNat:Int)==60)=false:=by
         rw [beq_eq_false_iff_ne];intro e;exact k2 (Or.inl (byte_eq (n:=60) (by omega)))
        have q3:((d.toNat:Int)==0)=false:=by
         rw [beq_eq_false_iff_ne];intro e;exact k2 (Or.inr (byte_eq (n:=0) (by omega)))
        go_wp2_with fail;go_round;case rel=>exact ⟨i+1,by go_num,by omega,HRI.out⟩
        case measure=>simp [intOf];omega
     ·rw [drop_end s i (by omega),tagEnd]at hri;have HRI:=Lib.hid (HNO.out hri.symm);clear hri;go_wp2_with fail
      go_ret2
      exact ⟨ret_nil HRI.out,B4⟩
   ·have q1':((c.toNat:Int)==62)=false:=by
     rw [beq_eq_false_iff_ne];intro e;exact q1 (byte_eq (n:=62) (by omega))
    have q1'':((c.toNat:Int) !=62)=true:=(by rw [bne,q1'];rfl);by_cases q2:c=32∨c=10∨c=47
    ·have hq0:¬(c≠62∧c≠32∧c≠10∧c≠47):=by
      rintro ⟨_,a,b,d⟩;rcases q2 with h|h|h
      ·exact a h
      ·exact b h
      ·exact d h
     have hyes:=fun i=>hyes i t0 c _ hd hq0;rw [decide_eq_true q2]at hsg;have HSG:=Lib.hid hsg;clear q2 hsg hq0;obtain ⟨R,hR⟩:∃R,tagEnd (s.data.toList.drop (2+k)) (2+k)=R:=⟨_,rfl⟩
     have hnone:R=none→tagL s.data.toList=none:=fun h=>hTA.trans (hno (Or.inr (Or.inr (Or.inr (hR.trans h)))));have hsome:∀i,R=some i→tagL s.data.toList=some (.tag (s.data.toList.take (i+1)),i+1):=fun i h=>hTA.trans (hyes i (hR.trans h));have HNO:=Lib.hid hnone;have HYE:=Lib.hid hsome;have HR:=Lib.hid hR;clear hno hyes hTA hR hnone hsome hd;go_enter Tryz.func219,Tryz.ntmps219
     go_wp2_with fail;refine (HP.out _).mono ?_;rintro e w' ⟨rfl,hw'⟩;obtain rfl:=hw'.symm;go_wp2_with fail;refine (HC1.out _).mono ?_;rintro e w2 ⟨rfl,b2⟩;go_wp2_with fail;refine (HC2.out _).mono ?_;rintro e w3 ⟨rfl,b3⟩;have B3:=below_step b2 b3;go_wp2_with fail;refine (HSG.out _).mono ?_;rintro e w4 ⟨rfl,b4⟩;have B4:=below_step B3 b4;go_wp2_with fail;go_loop [5] (fun u5=>∃i:Nat,u5=.int .i64 i∧i≤s.size∧tagEnd (s.data.toList.drop i) i=R) (fun u5=>s.size - (intOf u5).toNat)
     case atStart=>exact ⟨2+k,by go_num,by omega,HR.out⟩
     case round=>
      obtain ⟨i,rfl,hi,hri⟩:=hrel;clear HR;by_cases hit:i<s.size
      ·rw [drop_at s i hit,tagEnd]at hri;obtain ⟨d,hdd⟩:∃d,s[i]=d:=⟨_,rfl⟩
       rw [hdd]at hri;by_cases k1:d=62
       ·subst k1;rw [if_pos rfl]at hri;have HRI:=Lib.hid (HYE.out i hri.symm);clear hri;have hi1':(i:Int)+1≤(s.size:Int):=(by omega);go_wp2_with fail
        go_ret2
        exact ⟨ret_tag HRI.out (by rw [Lib.extract_data];simp) (by omega),B4⟩
       ·have k1':((d.toNat:Int)==62)=false:=by
         rw [beq_eq_false_iff_ne];intro e;exact k1 (byte_eq (n:=62) (by omega))
        rw [if_neg k1]at hri;by_cases k2:d=60∨d=0
        ·rw [if_pos k2]at hri;have HRI:=Lib.hid (HNO.out hri.symm);clear hri;rcases k2 with rfl|rfl
         all_goals
          go_wp2_with fail
          go_ret2
          exact ⟨ret_nil HRI.out,B4⟩
        ·rw [if_neg k2]at hri;have HRI:=Lib.hid hri;clear hri;have q2:((d.toNat:Int)==60)=false:=by
          rw [beq_eq_false_iff_ne];intro e;exact k2 (Or.inl (byte_eq (n:=60) (by omega)))
         have q3:((d.toNat:Int)==0)=false:=by
          rw [beq_eq_false_iff_ne];intro e;exact k2 (Or.inr (byte_eq (n:=0) (by omega)))
         go_wp2_with fail;go_round;case rel=>exact ⟨i+1,by go_num,by omega,HRI.out⟩
         case measure=>simp [intOf];omega
      ·rw [drop_end s i (by omega),tagEnd]at hri;have HRI:=Lib.hid (HNO.out hri.symm);clear hri;go_wp2_with fail
       go_ret2
       exact ⟨ret_nil HRI.out,B4⟩
    ·have HN:=Lib.hid (hTA.trans (hno (Or.inr (Or.inr (Or.inl ⟨c,_,hd,q1,fun h=>q2 (Or.inl h),fun h=>q2 (Or.inr (Or.inl h)),fun h=>q2 (Or.inr (Or.inr h))⟩)))));rw [decide_eq_false q2]at hsg;have HSG:=Lib.hid hsg;clear hno hyes hTA q2 hsg hd;go_enter Tryz.func219,Tryz.ntmps219
     go_wp2_with fail;refine (HP.out _).mono ?_;rintro e w' ⟨rfl,hw'⟩;obtain rfl:=hw'.symm;go_wp2_with fail;refine (HC1.out _).mono ?_;rintro e w2 ⟨rfl,b2⟩;go_wp2_with fail;refine (HC2.out _).mono ?_;rintro e w3 ⟨rfl,b3⟩;have B3:=below_step b2 b3;go_wp2_with fail;refine (HSG.out _).mono ?_;rintro e w4 ⟨rfl,b4⟩;have B4:=below_step B3 b4;go_wp2_with fail
     go_ret2
     exact ⟨ret_nil HN.out,B4⟩
  ·have HN:=Lib.hid (hTA.trans (hno (Or.inr (Or.inl (drop_end s _ (by omega))))));have t1':¬(2:Int)+(k:Int)<(s.size:Int):=(by omega);clear hno hyes hTA;go_enter Tryz.func219,Tryz.ntmps219
   go_wp2_with fail;refine (HP.out _).mono ?_;rintro e w' ⟨rfl,hw'⟩;obtain rfl:=hw'.symm;go_wp2_with fail;refine (HC1.out _).mono ?_;rintro e w2 ⟨rfl,b2⟩;go_wp2_with fail;refine (HC2.out _).mono ?_;rintro e w3 ⟨rfl,b3⟩;have B3:=below_step b2 b3;go_wp2_with fail;refine wp_loop_rounds 1 ?_;rw [rounds_succ];go_wp2_with fail
   go_ret2
   exact ⟨ret_nil HN.out,B3⟩
set_option maxHeartbeats 16000000 in
theorem tag_one (s:ByteArray) (w:World) (h0:1≤s.size) (hs:s.size≤1000000000) (hsl:(s.data.toList.drop 1).head? ≠some 47):
  Calls Tryz.prog 219 #[.string s] w fun e w'=>e=.returned (.tuple #[tokVal (tagL s.data.toList),.int .i64 (tokLen (tagL s.data.toList))])∧Below w.heap.size w w':=by
 have hp:=fun W=>pre_at 47 (s.extract 1 s.size) W;rw [tail_list,decide_eq_false hsl]at hp;have hTA:tagL s.data.toList=tagAt s.data.toList 1:=(by unfold tagL;rw [if_neg hsl]);have HP:=Lib.hid hp;clear hp hsl;have hc1:=fun W=>among_letters s 1 W hs;have hc2:=fun W=>among_name s 1 W hs;have hl1:=among_le (s.data.toList.drop 1) lettersL;rw [List.length_drop,←Lib.size_eq]at hl1;have hl2:=among_le (s.data.toList.drop 1) nameSet;rw [List.length_drop,←Lib.size_eq]at hl2;have hno:=tag_no s.data.toList 1;have hyes:=tag_yes s.data.toList 1;obtain ⟨n,hn⟩:∃n,amongL (s.data.toList.drop 1) lettersL=n:=⟨_,rfl⟩
 obtain ⟨k,hk⟩:∃k,amongL (s.data.toList.drop 1) nameSet=k:=⟨_,rfl⟩
 have hno:=hno k hk;have hyes:=fun i=>hyes k i hk;rw [hn]at hc1 hno hl1 hyes;rw [hk]at hc2 hl2;have HC1:=Lib.hid hc1;have HC2:=Lib.hid hc2;clear hc1 hc2 hn hk;by_cases t0:n=0
 ·have HN:=Lib.hid (hTA.trans (hno (Or.inl t0)));have t0':((n:Int)==0)=true:=(by rw [beq_iff_eq];omega);clear hno hyes hTA;go_enter Tryz.func219,Tryz.ntmps219
  go_wp2_with fail;refine (HP.out _).mono ?_;rintro e w' ⟨rfl,hw'⟩;obtain rfl:=hw'.symm;go_wp2_with fail;refine (HC1.out _).mono ?_;rintro e w2 ⟨rfl,b2⟩;go_wp2_with fail
  go_ret2
  exact ⟨ret_nil HN.out,b2⟩
 ·have t0':((n:Int)==0)=false:=(by rw [beq_eq_false_iff_ne];omega);by_cases t1:1+k<s.size
  ·have t1':(1:Int)+(k:Int)<(s.size:Int):=(by omega);have hd:=drop_at s (1+k) t1;obtain ⟨c,hc⟩:∃c,s[1+k]=c:=⟨_,rfl⟩
   rw [hc]at hd;have hsg:=fun W=>tag_signs c W;have hcb:=byte_lt c;obtain ⟨hcb0,hcb1⟩:=hcb;by_cases q1:c=62
   ·subst q1;have hq0:¬((62:UInt8)≠62∧(62:UInt8)≠32∧(62:UInt8)≠10∧(62:UInt8)≠47):=(by decide);have hyes:=fun i=>hyes i t0 62 _ hd hq0;obtain ⟨R,hR⟩:∃R,tagEnd (s.data.toList.drop (1+k)) (1+k)=R:=⟨_,rfl⟩
    have hnone:R=none→tagL s.data.toList=none:=fun h=>hTA.trans (hno (Or.inr (Or.inr (Or.inr (hR.trans h)))));have hsome:∀i,R=some i→tagL s.data.toList=some (.tag (s.data.toList.take (i+1)),i+1):=fun i h=>hTA.trans (hyes i (hR.trans h));have HNO:=Lib.hid hnone;have HYE:=Lib.hid hsome;have HR:=Lib.hid hR;clear hno hyes hTA hR hnone hsome hd;go_enter Tryz.func219,Tryz.ntmps219
    go_wp2_with fail;refine (HP.out _).mono ?_;rintro e w' ⟨rfl,hw'⟩;obtain rfl:=hw'.symm;go_wp2_with fail;refine (HC1.out _).mono ?_;rintro e w2 ⟨rfl,b2⟩;go_wp2_with fail;refine (HC2.out _).mono ?_;rintro e w3 ⟨rfl,b3⟩;have B4:=below_step b2 b3;go_wp2_with fail;go_loop [5] (fun u5=>∃i:Nat,u5=.int .i64 i∧i≤s.size∧tagEnd (s.data.toList.drop i) i=R) (fun u5=>s.size - (intOf u5).toNat)
    case atStart=>exact ⟨1+k,by go_num,by omega,HR.out⟩
    case round=>
     obtain ⟨i,rfl,hi,hri⟩:=hrel;clear HR;by_cases hit:i<s.size
     ·rw [drop_at s i hit,tagEnd]at hri;obtain ⟨d,hdd⟩:∃d,s[i]=d:=⟨_,rfl⟩
      rw [hdd]at hri;by_cases k1:d=62
      ·subst k1;rw [if_pos rfl]at hri;have HRI:=Lib.hid (HYE.out i hri.symm);clear hri;have hi1':(i:Int)+1≤(s.size:Int):=(by omega);go_wp2_with fail
       go_ret2
       exact ⟨ret_tag HRI.out (by rw [Lib.extract_data];simp) (by omega),B4⟩
      ·have k1':((d.toNat:Int)==62)=false:=by
        rw [beq_eq_false_iff_ne];intro e;exact k1 (byte_eq (n:=62) (by omega))
       rw [if_neg k1]at hri;by_cases k2:d=60∨d=0
       ·rw [if_pos k2]at hri;have HRI:=Lib.hid (HNO.out hri.symm);clear hri;rcases k2 with rfl|rfl
        all_goals
         go_wp2_with fail
         go_ret2
         exact ⟨ret_nil HRI.out,B4⟩
       ·rw [if_neg k2]at hri;have HRI:=Lib.hid hri;clear hri;have q2:((d.toNat:Int)==60)=false:=by
         rw [beq_eq_false_iff_ne];intro e;exact k2 (Or.inl (byte_eq (n:=60) (by omega)))
        have q3:((d.toNat:Int)==0)=false:=by
         rw [beq_eq_false_iff_ne];intro e;exact k2 (Or.inr (byte_eq (n:=0) (by omega)))
        go_wp2_with fail;go_round;case rel=>exact ⟨i+1,by go_num,by omega,HRI.out⟩
        case measure=>simp [intOf];omega
     ·rw [drop_end s i (by omega),tagEnd]at hri;have HRI:=Lib.hid (HNO.out hri.symm);clear hri;go_wp2_with fail
      go_ret2
      exact ⟨ret_nil HRI.out,B4⟩
   ·have q1':((c.toNat:Int)==62)=false:=by
     rw [beq_eq_false_iff_ne];intro e;exact q1 (byte_eq (n:=62) (by omega))
    have q1'':((c.toNat:Int) !=62)=true:=(by rw [bne,q1'];rfl);by_cases q2:c=32∨c=10∨c=47
    ·have hq0:¬(c≠62∧c≠32∧c≠10∧c≠47):=by
      rintro ⟨_,a,b,d⟩;rcases q2 with h|h|h
      ·exact a h
      ·exact b h
      ·exact d h
     have hyes:=fun i=>hyes i t0 c _ hd hq0;rw [decide_eq_true q2]at hsg;have HSG:=Lib.hid hsg;clear q2 hsg hq0;obtain ⟨R,hR⟩:∃R,tagEnd (s.data.toList.drop (1+k)) (1+k)=R:=⟨_,rfl⟩
     have hnone:R=none→tagL s.data.toList=none:=fun h=>hTA.trans (hno (Or.inr (Or.inr (Or.inr (hR.trans h)))));have hsome:∀i,R=some i→tagL s.data.toList=some (.tag (s.data.toList.take (i+1)),i+1):=fun i h=>hTA.trans (hyes i (hR.trans h));have HNO:=Lib.hid hnone;have HYE:=Lib.hid hsome;have HR:=Lib.hid hR;clear hno hyes hTA hR hnone hsome hd;go_enter Tryz.func219,Tryz.ntmps219
     go_wp2_with fail;refine (HP.out _).mono ?_;rintro e w' ⟨rfl,hw'⟩;obtain rfl:=hw'.symm;go_wp2_with fail;refine (HC1.out _).mono ?_;rintro e w2 ⟨rfl,b2⟩;go_wp2_with fail;refine (HC2.out _).mono ?_;rintro e w3 ⟨rfl,b3⟩;have B3:=below_step b2 b3;go_wp2_with fail;refine (HSG.out _).mono ?_;rintro e w4 ⟨rfl,b4⟩;have B4:=below_step B3 b4;go_wp2_with fail;go_loop [5] (fun u5=>∃i:Nat,u5=.int .i64 i∧i≤s.size∧tagEnd (s.data.toList.drop i) i=R) (fun u5=>s.size - (intOf u5).toNat)
     case atStart=>exact ⟨1+k,by go_num,by omega,HR.out⟩
     case round=>
      obtain ⟨i,rfl,hi,hri⟩:=hrel;clear HR;by_cases hit:i<s.size
      ·rw [drop_at s i hit,tagEnd]at hri;obtain ⟨d,hdd⟩:∃d,s[i]=d:=⟨_,rfl⟩
       rw [hdd]at hri;by_cases k1:d=62
       ·subst k1;rw [if_pos rfl]at hri;have HRI:=Lib.hid (HYE.out i hri.symm);clear hri;have hi1':(i:Int)+1≤(s.size:Int):=(by omega);go_wp2_with fail
        go_ret2
        exact ⟨ret_tag HRI.out (by rw [Lib.extract_data];simp) (by omega),B4⟩
       ·have k1':((d.toNat:Int)==62)=false:=by
         rw [beq_eq_false_iff_ne];intro e;exact k1 (byte_eq (n:=62) (by omega))
        rw [if_neg k1]at hri;by_cases k2:d=60∨d=0
        ·rw [if_pos k2]at hri;have HRI:=Lib.hid (HNO.out hri.symm);clear hri;rcases k2 with rfl|rfl
         all_goals
          go_wp2_with fail
          go_ret2
          exact ⟨ret_nil HRI.out,B4⟩
        ·rw [if_neg k2]at hri;have HRI:=Lib.hid hri;clear hri;have q2:((d.toNat:Int)==60)=false:=by
          rw [beq_eq_false_iff_ne];intro e;exact k2 (Or.inl (byte_eq (n:=60) (by omega)))
         have q3:((d.toNat:Int)==0)=false:=by
          rw [beq_eq_false_iff_ne];intro e;exact k2 (Or.inr (byte_eq (n:=0) (by omega)))
         go_wp2_with fail;go_round;case rel=>exact ⟨i+1,by go_num,by omega,HRI.out⟩
         case measure=>simp [intOf];omega
      ·rw [drop_end s i (by omega),tagEnd]at hri;have HRI:=Lib.hid (HNO.out hri.symm);clear hri;go_wp2_with fail
       go_ret2
       exact ⟨ret_nil HRI.out,B4⟩
    ·have HN:=Lib.hid (hTA.trans (hno (Or.inr (Or.inr (Or.inl ⟨c,_,hd,q1,fun h=>q2 (Or.inl h),fun h=>q2 (Or.inr (Or.inl h)),fun h=>q2 (Or.inr (Or.inr h))⟩)))));rw [decide_eq_false q2]at hsg;have HSG:=Lib.hid hsg;clear hno hyes hTA q2 hsg hd;go_enter Tryz.func219,Tryz.ntmps219
     go_wp2_with fail;refine (HP.out _).mono ?_;rintro e w' ⟨rfl,hw'⟩;obtain rfl:=hw'.symm;go_wp2_with fail;refine (HC1.out _).mono ?_;rintro e w2 ⟨rfl,b2⟩;go_wp2_with fail;refine (HC2.out _).mono ?_;rintro e w3 ⟨rfl,b3⟩;have B3:=below_step b2 b3;go_wp2_with fail;refine (HSG.out _).mono ?_;rintro e w4 ⟨rfl,b4⟩;have B4:=below_step B3 b4;go_wp2_with fail
     go_ret2
     exact ⟨ret_nil HN.out,B4⟩
  ·have HN:=Lib.hid (hTA.trans (hno (Or.inr (Or.inl (drop_end s _ (by omega))))));have t1':¬(1:Int)+(k:Int)<(s.size:Int):=(by omega);clear hno hyes hTA;go_enter Tryz.func219,Tryz.ntmps219
   go_wp2_with fail;refine (HP.out _).mono ?_;rintro e w' ⟨rfl,hw'⟩;obtain rfl:=hw'.symm;go_wp2_with fail;refine (HC1.out _).mono ?_;rintro e w2 ⟨rfl,b2⟩;go_wp2_with fail;refine (HC2.out _).mono ?_;rintro e w3 ⟨rfl,b3⟩;have B3:=below_step b2 b3;go_wp2_with fail;refine wp_loop_rounds 1 ?_;rw [rounds_succ];go_wp2_with fail
   go_ret2
   exact ⟨ret_nil HN.out,B3⟩
theorem tag_tok (s:ByteArray) (w:World) (h0:1≤s.size) (hs:s.size≤1000000000):
  Calls Tryz.prog 219 #[.string s] w fun e w'=>e=.returned (.tuple #[tokVal (tagL s.data.toList),.int .i64 (tokLen (tagL s.data.toList))])∧Below w.heap.size w w':=by
 by_cases h:(s.data.toList.drop 1).head? =some 47
 ·exact tag_two s w h0 hs h
 ·exact tag_one s w h0 hs h
theorem suf_one (l:List UInt8) (c:UInt8):Lib.hasSuffix l [c]=decide (l.getLast? =some c):=by
 unfold Lib.hasSuffix;rw [Bool.eq_iff_iff,decide_eq_true_eq,List.isSuffixOf_iff_suffix];constructor
 ·rintro ⟨a,rfl⟩;simp
 ·intro h;obtain ⟨a,rfl⟩:=List.getLast?_eq_some_iff.1 h;exact ⟨a,rfl⟩
theorem suf_at (c:UInt8) (s:ByteArray) (w:World) (hs:s.size≤1000000000):
  Calls Tryz.prog 216 #[.string s,.string ⟨#[c]⟩] w fun e w'=>e=.returned (.bool (decide (s.data.toList.getLast? =some c)))∧w'=w:=by
 have:=Tryz.strings_HasSuffix s ⟨#[c]⟩ w (by omega);rw [show (ByteArray.mk #[c]).data.toList=[c]from rfl,suf_one]at this;exact this
theorem dropAll (c:UInt8):∀l:List UInt8,(l.dropWhile (·==c)).isEmpty= !(l.any (fun x=>x !=c))
 |[]=>rfl
 |x::l=>by
  have ih:=dropAll c l;rw [List.dropWhile_cons,List.any_cons];by_cases h:x=c
  ·subst h;simpa using ih
  ·simp [h]
theorem trim_empty (l:List UInt8) (c:UInt8):(Lib.trimB l c).isEmpty= !(l.any (fun x=>x !=c)):=by
 unfold Lib.trimB Lib.trimLeftB;rw [dropAll];unfold Lib.trimRightB;have h:=dropAll c l.reverse;rw [List.any_reverse]at h;rw [List.any_reverse];cases ha:l.any (fun x=>x !=c)
 ·rw [ha]at h;have:l.reverse.dropWhile (·==c)=[]:=(by simpa using h);rw [this];rfl
 ·congr 1;rw [List.any_eq_true]at ha⊢;obtain ⟨x,hx,hxc⟩:=ha;have key:∀m:List UInt8,x∈m→(x !=c)=true→x∈m.dropWhile (·==c):=by
   intro m;induction m with
   |nil=>intro h _;cases h
   |cons y m ih=>
    intro hm hc;rw [List.dropWhile_cons];split
    ·rename_i hy;refine ih ?_ hc;rcases List.mem_cons.1 hm with e|e
     ·exfalso;rw [←e]at hy;simp at hy hc;exact hc hy
     ·exact e
    ·exact hm
  exact ⟨x,key _ (List.mem_reverse.2 hx) hxc,hxc⟩
theorem trim_any (s:ByteArray) (w:World) (hs:s.size≤1000000000):
  Calls Tryz.prog 171 #[.string s,.string ⟨#[32]⟩] w fun e w'=>∃Y:ByteArray,e=.returned (.string Y)∧Y.toList.isEmpty= !(s.data.toList.any (fun c=>c !=32))∧Below w.heap.size w w':=by
 refine (Tryz.strings_Trim_one s 32 (by decide) w (by omega)).mono ?_;rintro e w' ⟨rfl,h⟩;refine ⟨_,rfl,?_,?_⟩
 ·rw [Lib.toList_data];exact trim_empty _ _
 ·rcases h with rfl|rfl
  ·exact Below.refl _ _
  ·exact (Below.refl _ _).drew
theorem any_len {l:List UInt8} (h1:l.head? =some 32) (h2:l.getLast? =some 32) (h3:l.any (fun c=>c !=32)=true):3≤l.length:=by
 match l,h1,h2,h3 with
 |[a],h1,_,h3=>simp at h1;subst h1;simp at h3
 |[a,b],h1,h2,h3=>simp at h1 h2;subst h1 h2;simp at h3
 |a::b::c::l,_,_,_=>simp
def CodeRel (s:ByteArray) (n i:Nat):Prop:=∃f,codeGo f s.data.toList n i=codeL s.data.toList∧s.size<i+f
set_option maxHeartbeats 8000000 in
theorem code_tok (s:ByteArray) (w:World) (hE:Env w) (hs:s.size≤1000000000):
  Calls Tryz.prog 193 #[.string s] w fun e w'=>e=.returned (.tuple #[(codeL s.data.toList).1.val,.int .i64 (codeL s.data.toList).2])∧Below w.heap.size w w':=by
 have hc:=fun W=>among_small [96] (by decide) (by decide) s W hs;have hle:=among_le s.data.toList [96];rw [←Lib.size_eq]at hle;have h0:CodeRel s (amongL s.data.toList [96]) (amongL s.data.toList [96]):=⟨s.size+1,by rw [Lib.size_eq];rfl,by omega⟩
 obtain ⟨n,hn⟩:∃n,amongL s.data.toList [96]=n:=⟨_,rfl⟩
 rw [hn]at hc hle h0;have HC:=Lib.hid hc;have H0:=Lib.hid h0;have HE:=Lib.hid hE;clear hc hn h0 hE;go_enter Tryz.func193,Tryz.ntmps193
 go_wp2_with fail;refine (HC.out _).mono ?_;rintro e w2 ⟨rfl,b2⟩;go_wp2_with fail;go_loopw [5] (fun u5 wr=>∃i:Nat,u5=.int .i64 i∧i≤s.size∧n≤i∧CodeRel s n i∧Below w.heap.size w wr) (fun u5 _=>s.size - (intOf u5).toNat)
 case atStart=>exact ⟨n,rfl,hle,Nat.le_refl _,H0.out,b2⟩
 case round=>
  obtain ⟨i,rfl,hi,hni0,hrl,hB⟩:=hrel;clear b2;have HR:=Lib.hid hrl;clear hrl;by_cases hit:i<s.size
  ·obtain ⟨f,hf,hfi⟩:=HR.out;obtain ⟨f,rfl⟩:∃g,f=g+1:=⟨f - 1,by omega⟩
   rw [codeGo]at hf;have hix:=fun W=>Tryz.strings_IndexByte (s.extract i s.size) 96 W;rw [tail_list,show ((96:Int).toNat.toUInt8)=96 from rfl]at hix;have hlt:=indexByte_lt 96 (s.data.toList.drop i);obtain ⟨k,hk⟩:∃k,Lib.indexByte (s.data.toList.drop i) 96=k:=⟨_,rfl⟩
   rw [hk]at hix hf hlt;have HIX:=Lib.hid hix;clear hix hk HR;by_cases hk0:k<0
   ·rw [if_pos hk0]at hf;have HF:=Lib.hid hf;clear hf hlt;go_wp2_with fail;refine (HIX.out _).mono ?_;rintro e _ ⟨rfl,rfl⟩;go_wp2_with fail
    go_ret2
    exact ⟨ret_cword HF.out.symm (by rw [Lib.extract_data];simp) rfl,hB⟩
   ·rw [if_neg hk0]at hf;obtain ⟨K,rfl⟩:∃K:Nat,k=K:=⟨k.toNat,by omega⟩
    obtain ⟨hl1,hl2⟩:=hlt (by omega);rw [List.length_drop,←Lib.size_eq,Int.toNat_natCast]at hl1;rw [Int.toNat_natCast]at hl2 hf;rw [List.getElem?_drop]at hl2;have hca:=fun W=>among_small [96] (by decide) (by decide) (s.extract (i+K) s.size) W (by rw [tail_size];omega);rw [tail_list]at hca;have hml:=among_le (s.data.toList.drop (i+K)) [96];rw [List.length_drop,←Lib.size_eq]at hml;have hm1:1≤amongL (s.data.toList.drop (i+K)) [96]:=by
     have hx:s.data.toList.drop (i+K)=96::s.data.toList.drop (i+K+1):=by
      obtain ⟨hlen,he⟩:=List.getElem?_eq_some_iff.1 hl2;rw [List.drop_eq_getElem_cons hlen,he]
     rw [hx,among_cons];simp
    obtain ⟨m,hm⟩:∃m,amongL (s.data.toList.drop (i+K)) [96]=m:=⟨_,rfl⟩
    rw [hm]at hca hf hml hm1;have HCA:=Lib.hid hca;clear hca hm hl2;have hKi:(i:Int)+(K:Int)≤(s.size:Int):=(by omega);by_cases hmn:m=n
    ·have hmn':((m:Int)==(n:Int))=true:=(by rw [beq_iff_eq];omega);rw [if_pos hmn]at hf;have hni:n≤i+K:=(by omega);have hni':(n:Int)≤(i:Int)+(K:Int):=(by omega);have hlf:=fun W hW=>lf_any (s.extract n (i+K)) W hW (by rw [Lib.size_eq,Lib.extract_data,List.length_take];omega);have hxl:(s.extract n (i+K)).data.toList=(s.data.toList.take (i+K)).drop n:=(by rw [Lib.extract_data,List.drop_take]);rw [hxl]at hlf;obtain ⟨X,hX,hXz⟩:=ba_ex (lfBlank ((s.data.toList.take (i+K)).drop n));rw [←hX]at hlf;simp only [Lib.mk_data]at hlf;have hXs:X.size≤1000000000:=(by rw [hXz,lf_len,List.length_drop,List.length_take,←Lib.size_eq];omega);unfold codeText at hf;rw [←hX]at hf;have hp1:=fun W=>pre_at 32 X W;have hp2:=fun W=>suf_at 32 X W hXs;have hp3:=fun W=>trim_any X W hXs;have HLF:=Lib.hid hlf;clear hlf hX hXz hxl;by_cases t1:X.data.toList.head? =some 32
     ·rw [decide_eq_true t1]at hp1;by_cases t2:X.data.toList.getLast? =some 32
      ·rw [decide_eq_true t2]at hp2;cases t3:X.data.toList.any (fun c=>c !=32)
       ·rw [if_neg (by rw [t3];simp)]at hf;rw [t3]at hp3;have HP3:=Lib.hid hp3;have HF:=Lib.hid hf;have HP1:=Lib.hid hp1;have HP2:=Lib.hid hp2;clear hf hp1 hp2 hp3;go_wp2_with fail;refine (HIX.out _).mono ?_;rintro e _ ⟨rfl,rfl⟩;go_wp2_with fail;refine (HCA.out _).mono ?_;rintro e w3 ⟨rfl,b3⟩;have B3:=below_step hB b3;go_wp2_with fail;refine (HLF.out _ (HE.out.below B3)).mono ?_;rintro e w4 ⟨rfl,b4⟩;have B4:=below_step B3 b4;go_wp2_with fail;refine (HP1.out _).mono ?_;rintro e _ ⟨rfl,rfl⟩;go_wp2_with fail;refine (HP2.out _).mono ?_;rintro e _ ⟨rfl,rfl⟩;go_wp2_with fail;refine (HP3.out _).mono ?_;rintro e w5 ⟨Y,rfl,hY,b5⟩;have hY1:(!Y.toList.isEmpty)=_:=congrArg Bool.not hY;simp only [Bool.not_not,Bool.not_true,Bool.not_false]at hY hY1;go_wp2_with fail
        go_ret2
        exact ⟨ret_ccode HF.out.symm rfl (by omega),below_step B4 b5⟩
       ·rw [if_pos ⟨t1,t2,t3⟩]at hf;rw [t3]at hp3;have hX3:=any_len t1 t2 t3;rw [←Lib.size_eq]at hX3;have hx3':(1:Int)≤(X.size:Int) - 1:=(by omega);have HP3:=Lib.hid hp3;have HF:=Lib.hid hf;have HP1:=Lib.hid hp1;have HP2:=Lib.hid hp2;clear hf hp1 hp2 hp3;go_wp2_with fail;refine (HIX.out _).mono ?_;rintro e _ ⟨rfl,rfl⟩;go_wp2_with fail;refine (HCA.out _).mono ?_;rintro e w3 ⟨rfl,b3⟩;have B3:=below_step hB b3;go_wp2_with fail;refine (HLF.out _ (HE.out.below B3)).mono ?_;rintro e w4 ⟨rfl,b4⟩;have B4:=below_step B3 b4;go_wp2_with fail;refine (HP1.out _).mono ?_;rintro e _ ⟨rfl,rfl⟩;go_wp2_with fail;refine (HP2.out _).mono ?_;rintro e _ ⟨rfl,rfl⟩;go_wp2_with fail;refine (HP3.out _).mono ?_;rintro e w5 ⟨Y,rfl,hY,b5⟩;have hY1:(!Y.toList.isEmpty)=_:=congrArg Bool.not hY;simp only [Bool.not_not,Bool.not_true,Bool.not_false]at hY hY1;go_wp2_with fail
        go_ret2
        exact ⟨ret_ccode HF.out.symm (by rw [Lib.extract_data,List.dropLast_eq_take,←List.drop_one,List.length_drop,←Lib.size_eq]) (by omega),below_step B4 b5⟩
      ·rw [decide_eq_false t2]at hp2;rw [if_neg (by rintro ⟨_,h,_⟩;exact t2 h)]at hf;have HF:=Lib.hid hf;have HP1:=Lib.hid hp1;have HP2:=Lib.hid hp2;clear hf hp1 hp2 hp3;go_wp2_with fail;refine (HIX.out _).mono ?_;rintro e _ ⟨rfl,rfl⟩;go_wp2_with fail;refine (HCA.out _).mono ?_;rintro e w3 ⟨rfl,b3⟩;have B3:=below_step hB b3;go_wp2_with fail;refine (HLF.out _ (HE.out.below B3)).mono ?_;rintro e w4 ⟨rfl,b4⟩;have B4:=below_step B3 b4;go_wp2_with fail;refine (HP1.out _).mono ?_;rintro e _ ⟨rfl,rfl⟩;go_wp2_with fail;refine (HP2.out _).mono ?_;rintro e _ ⟨rfl,rfl⟩;go_wp2_with fail
       go_ret2
       exact ⟨ret_ccode HF.out.symm rfl (by omega),B4⟩
     ·rw [decide_eq_false t1]at hp1;rw [if_neg (by rintro ⟨h,_,_⟩;exact t1 h)]at hf;have HF:=Lib.hid hf;have HP1:=Lib.hid hp1;have HP2:=Lib.hid hp2;clear hf hp1 hp2 hp3;go_wp2_with fail;refine (HIX.out _).mono ?_;rintro e _ ⟨rfl,rfl⟩;go_wp2_with fail;refine (HCA.out _).mono ?_;rintro e w3 ⟨rfl,b3⟩;have B3:=below_step hB b3;go_wp2_with fail;refine (HLF.out _ (HE.out.below B3)).mono ?_;rintro e w4 ⟨rfl,b4⟩;have B4:=below_step B3 b4;go_wp2_with fail;refine (HP1.out _).mono ?_;rintro e _ ⟨rfl,rfl⟩;go_wp2_with fail
      go_ret2
      exact ⟨ret_ccode HF.out.symm rfl (by omega),B4⟩
    ·have hmn':((m:Int)==(n:Int))=false:=(by rw [beq_eq_false_iff_ne];omega);rw [if_neg hmn]at hf;have HF:=Lib.hid hf;clear hf;go_wp2_with fail;refine (HIX.out _).mono ?_;rintro e _ ⟨rfl,rfl⟩;go_wp2_with fail;refine (HCA.out _).mono ?_;rintro e w3 ⟨rfl,b3⟩;go_wp2_with fail;go_roundw;case rel=>exact ⟨i+K+m,by go_num,by omega,by omega,⟨f,HF.out,by omega⟩,below_step hB b3⟩
     case measure=>simp [intOf];omega
  ·obtain rfl:i=s.size:=(by omega);obtain ⟨f,hf,hfi⟩:=HR.out;obtain ⟨f,rfl⟩:∃g,f=g+1:=⟨f - 1,by omega⟩
   rw [codeGo,drop_end s s.size (Nat.le_refl _),if_pos (by decide)]at hf;have HF:=Lib.hid hf;clear hf HR;go_wp2_with fail
   go_ret2
   exact ⟨ret_cword HF.out.symm (by rw [Lib.extract_data];simp) rfl,hB⟩
theorem indexAny_skip (chars:List UInt8):∀(c r:List UInt8),(∀b∈c,chars.contains b=false)→Lib.indexAny (c++r) chars=if Lib.indexAny r chars= -1 then -1 else Lib.indexAny r chars+c.length
 |[],r,_=>by
  simp only [List.nil_append,List.length_nil];split<;>simp_all
 |b::c,r,h=>by
  have ih:=indexAny_skip chars c r (fun x hx=>h x (List.mem_cons_of_mem _ hx));have hb:=h b (List.mem_cons_self ..);show (if chars.contains b then (0:Int)else if Lib.indexAny (c++r) chars== -1 then -1 else Lib.indexAny (c++r) chars+1)=_;have hge:=Lib.indexAny_ge chars r;rw [ih,hb,if_neg (by simp)];by_cases h1:Lib.indexAny r chars= -1
  ·rw [if_pos h1,if_pos h1];rfl
  ·rw [if_neg h1,if_neg h1,if_neg (by simp;omega),List.length_cons];omega
theorem indexAny_hit (chars:List UInt8) (b:UInt8) (r:List UInt8) (h:chars.contains b=true):Lib.indexAny (b::r) chars=0:=by
 show (if chars.contains b then (0:Int)else _)=0;rw [h];rfl
theorem special_big:∀b:UInt8,128≤b.toNat→specialL.contains b=false:=fun b=>allB (p:=fun b=>128≤b.toNat→specialL.contains b=false) (by unfold AllB;decide+kernel) b
theorem special_index:∀b:UInt8,decide (0≤Lib.indexByte specialL b)=specialL.contains b:=fun b=>allB (p:=fun b=>decide (0≤Lib.indexByte specialL b)=specialL.contains b) (by unfold AllB;decide+kernel) b
theorem chunk_big (s:ByteArray) (pos:Nat) (hp:pos<s.size) (h:128≤s[pos].toNat):∀b∈(s.data.toList.drop pos).take (Utf8.decode s pos).2,specialL.contains b=false:=by
 intro b hb;have hd:=drop_at s pos hp;have hw:=Lib.decodeL_width (s.data.toList.drop pos);have hc:=(width_conts s[pos] (s.data.toList.drop (pos+1))).1;rw [←hd,Lib.decodeL_drop]at hc;rw [Lib.decodeL_drop]at hw;rw [hd,List.take_cons (by omega)]at hb;rcases List.mem_cons.1 hb with e|e
 ·rw [e];exact special_big _ h
 ·have:=hc b e;unfold isCont at this;refine special_big _ ?_;simp at this;omega
set_option maxHeartbeats 4000000 in
theorem indexAny_short (s:ByteArray) (w:World) (h8:s.size≤8):
  Calls Tryz.prog 155 #[.string s,.string ⟨#[0,92,38,96,60,42,95,33,91,93,10,32]⟩] w fun e w'=>e=.returned (.int .i64 (Lib.indexAny s.data.toList specialL))∧Below w.heap.size w w':=by
 have hu:=fun W=>Any.strings_shouldUseASCIISet Tryz.lays226 (s.size:Int) W;have h8':decide ((8:Int)<(s.size:Int))=false:=(by simp;omega);rw [h8']at hu;have HU:=Lib.hid hu;clear hu;have he:(ByteArray.mk #[0,92,38,96,60,42,95,33,91,93,10,32]).toList.isEmpty=false:=(by rw [Lib.toList_data];rfl);go_enter Tryz.func155,Tryz.ntmps155
 go_wp2_with fail;refine (HU.out _).mono ?_;rintro e w' ⟨rfl,hw'⟩;obtain rfl:=hw'.symm;go_wp2_with fail;go_loopw [] (fun wr=>∃pos:Nat,wr.heap[w.heap.size]? =some (.stringIter s pos)∧Below w.heap.size w wr∧pos≤s.size∧Lib.indexAny s.data.toList specialL=(if Lib.indexAny (s.data.toList.drop pos) specialL= -1 then -1 else Lib.indexAny (s.data.toList.drop pos) specialL+pos)) (fun wr=>s.size - wr.iterPos w.heap.size)
 case atStart=>
  refine ⟨0,?_,(Below.refl _ w).alloc (Nat.le_refl _) _,by omega,?_⟩
  ·have:=World.iter_heap w s 0;simpa using this
  ·rw [List.drop_zero];split
   ·assumption
   ·omega
 case round=>
  obtain ⟨pos,hit,hbw,hps,hix⟩:=hrel;have hsz:w.heap.size<wr.heap.size:=(Array.getElem?_eq_some_iff.1 hit).1;by_cases hp:pos<s.size
  ·have hnx:∀ty,(Instr.next (.pointer (some ⟨w.heap.size,0,none⟩)) true ty).run Tryz.prog wr=_:=fun ty=>Lib.run_next_any_at wr w.heap.size s pos ty hit hp;have hit2:=Lib.iterAt_heap wr w.heap.size s pos (pos+(Utf8.decode s pos).2) hit;have hbw2:=Lib.below_iterAt hbw (k:=w.heap.size) (by omega) s (pos+(Utf8.decode s pos).2);have hda:=drop_at s pos hp;have hge:=Lib.indexAny_ge specialL (s.data.toList.drop (pos+1));obtain ⟨c,hc⟩:∃c,s[pos]=c:=⟨_,rfl⟩
   by_cases hasc:c.toNat<128
   ·rw [Go.decode_ascii s pos hp (by rw [hc];exact hasc),hc]at hnx;rw [Go.decode_ascii s pos hp (by rw [hc];exact hasc)]at hit2 hbw2;simp only at hnx hit2 hbw2;rw [hc]at hda;have hi0:(0:Int)≤(c.toNat:Int):=(by omega);have hi1:(c.toNat:Int)<128:=(by omega);have hir:=fun W=>Tryz.strings_IndexRune_ascii ⟨#[0,92,38,96,60,42,95,33,91,93,10,32]⟩ (c.toNat:Int) W hi0 hi1;have hsi:=special_index c;rw [show (ByteArray.mk #[0,92,38,96,60,42,95,33,91,93,10,32]).data.toList=specialL from rfl,show ((c.toNat:Int).toNat.toUInt8)=c by rw [Int.toNat_natCast];simp]at hir;obtain ⟨k,hk⟩:∃k,Lib.indexByte specialL c=k:=⟨_,rfl⟩
    rw [hk]at hir hsi;have HIR:=Lib.hid hir;clear hir hk hbw;cases hsp:specialL.contains c
    ·rw [hsp,decide_eq_false_iff_not]at hsi;have hn:=indexAny_skip specialL [c] (s.data.toList.drop (pos+1)) (fun b hb=>by rw [List.mem_singleton.1 hb];exact hsp);rw [hda,show c::s.data.toList.drop (pos+1)=[c]++s.data.toList.drop (pos+1)from rfl,hn]at hix;have HN:=Lib.hid (show Lib.indexAny s.data.toList specialL=(if Lib.indexAny (s.data.toList.drop (pos+1)) specialL= -1 then -1 else Lib.indexAny (s.data.toList.drop (pos+1)) specialL+((pos+1:Nat):Int)) by
      rw [hix];by_cases h1:Lib.indexAny (s.data.toList.drop (pos+1)) specialL= -1
      ·rw [if_pos h1,if_pos h1,if_pos rfl]
      ·rw [if_neg h1,if_neg h1,if_neg (by simp;omega)];simp;omega)
     clear hix hn hda hc;go_wp2_with fail;refine (HIR.out _).mono ?_;rintro e w' ⟨rfl,hw'⟩;obtain rfl:=hw'.symm;go_wp2_with fail;go_roundw;case rel=>exact ⟨pos+1,hit2,hbw2,by omega,HN.out⟩
     case measure=>simp only [World.iterPos,hit2,hit];omega
    ·rw [hsp,decide_eq_true_eq]at hsi;rw [hda,indexAny_hit specialL c _ hsp,if_neg (by omega)]at hix;have HN:=Lib.hid hix;clear hix hda hc;go_wp2_with fail;refine (HIR.out _).mono ?_;rintro e w' ⟨rfl,hw'⟩;obtain rfl:=hw'.symm;go_wp2_with fail;go_ret;exact ⟨ret_int (by rw [HN.out];omega),hbw2⟩
   ·have hbig:=decode_big s pos hp (by rw [hc];omega);have hcb:=chunk_big s pos hp (by rw [hc];omega);have hrl:=Lib.decodeL_rune (s.data.toList.drop pos);have hwl:=Lib.decodeL_le (s.data.toList.drop pos) (by rw [hda];simp);have hwd:=Lib.decodeL_width (s.data.toList.drop pos);rw [Lib.decodeL_drop]at hrl hwl hwd;obtain ⟨r,n,hrn⟩:∃r n,Utf8.decode s pos=(r,n):=⟨_,_,rfl⟩
    rw [hrn]at hnx hit2 hbw2 hbig hcb hrl hwl hwd;simp only at hnx hit2 hbw2 hbig hcb hrl hwl hwd;rw [List.length_drop,←Lib.size_eq]at hwl;have hir:=fun W=>indexRune_big ⟨#[0,92,38,96,60,42,95,33,91,93,10,32]⟩ (r:Int) W (by unfold AllAscii;decide) (by decide) (by omega) (by omega);have hn:=indexAny_skip specialL ((s.data.toList.drop pos).take n) ((s.data.toList.drop pos).drop n) hcb;rw [List.take_append_drop,List.drop_drop,List.length_take,List.length_drop,←Lib.size_eq,show min n (s.size - pos)=n by omega]at hn;rw [hn]at hix;have hge2:=Lib.indexAny_ge specialL (s.data.toList.drop (pos+n));have HN:=Lib.hid (show Lib.indexAny s.data.toList specialL=(if Lib.indexAny (s.data.toList.drop (pos+n)) specialL= -1 then -1 else Lib.indexAny (s.data.toList.drop (pos+n)) specialL+((pos+n:Nat):Int)) by
     rw [hix];by_cases h1:Lib.indexAny (s.data.toList.drop (pos+n)) specialL= -1
     ·rw [if_pos h1,if_pos h1,if_pos rfl]
     ·rw [if_neg h1,if_neg h1,if_neg (by omega)];omega)
    have HIR:=Lib.hid hir;clear hir hix hn hda hc hrn hcb;go_wp2_with fail;refine (HIR.out _).mono ?_;rintro e w' ⟨rfl,b3⟩;have hit3:=iter_below hit2 b3;have hbw3:=below_step hbw2 b3;go_wp2_with fail;go_roundw;case rel=>exact ⟨pos+n,hit3,hbw3,by omega,HN.out⟩
    case measure=>simp only [World.iterPos,hit3,hit];omega
  ·have hnx:∀ty,(Instr.next (.pointer (some ⟨w.heap.size,0,none⟩)) true ty).run Tryz.prog wr=_:=fun ty=>Lib.run_next_end_at wr w.heap.size s pos ty hit hp;rw [drop_end s pos (by omega),if_pos (by rfl)]at hix;have HN:=Lib.hid hix;clear hix;go_wp2_with fail;go_ret;exact ⟨ret_int HN.out.symm,hbw⟩
theorem indexAny_any (s:ByteArray) (w:World) (hs:s.size≤1000000000):
  Calls Tryz.prog 155 #[.string s,.string ⟨#[0,92,38,96,60,42,95,33,91,93,10,32]⟩] w fun e w'=>e=.returned (.int .i64 (Lib.indexAny s.data.toList specialL))∧Below w.heap.size w w':=by
 by_cases h8:s.size≤8
 ·exact indexAny_short s w h8
 ·have hz:(Tryz.prog.info? 165).map (fun i=>(i.zero,i.size))=some (some (.agg (Array.replicate 256 (.bool false))),256):=(by kernel_rfl);refine (Any.strings_IndexAny_long Tryz.lays153 (zero_of_info hz).1 (zero_of_info hz).2 s ⟨#[0,92,38,96,60,42,95,33,91,93,10,32]⟩ w (by decide) (by omega) (by omega) (by decide) (ascii_of_all (by decide))).mono ?_;rintro e w' ⟨rfl,rfl⟩;exact ⟨rfl,((Below.refl _ w).alloc (Nat.le_refl _) _).alloc (by simp) _⟩
set_option maxHeartbeats 8000000 in
theorem angle_tok (s:ByteArray) (w:World) (h0:1≤s.size) (hs:s.size≤1000000000):
  Calls Tryz.prog 194 #[.string s] w fun e w'=>e=.returned (.tuple #[tokVal (angleL s.data.toList),.int .i64 (tokLen (angleL s.data.toList))])∧Below w.heap.size w w':=by
 have ha:=fun W=>auto_tok s W h0 hs;have hm:=fun W=>mail_tok s W h0 hs;have ht:=fun W=>tag_tok s W h0 hs
 have hA:angleL s.data.toList=match autoL s.data.toList with
  |some r=>some r
  |none=>match mailL s.data.toList with
   |some r=>some r
   |none=>tagL s.data.toList:=rfl
 have pa:=fun t n=>@auto_le s.data.toList t n;have pm:=fun t n=>@mail_le s.data.toList t n;have pt:∀t n,tagL s.data.toList=some (t,n)→0<n:=fun t n h=>(tagAt_le h).1;obtain ⟨oa,ea⟩:∃o,autoL s.data.toList=o:=⟨_,rfl⟩
 obtain ⟨om,em⟩:∃o,mailL s.data.toList=o:=⟨_,rfl⟩
 obtain ⟨ot,et⟩:∃o,tagL s.data.toList=o:=⟨_,rfl⟩
 rw [ea]at ha hA pa;rw [em]at hm hA pm;rw [et]at ht hA pt;rcases oa with _|⟨t,n⟩
 ·simp only [tokVal,tokLen]at ha;rcases om with _|⟨t,n⟩
  ·simp only [tokVal,tokLen]at hm;rcases ot with _|⟨t,n⟩
   ·simp only [tokVal,tokLen]at ht;have HA:=Lib.hid ha;have HM:=Lib.hid hm;have HT:=Lib.hid ht;have HE:=Lib.hid hA;clear ha hm ht hA ea em et pa pm pt;go_enter Tryz.func194,Tryz.ntmps194
    go_wp2_with fail;obtain ⟨W1,hW1⟩:∃W1,w.alloc (.cells #[.func (.func 217) #[] #[],.func (.func 218) #[] #[],.func (.func 219) #[] #[]] 197)=W1:=⟨_,rfl⟩
    have c0:W1.cell? ⟨w.heap.size,0,none⟩=some (.func (.func 217) #[] #[]):=(by rw [←hW1];simp);have c1:W1.cell? ⟨w.heap.size,1,none⟩=some (.func (.func 218) #[] #[]):=(by rw [←hW1];simp);have c2:W1.cell? ⟨w.heap.size,2,none⟩=some (.func (.func 219) #[] #[]):=(by rw [←hW1];simp);have hB1:Below w.heap.size w W1:=(by rw [←hW1];exact (Below.refl _ w).alloc (Nat.le_refl _) _);have hs1:w.heap.size<W1.heap.size:=(by rw [←hW1,World.size_alloc];omega);rw [hW1];clear hW1;refine wp_loop_rounds 4 ?_;rw [rounds_succ];go_wp2_with fail;refine (HA.out _).mono ?_;rintro e w2 ⟨rfl,b2⟩;have d1:=(b2.cell (p:=⟨w.heap.size,1,none⟩) hs1).trans c1;have d2:=(b2.cell (p:=⟨w.heap.size,2,none⟩) hs1).trans c2;have hs2:w.heap.size<w2.heap.size:=(by have:=b2.size;omega);have B2:=below_step hB1 b2;clear c0 c1 c2 b2;go_wp2_with fail;rw [rounds_succ];go_wp2_with fail;refine (HM.out _).mono ?_;rintro e w3 ⟨rfl,b3⟩;have e2:=(b3.cell (p:=⟨w.heap.size,2,none⟩) hs2).trans d2;have B3:=below_step B2 b3;clear d1 d2 b3;go_wp2_with fail;rw [rounds_succ];go_wp2_with fail;refine (HT.out _).mono ?_;rintro e w4 ⟨rfl,b4⟩;have B4:=below_step B3 b4;clear e2 b4;go_wp2_with fail;rw [rounds_succ];go_wp2_with fail
    go_ret2
    exact ⟨ret_nil HE.out,B4⟩
   ·simp only [tokVal,tokLen]at ht;have hn:=pt t n rfl;have hn':(0:Int)<(n:Int):=(by omega);have HA:=Lib.hid ha;have HM:=Lib.hid hm;have HT:=Lib.hid ht;have HE:=Lib.hid hA;clear ha hm ht hA ea em et pa pm pt;go_enter Tryz.func194,Tryz.ntmps194
    go_wp2_with fail;obtain ⟨W1,hW1⟩:∃W1,w.alloc (.cells #[.func (.func 217) #[] #[],.func (.func 218) #[] #[],.func (.func 219) #[] #[]] 197)=W1:=⟨_,rfl⟩
    have c0:W1.cell? ⟨w.heap.size,0,none⟩=some (.func (.func 217) #[] #[]):=(by rw [←hW1];simp);have c1:W1.cell? ⟨w.heap.size,1,none⟩=some (.func (.func 218) #[] #[]):=(by rw [←hW1];simp);have c2:W1.cell? ⟨w.heap.size,2,none⟩=some (.func (.func 219) #[] #[]):=(by rw [←hW1];simp);have hB1:Below w.heap.size w W1:=(by rw [←hW1];exact (Below.refl _ w).alloc (Nat.le_refl _) _);have hs1:w.heap.size<W1.heap.size:=(by rw [←hW1,World.size_alloc];omega);rw [hW1];clear hW1;refine wp_loop_rounds 4 ?_;rw [rounds_succ];go_wp2_with fail;refine (HA.out _).mono ?_;rintro e w2 ⟨rfl,b2⟩;have d1:=(b2.cell (p:=⟨w.heap.size,1,none⟩) hs1).trans c1;have d2:=(b2.cell (p:=⟨w.heap.size,2,none⟩) hs1).trans c2;have hs2:w.heap.size<w2.heap.size:=(by have:=b2.size;omega);have B2:=below_step hB1 b2;clear c0 c1 c2 b2;go_wp2_with fail;rw [rounds_succ];go_wp2_with fail;refine (HM.out _).mono ?_;rintro e w3 ⟨rfl,b3⟩;have e2:=(b3.cell (p:=⟨w.heap.size,2,none⟩) hs2).trans d2;have B3:=below_step B2 b3;clear d1 d2 b3;go_wp2_with fail;rw [rounds_succ];go_wp2_with fail;refine (HT.out _).mono ?_;rintro e w4 ⟨rfl,b4⟩;have B4:=below_step B3 b4;clear e2 b4;go_wp2_with fail
    go_ret2
    exact ⟨ret_tok HE.out rfl rfl,B4⟩
  ·simp only [tokVal,tokLen]at hm;have hn:=(pm t n rfl).1;have hn':(0:Int)<(n:Int):=(by omega);have HA:=Lib.hid ha;have HM:=Lib.hid hm;have HE:=Lib.hid hA;clear ha hm ht hA ea em et pa pm pt;go_enter Tryz.func194,Tryz.ntmps194
   go_wp2_with fail;obtain ⟨W1,hW1⟩:∃W1,w.alloc (.cells #[.func (.func 217) #[] #[],.func (.func 218) #[] #[],.func (.func 219) #[] #[]] 197)=W1:=⟨_,rfl⟩
   have c0:W1.cell? ⟨w.heap.size,0,none⟩=some (.func (.func 217) #[] #[]):=(by rw [←hW1];simp);have c1:W1.cell? ⟨w.heap.size,1,none⟩=some (.func (.func 218) #[] #[]):=(by rw [←hW1];simp);have c2:W1.cell? ⟨w.heap.size,2,none⟩=some (.func (.func 219) #[] #[]):=(by rw [←hW1];simp);have hB1:Below w.heap.size w W1:=(by rw [←hW1];exact (Below.refl _ w).alloc (Nat.le_refl _) _);have hs1:w.heap.size<W1.heap.size:=(by rw [←hW1,World.size_alloc];omega);rw [hW1];clear hW1;refine wp_loop_rounds 4 ?_;rw [rounds_succ];go_wp2_with fail;refine (HA.out _).mono ?_;rintro e w2 ⟨rfl,b2⟩;have d1:=(b2.cell (p:=⟨w.heap.size,1,none⟩) hs1).trans c1;have d2:=(b2.cell (p:=⟨w.heap.size,2,none⟩) hs1).trans c2;have hs2:w.heap.size<w2.heap.size:=(by have:=b2.size;omega);have B2:=below_step hB1 b2;clear c0 c1 c2 b2;go_wp2_with fail;rw [rounds_succ];go_wp2_with fail;refine (HM.out _).mono ?_;rintro e w3 ⟨rfl,b3⟩;have e2:=(b3.cell (p:=⟨w.heap.size,2,none⟩) hs2).trans d2;have B3:=below_step B2 b3;clear d1 d2 b3;go_wp2_with fail
   go_ret2
   exact ⟨ret_tok HE.out rfl rfl,B3⟩
 ·simp only [tokVal,tokLen]at ha;have hn:=(pa t n rfl).1;have hn':(0:Int)<(n:Int):=(by omega);have HA:=Lib.hid ha;have HE:=Lib.hid hA;clear ha hm ht hA ea em et pa pm pt;go_enter Tryz.func194,Tryz.ntmps194
  go_wp2_with fail;obtain ⟨W1,hW1⟩:∃W1,w.alloc (.cells #[.func (.func 217) #[] #[],.func (.func 218) #[] #[],.func (.func 219) #[] #[]] 197)=W1:=⟨_,rfl⟩
  have c0:W1.cell? ⟨w.heap.size,0,none⟩=some (.func (.func 217) #[] #[]):=(by rw [←hW1];simp);have c1:W1.cell? ⟨w.heap.size,1,none⟩=some (.func (.func 218) #[] #[]):=(by rw [←hW1];simp);have c2:W1.cell? ⟨w.heap.size,2,none⟩=some (.func (.func 219) #[] #[]):=(by rw [←hW1];simp);have hB1:Below w.heap.size w W1:=(by rw [←hW1];exact (Below.refl _ w).alloc (Nat.le_refl _) _);have hs1:w.heap.size<W1.heap.size:=(by rw [←hW1,World.size_alloc];omega);rw [hW1];clear hW1;refine wp_loop_rounds 4 ?_;rw [rounds_succ];go_wp2_with fail;refine (HA.out _).mono ?_;rintro e w2 ⟨rfl,b2⟩;have d1:=(b2.cell (p:=⟨w.heap.size,1,none⟩) hs1).trans c1;have d2:=(b2.cell (p:=⟨w.heap.size,2,none⟩) hs1).trans c2;have hs2:w.heap.size<w2.heap.size:=(by have:=b2.size;omega);have B2:=below_step hB1 b2;clear c0 c1 c2 b2;go_wp2_with fail
  go_ret2
  exact ⟨ret_tok HE.out rfl rfl,B2⟩
end Go.Proofs.YtkphljggkajlkaaGreatDoor
