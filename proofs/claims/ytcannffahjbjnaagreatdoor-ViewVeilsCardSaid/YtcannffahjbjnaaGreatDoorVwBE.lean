import Derived.Test.YtcannffahjbjnaaGreatDoorVwBD
import Derived.Laws.Cover4
import Derived.Shelf.Strings.BuilderK
import Derived.Lib.RuneBytes
set_option linter.unusedVariables false
set_option linter.unusedSimpArgs false
set_option maxRecDepth 100000
set_option maxHeartbeats 64000000
namespace Go.Proofs.YtcannffahjbjnaaGreatDoor
open Go.RowKit
theorem oz {T e:TypeId} {B b:Nat} {p:Value} {bs:List Value} {W W':World} (h:Lib.BuilderAtF T e B b p bs W) (hb:Below W.heap.size W W'):Lib.BuilderAtF T e B b p bs W':=by
 have hlt:=h.lt;obtain ⟨hB,v,hv,hown,hne⟩:=h;exact ⟨hB,v,(hb.block b hlt).trans hv,hown.kept (row:=none) ⟨hb.os,hb.tape,hb.output,hb.size,fun k hk _=>hb.block k hk⟩ (Classical.em _),hne⟩
theorem aU {T e:TypeId} {B b:Nat} {bs:List Value} {W W':World} (h:Lib.IsBuilderF T e B b bs W) (hb:Below W.heap.size W W'):Lib.IsBuilderF T e B b bs W':=
 h.elim (fun x=>.inl (oz x hb)) (fun x=>.inr (oz x hb))
theorem Bm (i:Int):(Utf8.encode i).data.toList.length <= 4:=by rw [<- Lib.size_eq];exact encode_size_le i
theorem uK (b m:Nat) (l:List UInt8):(number b m l).1.length <= 4:=by
 unfold number;simp only;split
 ·exact Nat.zero_le _
 ·simp only;split
  ·decide
  ·exact Bm _
theorem wU (l:List UInt8):(named l).1.length <= 4:=by
 unfold named;split
 ·exact Bm _
 ·exact Nat.zero_le _
theorem wC (l:List UInt8):(cH l).1.length <= 4∧(cH l).2 <= l.length+11:=by
 have num:∀(r:List UInt8) (b m a:Nat),m <= 7 ->a <= 3 ->cH (38::35::r)=(if (number b m ((38::35::r).drop a)).2=0 then ([],0)else ((number b m ((38::35::r).drop a)).1,a+(number b m ((38::35::r).drop a)).2+1)) ->
   (cH (38::35::r)).1.length <= 4∧(cH (38::35::r)).2 <= (38::35::r).length+11:=by
  intro r b m a hm ha h;rw [h];have h1:=nY b m ((38::35::r).drop a);split
  ·exact ⟨Nat.zero_le _,Nat.zero_le _⟩
  ·exact ⟨uK _ _ _,by simp only [List.length_cons];omega⟩
 cases l with
 |nil=>exact ⟨Nat.zero_le _,Nat.zero_le _⟩
 |cons c rest=>
  by_cases hc:c=38
  ·subst hc;by_cases h1:rest.head? =some 35
   ·cases rest with
    |nil=>simp at h1
    |cons d r=>
     simp at h1;subst h1;by_cases h2:r.head? =some 120∨r.head? =some 88
     ·exact num r 16 6 3 (by omega) (by omega) (kP r 16 6 3 (Or.inl ⟨h2,rfl,rfl,rfl⟩))
     ·exact num r 10 7 2 (by omega) (by omega) (kP r 10 7 2 (Or.inr ⟨h2,rfl,rfl,rfl⟩))
   ·rw [rF rest h1];have hc:=wl rest [59];split
    ·split
     ·exact ⟨wU _,by simp only [List.length_cons];omega⟩
     ·exact ⟨Nat.zero_le _,Nat.zero_le _⟩
    ·exact ⟨Nat.zero_le _,Nat.zero_le _⟩
  ·rw [gS c rest hc];exact ⟨Nat.zero_le _,Nat.zero_le _⟩
theorem Tryz.infoBld:(Tryz.prog.info? 112).map (·.size)=some 2:=by kernel_rfl
theorem Tryz.infoByte:(Tryz.prog.info? 5).map (fun i=>(i.zero,i.size,i.bytes))=some (some (.int .u8 0),1,1):=by kernel_rfl
theorem pO (b:Nat) (w:World) (h0:w.cell? ⟨b,0,none⟩=some (.pointer (some ⟨b,0,none⟩))):
  Calls Tryz.prog 93 #[.pointer (some ⟨b,0,none⟩)] w fun e w'=>e=.returned (.tuple #[])∧w'=w:=by
 obtain ⟨j,hj,_⟩:=Option.map_eq_some_iff.1 Tryz.infoBld;go_enter Tryz.func93,Tryz.ntmps93
 go_wp2
 rw [Lib.run_neq_ptr_same w _ Tryz.underlying109 hj]
 go_wp2
 go_end0
 exact ⟨rfl,rfl⟩
theorem ph (b:Nat) (w:World) (h0:w.cell? ⟨b,0,none⟩=some (.pointer none)) (hsh:w.shape? b=some (112,2)) (hfz:w.frozen? ⟨b,0,none⟩=false):
  Calls Tryz.prog 93 #[.pointer (some ⟨b,0,none⟩)] w fun e w'=>e=.returned (.tuple #[])∧w'=w.setCell ⟨b,0,none⟩ (.pointer (some ⟨b,0,none⟩)):=by
 obtain ⟨j,hj,hjs⟩:=Option.map_eq_some_iff.1 Tryz.infoBld;go_enter Tryz.func93,Tryz.ntmps93
 go_wp2
 rw [Lib.run_to_unsafe w ⟨b,0,none⟩ Tryz.underlying109 Tryz.underlying187 hj (by rw [hjs];decide) hsh (Nat.zero_lt_succ 1)];simp only [Result.andThen];rw [Oper.upon_value]
 go_wp2
 rw [run_callFunc_extern Tryz.func122 (by kernel_rfl) (by kernel_rfl) (by kernel_rfl) (e:=Extern.AbiNoEscape.same) (by kernel_rfl)];rw [Lib.run_noEscape];simp only [Result.andThen];rw [Oper.upon_value]
 go_wp2
 rw [Lib.run_from_unsafe w ⟨b,0,none⟩ Tryz.underlying187 Tryz.underlying109 hj hsh (by kernel_rfl)];simp only [Result.andThen];rw [Oper.upon_value]
 go_wp2
 go_end0
 exact ⟨rfl,rfl⟩
theorem nP (B b:Nat) (bs:List Value) (w:World) (hI:Lib.IsBuilderF 112 5 B b bs w):
  Calls Tryz.prog 93 #[.pointer (some ⟨b,0,none⟩)] w fun e w'=>e=.returned (.tuple #[])∧(Lib.BuilderAtF 112 5 B b (.pointer (some ⟨b,0,none⟩)) bs w'∧Below B w w'∧Lib.OthersKept 5 (some b) w w'):=by
 rcases hI with hI|hI
 ·refine (ph b w hI.cell0 hI.shape hI.frozen0).mono ?_;rintro e w' ⟨rfl,rfl⟩;exact ⟨rfl,hI.used _,(Below.refl B w).setCell (p:=⟨b,0,none⟩) hI.1 _,(Lib.OthersKept.refl _ _ w).setCell ⟨b,0,none⟩ rfl _⟩
 ·refine (pO b w hI.cell0).mono ?_;rintro e w' ⟨rfl,rfl⟩;exact ⟨rfl,hI,Below.refl B _,Lib.OthersKept.refl _ _ _⟩
theorem fq (B b:Nat) (bs:List Value) (c:Int) (w:World) (hI:Lib.IsBuilderF 112 5 B b bs w) (hlen:bs.length+1 <= 140737488355328) (hBw:B <= w.heap.size):
  Calls Tryz.prog 52 #[.pointer (some ⟨b,0,none⟩),.int .u8 c] w fun e w'=>e=.returned .nilIface∧(Lib.BuilderAtF 112 5 B b (.pointer (some ⟨b,0,none⟩)) (bs++[.int .u8 c]) w'∧Below B w w'∧Lib.OthersKept 5 (some b) w w'):=by
 obtain ⟨i0,hi,hz0,hz1,hz2⟩:=info_parts Tryz.infoByte;go_enter Tryz.func52,Tryz.ntmps52
 go_wp2_with fail;refine (nP B b bs _ hI).mono ?_;rintro e w1 ⟨rfl,h1,hb1,hk1⟩;obtain ⟨hB,v,hbk,hown,hne⟩:=h1;have c0:w1.cell? ⟨b,0,none⟩=some (.pointer (some ⟨b,0,none⟩)):=(by rw [Lib.cell_of_heap hbk];rfl);have c1:w1.cell? ⟨b,1,none⟩=some v:=(by rw [Lib.cell_of_heap hbk];rfl);go_wp2_with (at_builtin;refine wpList_append_ownF _ rfl _ _ 110 rfl B 5 i0 (.int .u8 0) 1 1 Tryz.underlying110 hi hz0 hz1 hz2 rfl (by decide) _ _ _ rfl (hown.alloc _) ⟨w1.heap.size,0,none⟩ 1 1 [.int .u8 c] rfl rfl ?c1 ?c2 ?c3 ?c4 ?c5 ?_)
 case c1=>
  intro j u hj
  match j,hj with
  |0,hj=>simp at hj;subst hj;simp [Addr.add]
 case c2=>intro u hu;simp at hu;subst hu;rfl
 case c3=>unfold maxLen;omega
 case c4=>omega
 case c5=>have:=hb1.size;simp;omega
 intro v' w2 hown' hgrow _;have hlt:b<w1.heap.size:=lt_of_block hbk;have hb2:w2.heap[b]? =some (.cells #[.pointer (some ⟨b,0,none⟩),v] 112 (0,0)):=by
  rw [hgrow.block b (by simp;omega) (fun e=>hne e.symm),Lib.alloc_old w1 _ b hlt];exact hbk
 have d0:w2.cell? ⟨b,0,none⟩=some (.pointer (some ⟨b,0,none⟩)):=(by rw [Lib.cell_of_heap hb2];rfl);have d1:w2.cell? ⟨b,1,none⟩=some v:=(by rw [Lib.cell_of_heap hb2];rfl);have f1:w2.frozen? ⟨b,1,none⟩=false:=Lib.frozen_of_heap hb2 1;obtain ⟨g,cap,rfl⟩:∃g cap,v'=.slice (some ⟨g,0,none⟩) (bs.length+1) cap:=by
  rcases hown'.2 with ⟨_,h0⟩|⟨g,cap,cur,fz,hv,_⟩
  ·omega
  ·exact ⟨g,cap,hv⟩
 go_wp2
 go_ret;refine ⟨rfl,?_,?_,((hk1.alloc _).grown hgrow (Lib.ownsRowF_kind (hown.alloc _))).setCell ⟨b,1,none⟩ rfl _⟩
 ·exact Lib.BuilderAtF.put (T:=112) (e:=5) hB hb2 (bs':=bs++[.int .u8 c]) (by simpa using hown') (by decide)
 ·exact ((hb1.alloc (by have:=hb1.size;omega) _).grown hgrow (by have:=hb1.size;simp;omega) (fun k hk=>(hown.lt k hk).1)).setCell (p:=⟨b,1,none⟩) hB _
theorem dH (B b:Nat) (bs:List Value) (s:ByteArray) (w:World) (hI:Lib.IsBuilderF 112 5 B b bs w) (hlen:bs.length+s.size <= 140737488355328) (hBw:B <= w.heap.size):
  Calls Tryz.prog 51 #[.pointer (some ⟨b,0,none⟩),.string s] w fun e w'=>e=.returned (.tuple #[.int .i64 s.size,.nilIface])∧(Lib.BuilderAtF 112 5 B b (.pointer (some ⟨b,0,none⟩)) (bs++Lib.strCells s) w'∧Below B w w'∧Lib.OthersKept 5 (some b) w w'):=by
 obtain ⟨i0,hi,hz0,hz1,hz2⟩:=info_parts Tryz.infoByte;go_enter Tryz.func51,Tryz.ntmps51
 go_wp2_with fail;refine (nP B b bs _ hI).mono ?_;rintro e w1 ⟨rfl,h1,hb1,hk1⟩;obtain ⟨hB,v,hbk,hown,hne⟩:=h1;have c0:w1.cell? ⟨b,0,none⟩=some (.pointer (some ⟨b,0,none⟩)):=(by rw [Lib.cell_of_heap hbk];rfl);have c1:w1.cell? ⟨b,1,none⟩=some v:=(by rw [Lib.cell_of_heap hbk];rfl);go_wp2_with (at_builtin;refine Lib.wpList_append_own_stringF _ rfl _ _ 110 9 rfl B 5 i0 Tryz.underlying110 Tryz.underlying9 hi hz0 hz1 hz2 _ _ _ rfl hown s rfl ?c3 ?c4 ?c5 ?_);case c3=>unfold maxLen;omega
 case c4=>omega
 case c5=>have:=hb1.size;omega
 intro v' w2 hown' hgrow _;have hlt:b<w1.heap.size:=lt_of_block hbk;have hb2:w2.heap[b]? =some (.cells #[.pointer (some ⟨b,0,none⟩),v] 112 (0,0)):=by
  rw [hgrow.block b hlt (fun e=>hne e.symm)];exact hbk
 have d0:w2.cell? ⟨b,0,none⟩=some (.pointer (some ⟨b,0,none⟩)):=(by rw [Lib.cell_of_heap hb2];rfl);have d1:w2.cell? ⟨b,1,none⟩=some v:=(by rw [Lib.cell_of_heap hb2];rfl);have f1:w2.frozen? ⟨b,1,none⟩=false:=Lib.frozen_of_heap hb2 1;obtain ⟨ao,n',cap,rfl⟩:∃ao n' cap,v'=.slice ao n' cap:=by
  rcases hown'.2 with ⟨hv,_⟩|⟨g,cap,cur,fz,hv,_⟩
  ·exact ⟨_,_,_,hv⟩
  ·exact ⟨_,_,_,hv⟩
 go_wp2
 go_ret2
 refine ⟨rfl,?_,?_,(hk1.grown hgrow (Lib.ownsRowF_kind hown)).setCell ⟨b,1,none⟩ rfl _⟩
 ·exact Lib.BuilderAtF.put (T:=112) (e:=5) hB hb2 (bs':=bs++Lib.strCells s) (by simpa [Lib.strCells_length]using hown') (by decide)
 ·exact (hb1.grown hgrow (by have:=hb1.size;omega) (fun k hk=>(hown.lt k hk).1)).setCell (p:=⟨b,1,none⟩) hB _
theorem mD (B b:Nat) (bs:List Value) (r:Int) (hr0: -2147483648 <= r) (hr1:r <= 2147483647) (w:World) (hI:Lib.IsBuilderF 112 5 B b bs w) (hlen:bs.length+4 <= 140737488355328) (hBw:B <= w.heap.size):
  Calls Tryz.prog 53 #[.pointer (some ⟨b,0,none⟩),.int .i32 r] w fun e w'=>e=.returned (.tuple #[.int .i64 (Lib.runeCells r).length,.nilIface])∧(Lib.BuilderAtF 112 5 B b (.pointer (some ⟨b,0,none⟩)) (bs++Lib.runeCells r) w'∧Below B w w'∧Lib.OthersKept 5 (some b) w w'):=by
 have hk4:=Lib.runeCells_le r;go_enter Tryz.func53,Tryz.ntmps53
 go_wp2_with fail;refine (nP B b bs _ hI).mono ?_;rintro e w1 ⟨rfl,h1,hb1,hk1⟩;obtain ⟨hB,v,hbk,hown,hne⟩:=h1;obtain ⟨ao,cap,rfl⟩:∃ao cap,v=.slice ao bs.length cap:=by
  rcases hown.2 with ⟨hv,h0⟩|⟨g,cap,cur,fz,hv,_⟩
  ·exact ⟨none,0,by rw [hv,h0]⟩
  ·exact ⟨_,_,hv⟩
 have c0:w1.cell? ⟨b,0,none⟩=some (.pointer (some ⟨b,0,none⟩)):=(by rw [Lib.cell_of_heap hbk];rfl);have c1:w1.cell? ⟨b,1,none⟩=some (.slice ao bs.length cap):=(by rw [Lib.cell_of_heap hbk];rfl);go_wp2_with fail;refine (Tryz.utf8_AppendRune_row B _ bs.length bs r hr0 hr1 _ hown hlen (by have:=hb1.size;omega)).mono ?_;rintro e w2 ⟨v',rfl,hown',o,hgrow⟩;have hlt:b<w1.heap.size:=lt_of_block hbk;have hb2:w2.heap[b]? =some (.cells #[.pointer (some ⟨b,0,none⟩),.slice ao bs.length cap] 112 (0,0)):=by
  rw [hgrow.block b (by simp;omega) (fun e=>hne e.symm),Lib.alloc_old w1 _ b hlt];exact hbk
 have d0:w2.cell? ⟨b,0,none⟩=some (.pointer (some ⟨b,0,none⟩)):=(by rw [Lib.cell_of_heap hb2];rfl);have d1:w2.cell? ⟨b,1,none⟩=some (.slice ao bs.length cap):=(by rw [Lib.cell_of_heap hb2];rfl);have f1:w2.frozen? ⟨b,1,none⟩=false:=Lib.frozen_of_heap hb2 1;obtain ⟨g,cap',rfl⟩:∃g cap',v'=.slice (some ⟨g,0,none⟩) (bs.length+(Lib.runeCells r).length) cap':=by
  rcases hown'.2 with ⟨_,h0⟩|⟨g,cap',cur,fz,hv,_⟩
  ·omega
  ·exact ⟨g,cap',hv⟩
 go_wp2
 go_ret2
 refine ⟨?_,?_,?_,((hk1.alloc _).grown hgrow (Lib.ownsRowF_kind (hown.alloc _))).setCell ⟨b,1,none⟩ rfl _⟩
 ·have e:((bs.length:Int)+((Lib.runeCells r).length:Int) - (bs.length:Int))=((Lib.runeCells r).length:Int):=(by omega);simp [e]
 ·exact Lib.BuilderAtF.put (T:=112) (e:=5) hB hb2 (bs':=bs++Lib.runeCells r) (by simpa using hown') (by decide)
 ·exact ((hb1.alloc (by have:=hb1.size;omega) _).grown hgrow (by have:=hb1.size;simp;omega) (fun k hk=>(hown.lt k hk).1)).setCell (p:=⟨b,1,none⟩) hB _
theorem xF (f:Nat) (d:UInt8) (l:List UInt8) (h:lO d=true):cC (f+1) (92::d::l)=d::cC f l:=by
 conv=>lhs;unfold cC
 rw [if_pos ⟨rfl,by simp [h]⟩];rfl
theorem o7 (f:Nat) (l:List UInt8) (h:∀d r,l=d::r ->lO d=false):cC (f+1) (92::l)=92::cC f l:=by
 conv=>lhs;unfold cC
 rw [if_neg,gS _ _ (by decide),if_neg (by simp)];rintro ⟨_,h2⟩;cases l with
 |nil=>simp at h2
 |cons d r=>simp [h d r rfl]at h2
theorem Av (f:Nat) (c:UInt8) (l:List UInt8) (hc:c≠92) (h:0<(cH (c::l)).2):cC (f+1) (c::l)=(cH (c::l)).1++cC f ((c::l).drop (cH (c::l)).2):=by
 conv=>lhs;unfold cC
 rw [if_neg (fun h=>hc h.1),if_pos h]
theorem xE (f:Nat) (c:UInt8) (l:List UInt8) (hc:c≠92) (h:¬0<(cH (c::l)).2):cC (f+1) (c::l)=c::cC f l:=by
 conv=>lhs;unfold cC
 rw [if_neg (fun h=>hc h.1),if_neg h]
theorem Au (f:Nat):cC f []=[]:=by cases f<;>rfl
def ox (s:ByteArray) (w:World) (i:Nat) (wr:World):Prop:=∃(f:Nat) (acc:List UInt8),Lib.IsBuilderF 112 5 w.heap.size w.heap.size (Lib.byteCells acc) wr∧Below w.heap.size w wr∧acc++cC f (s.data.toList.drop i)=gK s.data.toList∧s.size <= i+f∧acc.length <= 4*i
theorem ox.step {s:ByteArray} {w wr w1:World} {i f n:Nat} {acc x:List UInt8} (hB:Below w.heap.size w wr) (hacc:acc++cC (f+1) (s.data.toList.drop i)=gK s.data.toList) (hf:s.size <= i+(f+1)) (hl:acc.length <= 4*i)
  (hu:cC (f+1) (s.data.toList.drop i)=x++cC f (s.data.toList.drop (i+n))) (hn:1 <= n) (hx:x.length <= 4)
  (hI:Lib.IsBuilderF 112 5 w.heap.size w.heap.size (Lib.byteCells (acc++x)) w1) (hb1:Below w.heap.size w w1):ox s w (i+n) w1:=
 ⟨f,acc++x,hI,hb1,by rw [List.append_assoc,<- hu];exact hacc,by omega,by simp only [List.length_append];omega⟩
theorem iR (s:ByteArray) (w:World) (hE:lx w) (hz:s.size <= 1000000000):
  Calls Tryz.prog 201 #[.string s] w fun e w'=>e=.returned (.string ⟨(gK s.data.toList).toArray⟩)∧Below w.heap.size w w':=by
 have HE:=zh hE;clear hE;go_enter Tryz.func201,Tryz.ntmps201
 go_wp2_with fail;go_loopw [4] (fun u4 wr=>∃i:Nat,i <= 3000000000∧u4=.int .i64 i∧ox s w i wr) (fun u4 _=>s.size - (intOf u4).toNat)
 case atStart=>exact ⟨0,by omega,rfl,s.size,[],Lib.IsBuilderF.of (Lib.fresh_isBuilder 112 5 w),(Below.refl _ _).alloc (Nat.le_refl _) _,by unfold gK;rw [<- Lib.size_eq];rfl,by omega,by simp⟩
 case round=>
  obtain ⟨i,hi9,rfl,f,acc,hI,hB,hacc,hf,hal⟩:=hrel;by_cases hlt:i<s.size
  ·obtain ⟨f,rfl⟩:∃g,f=g+1:=⟨f - 1,by omega⟩
   have hda:=cZ s i hlt;obtain ⟨c,hc⟩:∃c,s[i]=c:=⟨_,rfl⟩
   rw [hc]at hda;obtain ⟨S,hS⟩:∃S:ByteArray,s.extract i s.size=S:=⟨_,rfl⟩
   have hSl:S.data.toList=s.data.toList.drop i:=(by rw [<- hS,Lib.extract_to_end]);have hSz:S.size <= 1000000000:=(by rw [Lib.size_eq,hSl];simp;omega);have hat:=D4 S wr (HE.out.below hB) hSz;have hes:=wC (s.data.toList.drop i);rw [hSl]at hat;obtain ⟨p,hp⟩:∃p,cH (s.data.toList.drop i)=p:=⟨_,rfl⟩
   rw [hp]at hat hes;have hdl:(s.data.toList.drop i).length <= 1000000000:=(by simp;omega);obtain ⟨he1,he2⟩:=hes;have hp2:p.2 <= 1000000011:=(by omega);have HAT:=zh hat;have HP:=zh hp;have HD:=zh hda;have HACC:=zh hacc;clear hat hp hda hacc hSl he2 hdl;have hbl:(Lib.byteCells acc).length <= 12000000000:=(by rw [Lib.byteCells_length];omega);by_cases c1:c.toNat=92
   ·have hc92:c=92:=UInt8.toNat.inj (by simpa using c1);have ht:((c.toNat:Int)==92)=true:=(by simp;omega);have hp0:p.2=0:=(by have:=HP.out;rw [HD.out,hc92,gS _ _ (by decide)]at this;rw [<- this]);have HC:=zh hc92;clear c1 hc92;have hp0':¬(0:Int)<(p.2:Int):=(by omega);by_cases c2:i+1<s.size
    ·have hdb:=cZ s (i+1) c2;obtain ⟨d,hd⟩:∃d,s[i+1]=d:=⟨_,rfl⟩
     rw [hd]at hdb;have HDB:=zh hdb;clear hdb;have hI64:IntKind.i64.wrap ((i:Int)+1)=((i+1:Nat):Int):=(by rw [wrap_small _ (by omega) (by omega)];omega);have hlt1:((i+1:Nat):Int)<(s.size:Int):=(by omega);cases hsd:lO d
     ·have hu:cC (f+1) (s.data.toList.drop i)=[c]++cC f (s.data.toList.drop (i+1)):=by
       rw [HD.out,HC.out,o7 _ _ (fun d' r' h=>by rw [HDB.out]at h;cases h;exact hsd)];rfl
      have HU:=zh hu;have HSD:=zh hsd;clear hu hsd;go_wp2_with fail;refine (HAT.out).mono ?_;rintro e w1 ⟨rfl,hb1⟩;have hI1:=aU hI hb1;have hB1:=aa hB hb1;go_wp2_with fail;refine (rr d _).mono ?_;rintro e w2 ⟨rfl,hb2⟩;have hI2:=aU hI1 hb2;have hB2:=aa hB1 hb2;rw [HSD.out];go_wp2_with fail;refine (fq w.heap.size w.heap.size _ _ _ hI2 (by omega) hB2.size).mono ?_;rintro e w3 ⟨rfl,h3,hb3,k3⟩;have hB3:=hB2.trans hb3;go_wp2_with fail;go_roundw;case rel=>exact ⟨i+1,by omega,by go_num,ox.step (n:=1) hB HACC.out hf hal HU.out (by omega) (by simp) (by rw [Lib.byteCells_append];exact Or.inr h3) hB3⟩
      case measure=>simp [intOf];omega
     ·have hu:cC (f+1) (s.data.toList.drop i)=[d]++cC f (s.data.toList.drop (i+2)):=by
       rw [HD.out,HC.out,HDB.out,xF _ _ _ hsd];rfl
      have HU:=zh hu;have HSD:=zh hsd;clear hu hsd;go_wp2_with fail;refine (HAT.out).mono ?_;rintro e w1 ⟨rfl,hb1⟩;have hI1:=aU hI hb1;have hB1:=aa hB hb1;go_wp2_with fail;refine (rr d _).mono ?_;rintro e w2 ⟨rfl,hb2⟩;have hI2:=aU hI1 hb2;have hB2:=aa hB1 hb2;rw [HSD.out];go_wp2_with fail;refine (fq w.heap.size w.heap.size _ _ _ hI2 (by omega) hB2.size).mono ?_;rintro e w3 ⟨rfl,h3,hb3,k3⟩;have hB3:=hB2.trans hb3;go_wp2_with fail;go_roundw;case rel=>exact ⟨i+2,by omega,by go_num,ox.step (n:=2) hB HACC.out hf hal HU.out (by omega) (by simp) (by rw [Lib.byteCells_append];exact Or.inr h3) hB3⟩
      case measure=>simp [intOf];omega
    ·have hu:cC (f+1) (s.data.toList.drop i)=[c]++cC f (s.data.toList.drop (i+1)):=by
      rw [HD.out,HC.out,o7 _ _ (fun d' r' h=>by rw [ee s (i+1) (by omega)]at h;cases h)];rfl
     have HU:=zh hu;clear hu;have hlt1:¬(i:Int)+1<(s.size:Int):=(by omega);go_wp2_with fail;refine (HAT.out).mono ?_;rintro e w1 ⟨rfl,hb1⟩;have hI1:=aU hI hb1;have hB1:=aa hB hb1;go_wp2_with fail;refine (fq w.heap.size w.heap.size _ _ _ hI1 (by omega) hB1.size).mono ?_;rintro e w3 ⟨rfl,h3,hb3,k3⟩;have hB3:=hB1.trans hb3;go_wp2_with fail;go_roundw;case rel=>exact ⟨i+1,by omega,by go_num,ox.step (n:=1) hB HACC.out hf hal HU.out (by omega) (by simp) (by rw [Lib.byteCells_append];exact Or.inr h3) hB3⟩
     case measure=>simp [intOf];omega
   ·have ht:((c.toNat:Int)==92)=false:=(by simp;omega);have hc92:c≠92:=fun e=>c1 (by rw [e];rfl);clear c1;by_cases hp0:0<p.2
    ·have hu:cC (f+1) (s.data.toList.drop i)=p.1++cC f (s.data.toList.drop (i+p.2)):=by
      rw [HD.out,Av _ _ _ hc92 (by rw [<- HD.out,HP.out];exact hp0),<- HD.out,HP.out,List.drop_drop]
     have HU:=zh hu;have HC:=zh hc92;clear hu hc92;have hp0':(0:Int)<(p.2:Int):=(by omega);have hsz:(ByteArray.mk p.1.toArray).size <= 4:=(by rw [Lib.size_eq];exact he1);go_wp2_with fail;refine (HAT.out).mono ?_;rintro e w1 ⟨rfl,hb1⟩;have hI1:=aU hI hb1;have hB1:=aa hB hb1;go_wp2_with fail;refine (dH w.heap.size w.heap.size _ _ _ hI1 (by omega) hB1.size).mono ?_;rintro e w3 ⟨rfl,h3,hb3,k3⟩;have hB3:=hB1.trans hb3;go_wp2_with fail;go_roundw;case rel=>exact ⟨i+p.2,by omega,by go_num,ox.step (n:=p.2) hB HACC.out hf hal HU.out (by omega) he1 (by rw [Lib.byteCells_append];exact Or.inr h3) hB3⟩
     case measure=>simp [intOf];omega
    ·have hu:cC (f+1) (s.data.toList.drop i)=[c]++cC f (s.data.toList.drop (i+1)):=by
      rw [HD.out,xE _ _ _ hc92 (by rw [<- HD.out,HP.out];exact hp0)];rfl
     have HU:=zh hu;have HC:=zh hc92;clear hu hc92;have hp0':¬(0:Int)<(p.2:Int):=(by omega);go_wp2_with fail;refine (HAT.out).mono ?_;rintro e w1 ⟨rfl,hb1⟩;have hI1:=aU hI hb1;have hB1:=aa hB hb1;go_wp2_with fail;refine (fq w.heap.size w.heap.size _ _ _ hI1 (by omega) hB1.size).mono ?_;rintro e w3 ⟨rfl,h3,hb3,k3⟩;have hB3:=hB1.trans hb3;go_wp2_with fail;go_roundw;case rel=>exact ⟨i+1,by omega,by go_num,ox.step (n:=1) hB HACC.out hf hal HU.out (by omega) (by simp) (by rw [Lib.byteCells_append];exact Or.inr h3) hB3⟩
     case measure=>simp [intOf];omega
  ·rw [ee s i (by omega),Au,List.append_nil]at hacc;subst hacc;go_wp2_with fail;refine (Tryz.Builder_String_any_k w.heap.size w.heap.size _ wr hI hB.size).mono ?_;rintro e w2 ⟨rfl,_,hb2,_⟩;go_wp2_with fail;go_ret;exact ⟨rfl,hB.trans hb2⟩
end Go.Proofs.YtcannffahjbjnaaGreatDoor
