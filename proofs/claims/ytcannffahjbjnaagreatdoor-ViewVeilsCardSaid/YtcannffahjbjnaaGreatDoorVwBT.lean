import Derived.Lib.IndexLaws
import Derived.Test.YtcannffahjbjnaaGreatDoorVwBO
set_option linter.unusedVariables false
set_option linter.unusedSimpArgs false
set_option maxRecDepth 100000
set_option maxHeartbeats 64000000
namespace Go.Proofs.YtcannffahjbjnaaGreatDoor
open Go.RowKit
theorem kZ (a b:UInt8) (l:List UInt8) (j:Nat):Lib.occAt l [a,b] j=(decide (l[j]? =some a)&&decide (l[j+1]? =some b)):=by
 unfold Lib.occAt;have h0:l[j]? =(l.drop j)[0]? :=(by rw [List.getElem?_drop];rfl);have h1:l[j+1]? =(l.drop j)[1]? :=(by rw [List.getElem?_drop]);rw [h0,h1];cases l.drop j with
 |nil=>rfl
 |cons x t=>
  cases t with
  |nil=>simp [List.isPrefixOf]
  |cons y t=>
   simp only [List.isPrefixOf,List.getElem?_cons_zero,List.getElem?_cons_succ,Option.some.injEq,Bool.and_true];rw [Bool.eq_iff_iff,Bool.and_eq_true,Bool.and_eq_true,beq_iff_eq,beq_iff_eq,decide_eq_true_eq,decide_eq_true_eq];exact ⟨fun h=>⟨h.1.symm,h.2.symm⟩,fun h=>⟨h.1.symm,h.2.symm⟩⟩
theorem kn (a b c:UInt8) (t:List UInt8):Lib.occAt (c::t) [a,b] 0=true↔c=a∧t.head? =some b:=by
 unfold Lib.occAt;rw [List.drop_zero];cases t with
 |nil=>simp [List.isPrefixOf]
 |cons d t=>
  simp only [List.isPrefixOf,List.head?_cons,Option.some.injEq,Bool.and_true,Bool.and_eq_true,beq_iff_eq];exact ⟨fun h=>⟨h.1.symm,h.2.symm⟩,fun h=>⟨h.1.symm,h.2.symm⟩⟩
theorem uL {a b c:UInt8} {t:List UInt8} (h:¬(c=a∧t.head? =some b)):Lib.occAt (c::t) [a,b] 0=false:=by
 rw [<- Bool.not_eq_true,kn];exact h
theorem me (a b:UInt8):∀(l:List UInt8),ev a b l=none ->∀j,Lib.occAt l [a,b] j=false
 |[],_,j=>by rw [kZ];simp
 |c::t,h,j=>by
  rw [ev]at h;cases ht:ev a b t with
  |some k=>rw [ht]at h;cases h
  |none=>
   rw [ht]at h;simp only at h;split at h
   ·cases h
   ·rename_i hc;have ih:=me a b t ht;cases j with
    |zero=>exact uL hc
    |succ j=>
     have:=ih j;rw [kZ]at this⊢;simpa using this
theorem jh (a b:UInt8):∀(l:List UInt8) (k:Nat),ev a b l=some k ->Lib.occAt l [a,b] k=true∧∀j,k<j ->Lib.occAt l [a,b] j=false
 |[],k,h=>by simp [ev]at h
 |c::t,k,h=>by
  rw [ev]at h;cases ht:ev a b t with
  |some q=>
   rw [ht]at h;simp only [Option.some.injEq]at h;subst h;obtain ⟨h1,h2⟩:=jh a b t q ht;refine ⟨by rw [kZ]at h1⊢;simpa using h1,fun j hj=>?_⟩;obtain ⟨j,rfl⟩:∃i,j=i+1:=⟨j - 1,by omega⟩
   have:=h2 j (by omega);rw [kZ]at this⊢;simpa using this
  |none=>
   rw [ht]at h;simp only at h;split at h
   ·rename_i hc;simp only [Option.some.injEq]at h;subst h;refine ⟨?_,fun j hj=>?_⟩
    ·exact (kn a b c t).2 hc
    ·obtain ⟨j,rfl⟩:∃i,j=i+1:=⟨j - 1,by omega⟩
     have:=me a b t ht j;rw [kZ]at this⊢;simpa using this
   ·cases h
theorem ti {a b:UInt8} {l:List UInt8} {j:Nat} (h:Lib.occAt l [a,b] j=true):j+2 <= l.length:=by
 rw [kZ,Bool.and_eq_true,decide_eq_true_eq,decide_eq_true_eq]at h;have:=(List.getElem?_eq_some_iff.1 h.2).1;omega
theorem rg (a b:UInt8) (l:List UInt8):Lib.lastIndex l [a,b]=match ev a b l with
  |none=> -1
  |some k=>(k:Int):=by
 unfold Lib.lastIndex;by_cases hl:([a,b]:List UInt8).length <= l.length
 ·rw [if_pos hl];have hs:=Lib.lastOcc_spec l [a,b] (l.length - ([a,b]:List UInt8).length+1);cases h:ev a b l with
  |none=>
   have hn:=me a b l h;rcases hs with ⟨e,_⟩|⟨i,_,_,ho,_⟩
   ·exact e
   ·rw [hn i]at ho;cases ho
  |some k=>
   obtain ⟨h1,h2⟩:=jh a b l k h;have hk:=ti h1;rcases hs with ⟨_,hn⟩|⟨i,hi,e,ho,hn⟩
   ·have:=hn k (by simp only [List.length_cons,List.length_nil];omega);rw [h1]at this;cases this
   ·rw [e];have hik:i=k:=by
     rcases Nat.lt_trichotomy i k with hlt|heq|hgt
     ·have:=hn k hlt (by simp only [List.length_cons,List.length_nil];omega);rw [h1]at this;cases this
     ·exact heq
     ·have:=h2 i hgt;rw [ho]at this;cases this
    rw [hik]
 ·rw [if_neg hl];cases h:ev a b l with
  |none=>rfl
  |some k=>
   have:=ti (jh a b l k h).1;simp at hl;omega
theorem rA (a b:UInt8):∀(l:List UInt8),eR a b l=none ->Lib.index l [a,b]= -1
 |[],_=>rfl
 |c::t,h=>by
  rw [eR]at h;split at h
  ·cases h
  ·rename_i hc;have ht:eR a b t=none:=(by simpa using h);have ih:=rA a b t ht;rw [Lib.index,if_neg,ih]
   ·rfl
   ·intro hp;exact hc ((kn a b c t).1 hp)
theorem kK (a b:UInt8):∀(l x:List UInt8),eR a b l=some x ->Lib.index l [a,b]=(x.length:Int)∧l.take x.length=x∧x.length+2 <= l.length
 |[],x,h=>by simp [eR]at h
 |c::t,x,h=>by
  rw [eR]at h;split at h
  ·rename_i hc;obtain rfl:=Option.some.inj h;have h0:Lib.occAt (c::t) [a,b] 0=true:=(kn a b c t).2 hc;have h1:=ti h0;refine ⟨?_,rfl,by simpa using h1⟩;rw [Lib.index,if_pos]
   ·rfl
   ·exact h0
  ·rename_i hc;obtain ⟨y,hy,rfl⟩:=Option.map_eq_some_iff.1 h;obtain ⟨h1,h2,h3⟩:=kK a b t y hy;refine ⟨?_,?_,by simp only [List.length_cons];omega⟩
   ·rw [Lib.index,if_neg,h1,if_neg]
    ·simp
    ·simp only [beq_iff_eq];omega
    ·intro hp;exact hc ((kn a b c t).1 hp)
   ·rw [List.length_cons,List.take_succ_cons,h2]
theorem Db (a b:UInt8) (l:List UInt8):(match eR a b l with
  |none=>(Lib.cut l [a,b]).2.2=false
  |some x=>(Lib.cut l [a,b]).1=x∧(Lib.cut l [a,b]).2.2=true):=by
 cases h:eR a b l with
 |none=>
  simp only;unfold Lib.cut;rw [rA a b l h];rfl
 |some x=>
  simp only;obtain ⟨h1,h2,_⟩:=kK a b l x h;unfold Lib.cut;rw [h1,if_pos (by omega)];simp only [Int.toNat_natCast];exact ⟨h2,trivial⟩
def xM (w:World) (k:Nat) (u0 u1 u2:Value):Prop:=
 w.cell? ⟨k,0,none⟩=some u0∧w.cell? ⟨k,1,none⟩=some u1∧w.cell? ⟨k,2,none⟩=some u2∧w.frozen? ⟨k,0,none⟩=false∧w.frozen? ⟨k,1,none⟩=false∧w.frozen? ⟨k,2,none⟩=false
theorem xM.below {w w':World} {k n:Nat} {u0 u1 u2:Value} (h:xM w k u0 u1 u2) (hb:Below n w w') (hk:k<n):xM w' k u0 u1 u2:=by
 obtain ⟨c0,c1,c2,f0,f1,f2⟩:=h;exact ⟨(hb.cell (p:=⟨k,0,none⟩) hk).trans c0,(hb.cell (p:=⟨k,1,none⟩) hk).trans c1,(hb.cell (p:=⟨k,2,none⟩) hk).trans c2,(hb.frozen (p:=⟨k,0,none⟩) hk).trans f0,(hb.frozen (p:=⟨k,1,none⟩) hk).trans f1,(hb.frozen (p:=⟨k,2,none⟩) hk).trans f2⟩
theorem DH (w:World):xM (w.alloc (.cells #[.bool false,.string ⟨#[]⟩,.string ⟨#[]⟩] 138)) w.heap.size (.bool false) (.string ⟨#[]⟩) (.string ⟨#[]⟩):=by
 have hb:(w.alloc (.cells #[.bool false,.string ⟨#[]⟩,.string ⟨#[]⟩] 138)).heap[w.heap.size]? =some (.cells #[.bool false,.string ⟨#[]⟩,.string ⟨#[]⟩] 138 (0,0)):=heap_alloc_new w _;exact ⟨by rw [Lib.cell_of_heap hb];rfl,by rw [Lib.cell_of_heap hb];rfl,by rw [Lib.cell_of_heap hb];rfl,Lib.frozen_of_heap hb 0,Lib.frozen_of_heap hb 1,Lib.frozen_of_heap hb 2⟩
theorem iD {B:Nat} {w W:World} {k:Nat} {u0 u1 u2:Value} (h:Below B w W) (hk:B <= k):Below B w (((W.setCell ⟨k,0,none⟩ u0).setCell ⟨k,1,none⟩ u1).setCell ⟨k,2,none⟩ u2):=
 ((h.setCell (p:=⟨k,0,none⟩) hk u0).setCell (p:=⟨k,1,none⟩) hk u1).setCell (p:=⟨k,2,none⟩) hk u2
def yq (p:ai):Value:=.agg #[.bool p.span,.string ⟨p.label.toArray⟩,.string ⟨p.text.toArray⟩]
theorem CC (s:ByteArray) (w:World) (hE:lx w) (hs:s.size <= 1000000000):
  Calls Tryz.prog 107 #[.string s] w fun e w'=>e=.returned (.tuple #[yq (al s.data.toList).1,.int .i64 (al s.data.toList).2])∧Below w.heap.size w w':=by
 have hp:=fun W=>Tryz.strings_CutPrefix s ⟨#[123,124]⟩ W;rw [show (ByteArray.mk #[123,124]).data.toList=[123,124]from rfl]at hp;obtain ⟨P,hP⟩:∃P,Lib.hasPrefix s.data.toList [123,124]=P:=⟨_,rfl⟩
 obtain ⟨R,hR⟩:∃R:ByteArray,(⟨(Lib.trimPrefix s.data.toList [123,124]).toArray⟩:ByteArray)=R:=⟨_,rfl⟩
 have hRl:Lib.trimPrefix s.data.toList [123,124]=R.data.toList:=(by rw [<- hR]);have hRz:R.size <= s.size:=by
  rw [Lib.size_eq,Lib.size_eq,<- hRl];unfold Lib.trimPrefix;split
  ·simp
  ·exact Nat.le_refl _
 rw [hP,hR]at hp
 have hv:al s.data.toList=if P=false then (⟨false,[],[]⟩,0)else if (az 58 R.data.toList).2.2=false∨bh (az 58 R.data.toList).1=false then (⟨false,[],[]⟩,0)else match eR 124 125 (az 58 R.data.toList).2.1 with
   |none=>(⟨false,[],[]⟩,0)
   |some text=>(⟨true,(az 58 R.data.toList).1,text⟩,(az 58 R.data.toList).1.length+text.length+5):=by
  unfold al;simp only;rw [hP,hRl];rfl
 have hc:=fun W hW=>pq 58 R W hW (by omega);obtain ⟨A,hA⟩:∃A:ByteArray,(⟨(az 58 R.data.toList).1.toArray⟩:ByteArray)=A:=⟨_,rfl⟩
 obtain ⟨T,hT⟩:∃A:ByteArray,(⟨(az 58 R.data.toList).2.1.toArray⟩:ByteArray)=A:=⟨_,rfl⟩
 have hAl:(az 58 R.data.toList).1=A.data.toList:=(by rw [<- hA]);have hTl:(az 58 R.data.toList).2.1=T.data.toList:=(by rw [<- hT]);have hcl:=xZ 58 R.data.toList;rw [hAl,hTl,<- Lib.size_eq,<- Lib.size_eq,<- Lib.size_eq]at hcl;obtain ⟨C,hC⟩:∃C,(az 58 R.data.toList).2.2=C:=⟨_,rfl⟩
 rw [hA,hT,hC]at hc;rw [hAl,hTl,hC]at hv;have hla:=fun W=>kV A W (by omega);obtain ⟨B,hB⟩:∃B,bh A.data.toList=B:=⟨_,rfl⟩
 rw [hB]at hla hv;have hc2:∀W,lx W ->Calls Tryz.prog 126 #[.string T,.string ⟨#[124,125]⟩] W fun e w'=>e=.returned (.tuple #[.string ⟨(Lib.cut T.data.toList [124,125]).1.toArray⟩,.string ⟨(Lib.cut T.data.toList [124,125]).2.1.toArray⟩,.bool (Lib.cut T.data.toList [124,125]).2.2])∧Below W.heap.size W w':=fun W hW=>by
  obtain ⟨m,hm⟩:=hW.maxl;refine (Tryz.strings_Cut T ⟨#[124,125]⟩ m W (by omega) hm).mono ?_;rintro e w' ⟨rfl,n,rfl⟩;exact ⟨rfl,bN W n⟩
 have h2:=Db 124 125 T.data.toList;have hE1:=hE.below ((Below.refl w.heap.size w).alloc (Nat.le_refl _) (.cells #[.bool false,.string ⟨#[]⟩,.string ⟨#[]⟩] 138));have hB1:=(Below.refl w.heap.size w).alloc (Nat.le_refl _) (.cells #[.bool false,.string ⟨#[]⟩,.string ⟨#[]⟩] 138);have hP1:=DH w;have hz1:w.heap.size<(w.alloc (.cells #[.bool false,.string ⟨#[]⟩,.string ⟨#[]⟩] 138)).heap.size:=(by simp);obtain ⟨W1,hW1⟩:∃W1,w.alloc (.cells #[.bool false,.string ⟨#[]⟩,.string ⟨#[]⟩] 138)=W1:=⟨_,rfl⟩
 rw [hW1]at hE1 hB1 hP1 hz1;have HP:=zh hp;have HC:=zh hc;have HLA:=zh hla;have HC2:=zh hc2;have HV:=zh hv;have HE1:=zh hE1;have HB1:=zh hB1;have HP1:=zh hP1;have H2:=zh h2;clear hp hc hla hc2 hv hE1 hB1 hP1 h2 hE hP hR hRl hA hT hAl hTl hC hB;go_enter Tryz.func107,Tryz.ntmps107
 go_wp2_with fail;clear hW1;refine (HP.out _).mono ?_;rintro e w2 ⟨rfl,hw2⟩;obtain rfl:=hw2.symm;cases P
 ·obtain ⟨c0,c1,c2,f0,f1,f2⟩:=HP1.out;have HQ:=zh (show al s.data.toList=(⟨false,[],[]⟩,0) by rw [HV.out,if_pos rfl]);go_wp2_with fail;refine bodyPost_ret (v:=.tuple #[(.agg #[.bool false,.string ⟨#[]⟩,.string ⟨#[]⟩]),.int .i64 0]) (by simp [results,Tryz.results107,go_sem,c0,c1,c2,f0,f1,f2]) rfl ⟨(by rw [HQ.out];rfl),iD HB1.out (Nat.le_refl _)⟩
 ·go_wp2_with fail;refine (HC.out _ HE1.out).mono ?_;rintro e w3 ⟨rfl,b3⟩;have HB3:=zh (HB1.out.trans (b3.mono HB1.out.size));have HE3:=zh (HE1.out.below b3);have HP3:=zh (HP1.out.below b3 hz1);have hz3:w.heap.size<w3.heap.size:=Nat.lt_of_lt_of_le hz1 b3.size;clear b3;cases C
  ·obtain ⟨c0,c1,c2,f0,f1,f2⟩:=HP3.out;have HQ:=zh (show al s.data.toList=(⟨false,[],[]⟩,0) by rw [HV.out,if_neg (by simp),if_pos (Or.inl rfl)]);go_wp2_with fail;refine bodyPost_ret (v:=.tuple #[(.agg #[.bool false,.string ⟨#[]⟩,.string ⟨#[]⟩]),.int .i64 0]) (by simp [results,Tryz.results107,go_sem,c0,c1,c2,f0,f1,f2]) rfl ⟨(by rw [HQ.out];rfl),iD HB3.out (Nat.le_refl _)⟩
  ·go_wp2_with fail;refine (HLA.out _).mono ?_;rintro e w4 ⟨rfl,b4⟩;have HB4:=zh (HB3.out.trans (b4.mono HB3.out.size));have HE4:=zh (HE3.out.below b4);have HP4:=zh (HP3.out.below b4 hz3);have hz4:w.heap.size<w4.heap.size:=Nat.lt_of_lt_of_le hz3 b4.size;clear b4;cases B
   ·obtain ⟨c0,c1,c2,f0,f1,f2⟩:=HP4.out;have HQ:=zh (show al s.data.toList=(⟨false,[],[]⟩,0) by rw [HV.out,if_neg (by simp),if_pos (Or.inr rfl)]);go_wp2_with fail;refine bodyPost_ret (v:=.tuple #[(.agg #[.bool false,.string ⟨#[]⟩,.string ⟨#[]⟩]),.int .i64 0]) (by simp [results,Tryz.results107,go_sem,c0,c1,c2,f0,f1,f2]) rfl ⟨(by rw [HQ.out];rfl),iD HB4.out (Nat.le_refl _)⟩
   ·obtain ⟨X,hX⟩:∃X:ByteArray,(⟨(Lib.cut T.data.toList [124,125]).1.toArray⟩:ByteArray)=X:=⟨_,rfl⟩
    have hXl:(Lib.cut T.data.toList [124,125]).1=X.data.toList:=(by rw [<- hX]);obtain ⟨D,hD⟩:∃D,(Lib.cut T.data.toList [124,125]).2.2=D:=⟨_,rfl⟩
    have hc2:=HC2.out w4 HE4.out;rw [hX,hD]at hc2;have HC3:=zh hc2;have hXz:X.size <= T.size:=by
     rw [Lib.size_eq,Lib.size_eq,<- hXl];exact wl _ _
    clear hc2;go_wp2_with fail;refine HC3.out.mono ?_;rintro e w5 ⟨rfl,b5⟩;have HB5:=zh (HB4.out.trans (b5.mono HB4.out.size));have HP5:=zh (HP4.out.below b5 hz4);clear b5;obtain ⟨c0,c1,c2,f0,f1,f2⟩:=HP5.out;cases hq:eR 124 125 T.data.toList with
    |none=>
     have h2:=H2.out;rw [hq]at h2;simp only at h2;rw [hD]at h2;subst h2;have HQ:=zh (show al s.data.toList=(⟨false,[],[]⟩,0) by rw [HV.out,if_neg (by simp),if_neg (by simp),hq]);clear hq hX hXl hD;go_wp2_with fail;refine bodyPost_ret (v:=.tuple #[(.agg #[.bool false,.string ⟨#[]⟩,.string ⟨#[]⟩]),.int .i64 0]) (by simp [results,Tryz.results107,go_sem,c0,c1,c2,f0,f1,f2]) rfl ⟨(by rw [HQ.out];rfl),iD HB5.out (Nat.le_refl _)⟩
    |some x=>
     have h2:=H2.out;rw [hq]at h2;simp only at h2;rw [hXl,hD]at h2;obtain ⟨h2,h3⟩:=h2;subst h3;have HQ:=zh (show al s.data.toList=(⟨true,A.data.toList,X.data.toList⟩,A.size+X.size+5) by
      rw [HV.out,if_neg (by simp),if_neg (by simp),hq,<- h2];simp only [<- Lib.size_eq])
     clear hq hX hXl hD h2;go_wp2_with fail;refine bodyPost_ret (v:=.tuple #[(.agg #[.bool true,.string A,.string X]),.int .i64 (A.size+X.size+5:Nat)]) (by simp [results,Tryz.results107,go_sem,c0,c1,c2,f0,f1,f2]) rfl ⟨(by rw [HQ.out];rfl),iD HB5.out (Nat.le_refl _)⟩
end Go.Proofs.YtcannffahjbjnaaGreatDoor
namespace Go.Proofs.YtcannffahjbjnaaGreatDoor
theorem oU (p:UInt8 ->Bool) (x:List UInt8) (h:(x.getLast?.any p)=false):aD p x=x:=by
 unfold aD;cases hr:x.reverse with
 |nil=>have:=congrArg List.reverse hr;simp at this;subst this;rfl
 |cons c t=>
  have hx:x=t.reverse++[c]:=(by have:=congrArg List.reverse hr;simpa using this);rw [hx]at h;simp at h;rw [List.dropWhile_cons_of_neg (by simp [h]),<- hr,List.reverse_reverse]
theorem xq (p:UInt8 ->Bool) (x y:List UInt8) (hy:∀c∈y,p c=true):aD p (x++y)=aD p x:=by
 unfold aD;rw [List.reverse_append,List.dropWhile_append_of_pos (fun c hc=>hy c (List.mem_reverse.1 hc))]
theorem ve (p:UInt8 ->Bool) (c:UInt8) (x:List UInt8):aD p (c::x)=[]∨(aD p (c::x)).head? =some c:=by
 unfold aD;rw [List.reverse_cons,List.dropWhile_append];split
 ·by_cases hc:p c=true
  ·left;simp [hc]
  ·right;simp [hc]
 ·right;simp
theorem wY (s:List UInt8) (h:s.head? ≠some 58):(bf s).2=false:=by
 unfold bf bW;cases s with
 |nil=>rfl
 |cons c x=>
  have hc:c≠58:=(by simpa using h);have hp:Lib.hasPrefix (aD (fun x=>x==32) (c::x)) [58,58,58,123]=false:=by
   rcases ve (fun x=>x==32) c x with e|e
   ·rw [e];rfl
   ·obtain ⟨d,y,hy⟩:∃d y,aD (fun x=>x==32) (c::x)=d::y:=by
     cases hz:aD (fun x=>x==32) (c::x)with
     |nil=>rw [hz]at e;cases e
     |cons d y=>exact ⟨d,y,rfl⟩
    rw [hy]at e⊢;have:d=c:=(by simpa using e);subst this;have h58:((58:UInt8)==d)=false:=(by simpa using fun e=>hc e.symm);simp [Lib.hasPrefix,List.isPrefixOf,h58]
  simp only;rw [if_pos hp]
theorem DS (c:UInt8) (t:List UInt8) (h:c≠123):al (c::t)=(⟨false,[],[]⟩,0):=by
 unfold al;have h1:((123:UInt8)==c)=false:=(by simpa using fun e=>h e.symm);have:Lib.hasPrefix (c::t) [123,124]=false:=(by simp [Lib.hasPrefix,List.isPrefixOf,h1]);simp only;rw [if_pos this]
end Go.Proofs.YtcannffahjbjnaaGreatDoor
namespace Go.Proofs.YtcannffahjbjnaaGreatDoor
open Go.RowKit
theorem pS (b:UInt8) (z:List UInt8) (h:128 <= b.toNat):∀x∈(b::z).take (Lib.decodeL (b::z)).2,128 <= x.toNat:=by
 intro x hx;have hw:=Lib.decodeL_width (b::z);obtain ⟨m,hm⟩:∃m,(Lib.decodeL (b::z)).2=m+1:=⟨(Lib.decodeL (b::z)).2 - 1,by omega⟩
 have hc:=(gZ b z).1;rw [hm]at hx hc;rw [List.take_succ_cons]at hx;rcases List.mem_cons.1 hx with rfl|hx
 ·exact h
 ·exact mc (hc x (by simpa using hx))
theorem qG:∀(n f:Nat) (s acc:List UInt8),n <= s.length ->(∀x∈s.take n,x≠123) ->bD (f+n) s acc=bD f (s.drop n) (acc++s.take n)
 |0,f,s,acc,_,_=>by simp
 |n+1,f,[],acc,h,_=>by simp at h
 |n+1,f,c::t,acc,h,hx=>by
  have hc:c≠123:=hx c (by rw [List.take_succ_cons];exact List.mem_cons_self ..);rw [show f+(n+1)=(f+n)+1 by omega,bD];rw [DS c t hc,if_pos rfl,qG n f t (acc++[c]) (by simpa using h) (fun x hm=>hx x (by rw [List.take_succ_cons];exact List.mem_cons_of_mem _ hm))];simp
theorem gY {f:Nat} {c:UInt8} {t acc:List UInt8} (h:(al (c::t)).2=0):bD (f+1) (c::t) acc=bD f t (acc++[c]):=by
 rw [bD];rw [if_pos h]
def l8 (acc:List UInt8):List ai:=if acc=[]then []else [⟨false,[],acc⟩]
theorem lk {f:Nat} {c:UInt8} {t acc:List UInt8} (h:(al (c::t)).2≠0):bD (f+1) (c::t) acc=l8 acc++(al (c::t)).1::bD f ((c::t).drop (al (c::t)).2) []:=by
 rw [bD];rw [if_neg h];rfl
theorem li {f:Nat} {acc:List UInt8}:bD (f+1) [] acc=l8 acc:=by
 rw [bD];rfl
theorem oB (c:UInt8) (l:List UInt8) (h:(az c l).2.2=true):l=(az c l).1++c::(az c l).2.1:=by
 unfold az Lib.cut at h⊢;split at h
 ·rename_i hi;rw [if_pos hi];have hix:=Lib.index_one l c;rw [hix]at hi⊢;obtain ⟨i,hi2⟩:∃i:Nat,Lib.indexByte l c=i:=⟨(Lib.indexByte l c).toNat,by omega⟩
  have h1:=(Lib.indexByte_some hi2).1;rw [hi2];simp only [Int.toNat_natCast,List.length_cons,List.length_nil,Nat.zero_add];have hil:i<l.length:=(List.getElem?_eq_some_iff.1 h1).1
  conv=>lhs;rw [<- List.take_append_drop i l]
  rw [List.drop_eq_getElem_cons hil,(List.getElem?_eq_some_iff.1 h1).2]
 ·cases h
theorem pV {a b:UInt8} {l x:List UInt8} (h:eR a b l=some x):∃y,l=x++a::b::y:=by
 obtain ⟨h1,h2,h3⟩:=kK a b l x h;induction l generalizing x with
 |nil=>simp [eR]at h
 |cons c t ih=>
  rw [eR]at h;split at h
  ·rename_i hc;obtain rfl:=Option.some.inj h;cases t with
   |nil=>simp at hc
   |cons d t=>
    simp at hc;exact ⟨t,by rw [hc.1,hc.2];rfl⟩
  ·obtain ⟨z,hz,rfl⟩:=Option.map_eq_some_iff.1 h;obtain ⟨g1,g2,g3⟩:=kK a b t z hz;obtain ⟨y,hy⟩:=ih hz g1 g2 g3;exact ⟨y,by rw [List.cons_append,<- hy]⟩
theorem su (s:List UInt8) (h:(al s).2≠0):5 <= (al s).2∧(al s).2 <= s.length∧s[(al s).2 - 1]? =some 125∧s.head? =some 123∧∃l t,(al s).1=⟨true,l,t⟩∧l.length+t.length+5=(al s).2:=by
 unfold al at h⊢;simp only at h⊢;by_cases h1:Lib.hasPrefix s [123,124]=false
 ·rw [if_pos h1]at h;exact absurd rfl h
 ·rw [if_neg h1]at h⊢;have h1':Lib.hasPrefix s [123,124]=true:=(by simpa using h1);have hs:s=123::124::Lib.trimPrefix s [123,124]:=by
   unfold Lib.trimPrefix;rw [if_pos h1'];unfold Lib.hasPrefix at h1';obtain ⟨t,ht⟩:=List.isPrefixOf_iff_prefix.1 h1';rw [<- ht];rfl
  obtain ⟨R,hR⟩:∃R,Lib.trimPrefix s [123,124]=R:=⟨_,rfl⟩
  rw [hR]at h hs⊢;by_cases h2:(az 58 R).2.2=false∨bh (az 58 R).1=false
  ·rw [if_pos h2]at h;exact absurd rfl h
  ·rw [if_neg h2]at h⊢;have h3:(az 58 R).2.2=true:=by
    cases hc:(az 58 R).2.2 with
    |true=>rfl
    |false=>exact absurd (Or.inl hc) h2
   have hp:=oB 58 R h3;obtain ⟨A,hA⟩:∃A,(az 58 R).1=A:=⟨_,rfl⟩
   obtain ⟨T,hT⟩:∃T,(az 58 R).2.1=T:=⟨_,rfl⟩
   rw [hA,hT]at hp h⊢;cases hc:eR 124 125 T with
   |none=>rw [hc]at h;exact absurd rfl h
   |some x=>
    simp only;obtain ⟨y,hy⟩:=pV hc;have hs2:s=(123::124::(A++58::(x++[124])))++125::y:=(by rw [hs,hp,hy];simp);refine ⟨by omega,?_,?_,by rw [hs2];rfl,A,x,rfl,rfl⟩
    ·rw [hs2];simp;omega
    ·rw [hs2,List.getElem?_append_right (by simp;omega)];simp only [List.length_cons,List.length_append,List.length_nil];rw [show A.length+x.length+5 - 1 - (A.length+(x.length+(0+1)+1)+1+1)=0 by omega];rfl
theorem Dx:(Tryz.prog.info? 138).map (fun i=>(i.zero,i.size,i.bytes))=some (some (.agg #[.bool false,.string ⟨#[]⟩,.string ⟨#[]⟩]),3,40):=by kernel_rfl
def dR (p:ai):List Value:=[.bool p.span,.string ⟨p.label.toArray⟩,.string ⟨p.text.toArray⟩]
theorem pw (p:ai):(dR p).length=3:=rfl
def kI (B:Nat) (w:World) (v:Value) (l:List ai):Prop:=w.ownsRow B 138 3 v l.length (l.flatMap dR)
theorem l9 {w w':World} {k j:Nat} {u:Value} (h:w.cell? ⟨k,j,none⟩=some u) (hk:w'.heap[k]? =w.heap[k]?):w'.cell? ⟨k,j,none⟩=some u:=by
 rw [<- h];unfold World.cell?;rw [hk]
theorem k8 {B:Nat} {w:World} {v:Value} {l:List ai} {p:ai} {cs:List Value} (h:w.ownsRow B 138 3 v (l.length+1) (l.flatMap dR++cs)) (hc:cs=dR p):kI B w v (l++[p]):=by
 unfold kI;rw [List.length_append,List.flatMap_append,List.flatMap_cons,List.flatMap_nil,List.append_nil,<- hc];exact h
structure AQ (s:ByteArray) (R:List ai) (w:World) (v:Value) (pos k:Nat) (out:List ai) (wr:World):Prop where
 it:wr.heap[w.heap.size]? =some (.stringIter s pos)
 own:kI (w.heap.size+1) wr v out
 bel:Below w.heap.size w wr
 ps:pos <= s.size
 ks:k <= s.size
 edge:k=0∨s.data.toList[k - 1]? =some 125
 len:out.length <= max pos k
 rest:∃f,out++bD f (s.data.toList.drop (max pos k)) ((s.data.toList.drop k).take (max pos k - k))=R∧s.size+1 <= max pos k+f
theorem DR {s:ByteArray} {R:List ai} {w wr wi:World} {v:Value} {pos k r n:Nat} {out:List ai} (h:AQ s R w v pos k out wr) (hp:pos<s.size) (hk:pos<k) (hd:Lib.decodeL (s.data.toList.drop pos)=(r,n)):pos+n <= k:=by
 rcases h.edge with h0|he
 ·omega
 ·by_cases hgt:pos+n <= k
  ·exact hgt
  ·exfalso;have hw:=Lib.decodeL_width (s.data.toList.drop pos);rw [hd]at hw;simp only at hw;have hda:=cZ s pos hp;obtain ⟨b,hb⟩:∃b,s[pos]=b:=⟨_,rfl⟩
   rw [hb]at hda;have hk1:(s.data.toList.drop pos)[k - 1 - pos]? =some 125:=by
    rw [List.getElem?_drop,show pos+(k - 1 - pos)=k - 1 by omega];exact he
   by_cases hbl:b.toNat<128
   ·have:=Lib.decodeL_ascii b (s.data.toList.drop (pos+1)) hbl;rw [<- hda,hd]at this;have e:n=1:=congrArg (·.2) this;omega
   ·have hc:=pS b (s.data.toList.drop (pos+1)) (by omega);rw [<- hda,hd]at hc;simp only at hc;have hm:(125:UInt8)∈(s.data.toList.drop pos).take n:=by
     refine List.mem_of_getElem? (i:=k - 1 - pos) ?_;rw [List.getElem?_take,if_pos (by omega)];exact hk1
    have:=hc 125 hm;exact absurd this (by decide)
theorem DQ {s:ByteArray} {R out:List ai} {pos k r n f:Nat} (hp:pos<s.size) (hk:k <= pos) (hd:Lib.decodeL (s.data.toList.drop pos)=(r,n)) (hn:pos+n <= s.size) (h0:(al (s.data.toList.drop pos)).2=0)
  (hR:out++bD f (s.data.toList.drop pos) ((s.data.toList.drop k).take (pos - k))=R) (hf:s.size+1 <= pos+f):
  ∃f',out++bD f' (s.data.toList.drop (pos+n)) ((s.data.toList.drop k).take (pos+n - k))=R∧s.size+1 <= pos+n+f':=by
 have hda:=cZ s pos hp;obtain ⟨b,hb⟩:∃b,s[pos]=b:=⟨_,rfl⟩
 rw [hb]at hda;have hacc:∀m,(s.data.toList.drop k).take (pos - k)++(s.data.toList.drop pos).take m=(s.data.toList.drop k).take (pos+m - k):=fun m=>by
  have e:s.data.toList.drop pos=(s.data.toList.drop k).drop (pos - k):=(by rw [List.drop_drop];congr 1;omega);rw [e,<- List.take_add];congr 1;omega
 by_cases hbl:b.toNat<128
 ·have hd1:=Lib.decodeL_ascii b (s.data.toList.drop (pos+1)) hbl;rw [<- hda,hd]at hd1;obtain rfl:n=1:=congrArg (·.2) hd1;obtain ⟨f',rfl⟩:∃g,f=g+1:=⟨f - 1,by omega⟩
  refine ⟨f',?_,by omega⟩;rw [<- hR];congr 1
  conv=>rhs;rw [hda]
  rw [gY (by rw [<- hda];exact h0),<- hacc 1,hda];rfl
 ·have hc:=pS b (s.data.toList.drop (pos+1)) (by omega);rw [<- hda,hd]at hc;simp only at hc;obtain ⟨f',rfl⟩:∃g,f=g+n:=⟨f - n,by omega⟩
  refine ⟨f',?_,by omega⟩;rw [<- hR,qG n f' (s.data.toList.drop pos) _ (by rw [List.length_drop,<- Lib.size_eq];omega) (fun x hx e=>by have:=hc x hx;rw [e]at this;exact absurd this (by decide)),List.drop_drop,hacc n]
theorem sw (s:ByteArray) (w:World) (hE:lx w) (hs:s.size <= 1000000):
  Calls Tryz.prog 78 #[.string s] w fun e w'=>∃v,e=.returned v∧kI w.heap.size w' v (bX s.data.toList)∧Below w.heap.size w w':=by
 obtain ⟨i0,hi,hz0,hz1,hz2⟩:=info_parts Dx;obtain ⟨R,hR⟩:∃R,bX s.data.toList=R:=⟨_,rfl⟩
 rw [hR];have HR:=zh hR;have HE:=zh hE;clear hR hE;go_enter Tryz.func78,Tryz.ntmps78
 go_wp2_with fail;go_loopw [3,4,5] (fun u3 u4 u5 wr=>∃(pos k:Nat) (out:List ai),u4=.int .i64 k∧u5=.int .i64 k∧AQ s R w u3 pos k out wr) (fun _ _ _ wr=>s.size - wr.iterPos w.heap.size)
 case atStart=>
  refine ⟨0,0,[],rfl,rfl,⟨?_,World.ownsRow_nil _ _ _ _,(Below.refl _ w).alloc (Nat.le_refl _) _,Nat.zero_le _,Nat.zero_le _,Or.inl rfl,by simp,s.size+1,?_,by omega⟩⟩
  ·have:=World.iter_heap w s 0;simpa using this
  ·rw [<- HR.out];unfold bX;rw [<- Lib.size_eq];rfl
 case round=>
  obtain ⟨pos,k,out,rfl,rfl,hrel⟩:=hrel;have hsz:w.heap.size<wr.heap.size:=(Array.getElem?_eq_some_iff.1 hrel.it).1;have hit:=hrel.it;have hps:=hrel.ps;have hks:=hrel.ks;by_cases hp:pos<s.size
  ·have hnx:∀ty,(Instr.next (.pointer (some ⟨w.heap.size,0,none⟩)) true ty).run Tryz.prog wr=_:=fun ty=>Lib.run_next_any_at wr w.heap.size s pos ty hit hp;have hit2:=Lib.iterAt_heap wr w.heap.size s pos (pos+(Utf8.decode s pos).2) hit;have hbw2:=Lib.below_iterAt hrel.bel (k:=w.heap.size) (by omega) s (pos+(Utf8.decode s pos).2);have hown2:kI (w.heap.size+1) (wr.iterAt w.heap.size s (pos+(Utf8.decode s pos).2)) u3 out:=ownsRow_iterAt hrel.own (by omega) s _;have hdl:=Lib.decodeL_drop s pos;have hne:s.data.toList.drop pos≠[]:=(by intro h0;have:=congrArg List.length h0;simp at this;omega);have hwl:=Lib.decodeL_le _ hne;have hwd:=Lib.decodeL_width (s.data.toList.drop pos);obtain ⟨r,n,hrn⟩:∃r n,Lib.decodeL (s.data.toList.drop pos)=(r,n):=⟨_,_,rfl⟩
   have hn4:=CU (s.data.toList.drop pos);rw [hrn]at hwl hwd hn4;simp only at hwl hwd hn4;have hpn:pos+n <= s.size:=(by simp at hwl;omega);rw [<- hdl,hrn]at hnx hit2 hbw2 hown2;simp only at hnx hit2 hbw2 hown2;obtain ⟨wi,hwi⟩:∃wi,wr.iterAt w.heap.size s (pos+n)=wi:=⟨_,rfl⟩
   rw [hwi]at hit2 hbw2 hown2;have hszi:w.heap.size<wi.heap.size:=(Array.getElem?_eq_some_iff.1 hit2).1;by_cases hpk:pos<k
   ·have hle:=DR (wi:=wi) hrel hp hpk hrn;have HN:=zh (show AQ s R w u3 (pos+n) k out wi from ⟨hit2,hown2,hbw2,hpn,hks,hrel.edge,by have:=hrel.len;omega,by
     obtain ⟨f,h1,h2⟩:=hrel.rest;rw [show max pos k=k by omega]at h1 h2;exact ⟨f,by rw [show max (pos+n) k=k by omega];exact h1,by omega⟩⟩)
    have q1:(pos:Int)<(k:Int):=(by omega);clear hit2 hbw2 hown2 hdl hne hwl hrn hrel;go_wp2_with fail;go_roundw;case rel=>exact ⟨pos+n,k,out,rfl,rfl,HN.out⟩
    case measure=>simp only [World.iterPos,HN.out.it,hit];omega
   ·have q1:¬(pos:Int)<(k:Int):=(by omega);obtain ⟨S,hS⟩:∃S:ByteArray,s.extract pos s.size=S:=⟨_,rfl⟩
    have hSl:S.data.toList=s.data.toList.drop pos:=(by rw [<- hS,Lib.extract_to_end]);have hSz:S.size <= s.size:=(by rw [<- hS];simp);have hsp:=fun W hW=>CC S W hW (by omega);obtain ⟨pc,m,hpm⟩:∃pc m,al S.data.toList=(pc,m):=⟨_,_,rfl⟩
    rw [hpm]at hsp;simp only [yq]at hsp;rw [hSl]at hpm;have hmx:max pos k=pos:=(by omega);have hlen:=hrel.len;obtain ⟨f,hrest,hfu⟩:=hrel.rest;rw [hmx]at hrest hfu hlen;have HSP:=zh hsp;have HIT:=zh hit2;have HOWN:=zh hown2;have HBW:=zh hbw2;have HEDGE:=zh hrel.edge;by_cases hm0:m=0
    ·subst hm0;obtain ⟨f',hr2,hf2⟩:=DQ hp (by omega) hrn hpn (by rw [hpm]) hrest hfu;have HN:=zh (And.intro hr2 hf2);have HLEN:=zh hlen;clear hit2 hbw2 hown2 hdl hne hwl hrn hrel hsp hpm hSl hrest hfu hr2 hf2 hlen hmx;go_wp2_with fail;refine (HSP.out _ (HE.out.below HBW.out)).mono ?_;rintro e w2 ⟨rfl,b2⟩;have b3:=b2.trans ((Below.refl w2.heap.size w2).alloc (Nat.le_refl _) (.cells #[.bool pc.span,.string ⟨pc.label.toArray⟩,.string ⟨pc.text.toArray⟩] 138) |>.mono b2.size);have HI3:=zh ((b3.block _ hszi).trans HIT.out);have HO3:=zh (ae HOWN.out b3);have HB3:=zh (aa HBW.out b3);clear b2 b3;go_wp2_with fail;go_roundw;case rel=>exact ⟨pos+n,k,out,rfl,rfl,⟨HI3.out,HO3.out,HB3.out,hpn,hks,HEDGE.out,by have:=HLEN.out;omega,f',by rw [show max (pos+n) k=pos+n by omega];exact HN.out.1,by rw [show max (pos+n) k=pos+n by omega];exact HN.out.2⟩⟩
     case measure=>simp only [World.iterPos,HI3.out,hit];omega
    ·have hls:=su (s.data.toList.drop pos) (by rw [hpm];exact hm0);rw [hpm]at hls;simp only at hls;obtain ⟨hm5,hml,hlast,_,la,ta,hpc,hsum⟩:=hls;rw [List.length_drop,<- Lib.size_eq]at hml;have hpm2:pos+m <= s.size:=(by omega);have hda:=cZ s pos hp;obtain ⟨f,rfl⟩:∃g,f=g+1:=⟨f - 1,by omega⟩
     rw [hda,lk (by rw [<- hda,hpm];exact hm0),<- hda,hpm,List.drop_drop]at hrest;simp only at hrest;have hedge2:s.data.toList[pos+m - 1]? =some 125:=by
      rw [List.getElem?_drop]at hlast;rw [<- hlast];congr 1;omega
     have q2:((m:Int)==0)=false:=(by simp;omega);have HREST:=zh hrest;have HEDGE2:=zh hedge2;have HLEN:=zh hlen;by_cases hgap:k<pos
     ·have q3:(k:Int)<(pos:Int):=(by omega);obtain ⟨G,hG⟩:∃G:ByteArray,s.extract k pos=G:=⟨_,rfl⟩
      have hGl:G.data.toList=(s.data.toList.drop k).take (pos - k):=(by rw [<- hG,Lib.extract_data]);have hgf:l8 ((s.data.toList.drop k).take (pos - k))=[⟨false,[],G.data.toList⟩]:=by
       unfold l8;rw [if_neg,hGl];intro h;have:=congrArg List.length h;rw [List.length_take,List.length_drop,<- Lib.size_eq]at this;simp at this;omega
      have HGF:=zh (And.intro hgf hGl);clear hit2 hbw2 hown2 hdl hne hwl hrn hrel hsp hpm hSl hrest hlen hmx hlast hedge2 hda hgf hGl hpc hsum hm0;go_wp2_with fail;refine (HSP.out _ (HE.out.below HBW.out)).mono ?_;rintro e w2 ⟨rfl,b2⟩;have b3:=b2.trans ((Below.refl w2.heap.size w2).alloc (Nat.le_refl _) (.cells #[.bool pc.span,.string ⟨pc.label.toArray⟩,.string ⟨pc.text.toArray⟩] 138) |>.mono b2.size);have hc3:=aL w2 [.bool pc.span,.string ⟨pc.label.toArray⟩,.string ⟨pc.text.toArray⟩] 138 w2.heap.size rfl;have hz3:=b2.size;have hz4:w2.heap.size<(w2.alloc (.cells #[.bool pc.span,.string ⟨pc.label.toArray⟩,.string ⟨pc.text.toArray⟩] 138)).heap.size:=(by simp);obtain ⟨W3,hW3⟩:∃W,w2.alloc (.cells #[.bool pc.span,.string ⟨pc.label.toArray⟩,.string ⟨pc.text.toArray⟩] 138)=W:=⟨_,rfl⟩
      rw [hW3]at b3 hc3 hz4;have c0:=hc3 0 _ rfl;have c1:=hc3 1 _ rfl;have c2:=hc3 2 _ rfl;rw [gb _ rfl]at c0 c1 c2;simp only [Nat.add_zero,Nat.zero_add]at c0 c1 c2;have HI3:=zh ((b3.block _ hszi).trans HIT.out);have HO3:=zh (ae HOWN.out b3);have HB3:=zh (aa HBW.out b3);have hob:some w2.heap.size≠u3.ownBlock:=fun h=>by have:=(World.ownsRow.lt HOWN.out w2.heap.size h.symm).2;omega
      have HOB:=zh hob;clear b2 b3 hc3 hob;have hol0:out.length <= 1000000:=by have:=HLEN.out;omega
      go_wp2_with (first
       |(at_builtin;refine wpList_append_own _ rfl _ _ 135 rfl (w.heap.size+1) 138 i0 (.agg #[.bool false,.string ⟨#[]⟩,.string ⟨#[]⟩]) 3 40 Tryz.underlying135 hi hz0 hz1 hz2 rfl (by decide) _ _ _ rfl (World.ownsRow.alloc HO3.out _) ⟨W3.heap.size,0,none⟩ 1 1 [.bool false,.string ⟨#[]⟩,.string G] rfl rfl ?c1 ?c2 ?c3 ?c4 ?c5 ?_))
      case c1=>exact aL _ _ _ _ rfl
      case c2=>intro u hu;simp at hu;rcases hu with rfl|rfl|rfl<;>rfl
      case c3=>unfold maxLen;omega
      case c4=>omega
      case c5=>simp;omega
      intro v' w4 hown4 hgrow _;have hown5:=k8 (p:=⟨false,[],G.data.toList⟩) hown4 (by simp [dR]);have g3:=((Below.refl W3.heap.size W3).alloc (Nat.le_refl _) (.cells #[.bool false,.string ⟨#[]⟩,.string G] 138))
      have hblk:∀j,j<W3.heap.size ->some j≠u3.ownBlock ->w4.heap[j]? =W3.heap[j]? :=fun j hj hne=>(hgrow.block j (by simp;omega) hne).trans (g3.block j hj);have hB4:=((HB3.out.alloc HB3.out.size (.cells #[.bool false,.string ⟨#[]⟩,.string G] 138)).grown hgrow (by have:=HB3.out.size;simp;omega) (fun j hj=>by have:=(World.ownsRow.lt HO3.out j hj).1;omega))
      have hit4:w4.heap[w.heap.size]? =some (.stringIter s (pos+n)):=(hblk _ (by omega) (fun h=>by have:=(World.ownsRow.lt HO3.out w.heap.size h.symm).1;omega)).trans HI3.out;have hk4:=hblk w2.heap.size hz4 HOB.out;have d0:=l9 c0 hk4;have d1:=l9 c1 hk4;have d2:=l9 c2 hk4;have hz5:W3.heap.size <= w4.heap.size:=Nat.le_trans (by simp) hgrow.size;have HO5:=zh hown5;have HB5:=zh hB4;have HI5:=zh hit4;have hlen5:(out++[(⟨false,[],G.data.toList⟩:ai)]).length=out.length+1:=(by simp);obtain ⟨out5,hout5⟩:∃o,out++[(⟨false,[],G.data.toList⟩:ai)]=o:=⟨_,rfl⟩
      rw [hout5]at HO5 hlen5;have hw4:w.heap.size+1 <= w4.heap.size:=(by omega);have hol:out5.length <= 1000000:=(by have:=HLEN.out;omega);have HREST5:=zh (show out5++pc::bD f (s.data.toList.drop (pos+m)) []=R by
       rw [<- hout5,<- HREST.out,HGF.out.1];simp)
      have HL5:=zh (show out5.length <= pos+1 by have:=HLEN.out;omega);clear hgrow hown4 hown5 g3 hblk hB4 hit4 hk4 c0 c1 c2 hout5 hlen5
      go_wp2_with (first
       |(at_builtin;refine wpList_append_own _ rfl _ _ 135 rfl (w.heap.size+1) 138 i0 (.agg #[.bool false,.string ⟨#[]⟩,.string ⟨#[]⟩]) 3 40 Tryz.underlying135 hi hz0 hz1 hz2 rfl (by decide) _ _ _ rfl (World.ownsRow.alloc HO5.out _) ⟨(w4).heap.size,0,none⟩ 1 1 [.bool pc.span,.string ⟨pc.label.toArray⟩,.string ⟨pc.text.toArray⟩] rfl rfl ?c1 ?c2 ?c3 ?c4 ?c5 ?_))
      case c1=>exact aL _ _ _ _ rfl
      case c2=>intro u hu;simp at hu;rcases hu with rfl|rfl|rfl<;>rfl
      case c3=>unfold maxLen;omega
      case c4=>omega
      case c5=>simp;omega
      intro v' w6 hown4 hgrow _;have hown6:=k8 (p:=pc) hown4 rfl;have g6:=((Below.refl (w4).heap.size w4).alloc (Nat.le_refl _) (.cells #[.bool pc.span,.string ⟨pc.label.toArray⟩,.string ⟨pc.text.toArray⟩] 138))
      have hB6:=((HB5.out).alloc (HB5.out).size (.cells #[.bool pc.span,.string ⟨pc.label.toArray⟩,.string ⟨pc.text.toArray⟩] 138)).grown hgrow (by have:=(HB5.out).size;simp;omega) (fun j hj=>by have:=(World.ownsRow.lt HO5.out j hj).1;omega);have hit6:=((hgrow.block w.heap.size (by simp;omega) (fun h=>by have:=(World.ownsRow.lt HO5.out w.heap.size h.symm).1;omega)).trans (g6.block w.heap.size (by omega))).trans HI5.out;have HO6:=zh hown6;have HB6:=zh hB6;have HI6:=zh hit6;clear hgrow hown4 hown6 g6 hB6 hit6 d0 d1 d2;go_wp2_with fail;go_roundw;case rel=>exact ⟨pos+n,pos+m,out5++[pc],by go_num,by go_num,⟨HI6.out,HO6.out,HB6.out,hpn,hpm2,Or.inr HEDGE2.out,by have:=HL5.out;rw [List.length_append];simp;omega,f,by rw [show max (pos+n) (pos+m)=pos+m by omega,Nat.sub_self];simp only [List.take_zero,List.append_assoc,List.singleton_append];exact HREST5.out,by omega⟩⟩
      case measure=>simp only [World.iterPos,HI6.out,hit];omega
     ·have q3:¬(k:Int)<(pos:Int):=(by omega);have hgf:l8 ((s.data.toList.drop k).take (pos - k))=[]:=by
       unfold l8;rw [if_pos];rw [show pos - k=0 by omega];rfl
      have HGF:=zh hgf;clear hit2 hbw2 hown2 hdl hne hwl hrn hrel hsp hpm hSl hrest hlen hmx hlast hedge2 hda hgf hpc hsum hm0;go_wp2_with fail;refine (HSP.out _ (HE.out.below HBW.out)).mono ?_;rintro e w2 ⟨rfl,b2⟩;have b3:=b2.trans ((Below.refl w2.heap.size w2).alloc (Nat.le_refl _) (.cells #[.bool pc.span,.string ⟨pc.label.toArray⟩,.string ⟨pc.text.toArray⟩] 138) |>.mono b2.size);have hc3:=aL w2 [.bool pc.span,.string ⟨pc.label.toArray⟩,.string ⟨pc.text.toArray⟩] 138 w2.heap.size rfl;have hz3:=b2.size;have hz4:w2.heap.size<(w2.alloc (.cells #[.bool pc.span,.string ⟨pc.label.toArray⟩,.string ⟨pc.text.toArray⟩] 138)).heap.size:=(by simp);obtain ⟨W3,hW3⟩:∃W,w2.alloc (.cells #[.bool pc.span,.string ⟨pc.label.toArray⟩,.string ⟨pc.text.toArray⟩] 138)=W:=⟨_,rfl⟩
      rw [hW3]at b3 hc3 hz4;have c0:=hc3 0 _ rfl;have c1:=hc3 1 _ rfl;have c2:=hc3 2 _ rfl;rw [gb _ rfl]at c0 c1 c2;simp only [Nat.add_zero,Nat.zero_add]at c0 c1 c2;have HI3:=zh ((b3.block _ hszi).trans HIT.out);have HO3:=zh (ae HOWN.out b3);have HB3:=zh (aa HBW.out b3);have hob:some w2.heap.size≠u3.ownBlock:=fun h=>by have:=(World.ownsRow.lt HOWN.out w2.heap.size h.symm).2;omega
      have HOB:=zh hob;clear b2 b3 hc3 hob;have hw4:w.heap.size+1 <= W3.heap.size:=(by omega);have hol:out.length <= 1000000:=(by have:=HLEN.out;omega);have HREST5:=zh (show out++pc::bD f (s.data.toList.drop (pos+m)) []=R by
       rw [<- HREST.out,HGF.out];simp)
      have HL5:=zh (show out.length <= pos+1 by have:=HLEN.out;omega);have d0:=c0;have d1:=c1;have d2:=c2;clear c0 c1 c2
      go_wp2_with (first
       |(at_builtin;refine wpList_append_own _ rfl _ _ 135 rfl (w.heap.size+1) 138 i0 (.agg #[.bool false,.string ⟨#[]⟩,.string ⟨#[]⟩]) 3 40 Tryz.underlying135 hi hz0 hz1 hz2 rfl (by decide) _ _ _ rfl (World.ownsRow.alloc HO3.out _) ⟨(W3).heap.size,0,none⟩ 1 1 [.bool pc.span,.string ⟨pc.label.toArray⟩,.string ⟨pc.text.toArray⟩] rfl rfl ?c1 ?c2 ?c3 ?c4 ?c5 ?_))
      case c1=>exact aL _ _ _ _ rfl
      case c2=>intro u hu;simp at hu;rcases hu with rfl|rfl|rfl<;>rfl
      case c3=>unfold maxLen;omega
      case c4=>omega
      case c5=>simp;omega
      intro v' w6 hown4 hgrow _;have hown6:=k8 (p:=pc) hown4 rfl;have g6:=((Below.refl (W3).heap.size W3).alloc (Nat.le_refl _) (.cells #[.bool pc.span,.string ⟨pc.label.toArray⟩,.string ⟨pc.text.toArray⟩] 138))
      have hB6:=((HB3.out).alloc (HB3.out).size (.cells #[.bool pc.span,.string ⟨pc.label.toArray⟩,.string ⟨pc.text.toArray⟩] 138)).grown hgrow (by have:=(HB3.out).size;simp;omega) (fun j hj=>by have:=(World.ownsRow.lt HO3.out j hj).1;omega);have hit6:=((hgrow.block w.heap.size (by simp;omega) (fun h=>by have:=(World.ownsRow.lt HO3.out w.heap.size h.symm).1;omega)).trans (g6.block w.heap.size (by omega))).trans HI3.out;have HO6:=zh hown6;have HB6:=zh hB6;have HI6:=zh hit6;clear hgrow hown4 hown6 g6 hB6 hit6 d0 d1 d2;go_wp2_with fail;go_roundw;case rel=>exact ⟨pos+n,pos+m,out++[pc],by go_num,by go_num,⟨HI6.out,HO6.out,HB6.out,hpn,hpm2,Or.inr HEDGE2.out,by have:=HL5.out;rw [List.length_append];simp;omega,f,by rw [show max (pos+n) (pos+m)=pos+m by omega,Nat.sub_self];simp only [List.take_zero,List.append_assoc,List.singleton_append];exact HREST5.out,by omega⟩⟩
      case measure=>simp only [World.iterPos,HI6.out,hit];omega
  ·have hnx:∀ty,(Instr.next (.pointer (some ⟨w.heap.size,0,none⟩)) true ty).run Tryz.prog wr=_:=fun ty=>Lib.run_next_end_at wr w.heap.size s pos ty hit hp;obtain rfl:pos=s.size:=(by omega);have hlen:=hrel.len;obtain ⟨f,hrest,hfu⟩:=hrel.rest;rw [show max s.size k=s.size by omega]at hrest hfu hlen;obtain ⟨f,rfl⟩:∃g,f=g+1:=⟨f - 1,by omega⟩
   rw [ee s s.size (Nat.le_refl _),li]at hrest;have HO:=zh hrel.own;have HB:=zh hrel.bel;by_cases hlt:k<s.size
   ·have q3:(k:Int)<(s.size:Int):=(by omega);obtain ⟨G,hG⟩:∃G:ByteArray,s.extract k s.size=G:=⟨_,rfl⟩
    have hGl:G.data.toList=(s.data.toList.drop k).take (s.size - k):=(by rw [<- hG,Lib.extract_data]);have hgf:l8 ((s.data.toList.drop k).take (s.size - k))=[⟨false,[],G.data.toList⟩]:=by
     unfold l8;rw [if_neg,hGl];intro h;have:=congrArg List.length h;rw [List.length_take,List.length_drop,<- Lib.size_eq]at this;simp at this;omega
    rw [hgf]at hrest;have HREST:=zh hrest;clear hrest hgf hGl hrel
    go_wp2_with (first
     |(at_builtin;refine wpList_append_own _ rfl _ _ 135 rfl (w.heap.size+1) 138 i0 (.agg #[.bool false,.string ⟨#[]⟩,.string ⟨#[]⟩]) 3 40 Tryz.underlying135 hi hz0 hz1 hz2 rfl (by decide) _ _ _ rfl (World.ownsRow.alloc HO.out _) ⟨wr.heap.size,0,none⟩ 1 1 [.bool false,.string ⟨#[]⟩,.string G] rfl rfl ?c1 ?c2 ?c3 ?c4 ?c5 ?_))
    case c1=>exact aL _ _ _ _ rfl
    case c2=>intro u hu;simp at hu;rcases hu with rfl|rfl|rfl<;>rfl
    case c3=>unfold maxLen;omega
    case c4=>omega
    case c5=>simp;omega
    intro v' w4 hown4 hgrow _;have hown5:=k8 (p:=⟨false,[],G.data.toList⟩) hown4 (by simp [dR]);have hB4:=((HB.out.alloc HB.out.size (.cells #[.bool false,.string ⟨#[]⟩,.string G] 138)).grown hgrow (by have:=HB.out.size;simp;omega) (fun j hj=>by have:=(World.ownsRow.lt HO.out j hj).1;omega))
    rw [HREST.out]at hown5;have HO5:=zh (dQ hown5 (Nat.le_succ _));have HB5:=zh hB4;clear hgrow hown4 hown5 hB4;go_wp2_with fail;go_ret;exact ⟨_,rfl,HO5.out,HB5.out⟩
   ·have q3:¬(k:Int)<(s.size:Int):=(by omega);have hgf:l8 ((s.data.toList.drop k).take (s.size - k))=[]:=by
     unfold l8;rw [if_pos];rw [show s.size - k=0 by omega];rfl
    rw [hgf,List.append_nil]at hrest;subst hrest;clear hgf hrel;go_wp2_with fail;go_ret;exact ⟨_,rfl,dQ HO.out (Nat.le_succ _),HB.out⟩
end Go.Proofs.YtcannffahjbjnaaGreatDoor
