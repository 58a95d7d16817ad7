import Derived.Test.YtcannffahjbjnaaGreatDoorVwBG
import Derived.Lib.IndexAny
import Derived.Lib.ItoaNum
import Derived.Deep.Grids
import Derived.Laws.IdiomStrings
import Derived.OpenShut
import Derived.Below
import Derived.OwnWalk
import Derived.Laws.AppendOwnNone
import Derived.Lib.SplitLaws
import Derived.Shelf.Strings.SplitShaped
import Derived.Deep.RegionLaw
import Derived.Deep.AppendLies
import Derived.Deep.Slices
import Derived.ChangeArms
import Derived.Deep.QuietTactic
import Derived.BigQuiet
set_option linter.unusedVariables false
set_option linter.unusedSimpArgs false
set_option maxRecDepth 100000
set_option maxHeartbeats 64000000
namespace Go.Proofs.YtcannffahjbjnaaGreatDoor
open Go.RowKit
def tU (n u t x:List UInt8) (b:Bool):Value:=.agg #[.string ⟨n.toArray⟩,.string ⟨u.toArray⟩,.string ⟨t.toArray⟩,.string ⟨x.toArray⟩,.bool b]
def jB (l:List UInt8):List UInt8×List UInt8×Bool:=
 if (im l).2.2=false then ([],[],false)
 else if (dM (l.drop (im l).2.1)).1=[]then ((im l).1,[],true)
 else if (title (dM (l.drop (im l).2.1)).1).2.2=true∧(dM (l.drop (im l).2.1)).2=true∧gH ((dM (l.drop (im l).2.1)).1.drop (title (dM (l.drop (im l).2.1)).1).2.1)=[]then ((im l).1,(title (dM (l.drop (im l).2.1)).1).1,true)
 else ([],[],false)
theorem k9 {p:List UInt8×List UInt8×Bool} {u t:ByteArray} {b:Bool} (h:p=(u.data.toList,t.data.toList,b)):Ending.returned (.tuple #[.agg #[.string ⟨#[]⟩,.string u,.string t,.string ⟨#[]⟩,.bool false],.bool b])=.returned (.tuple #[tU [] p.1 p.2.1 [] false,.bool p.2.2]):=by
 rw [h];unfold tU;rw [Lib.mk_data,Lib.mk_data]
theorem f7 {w w2:World} {n:Nat} (hb:Below n (w.alloc (.cells #[.string ⟨#[]⟩,.string ⟨#[]⟩,.string ⟨#[]⟩,.string ⟨#[]⟩,.bool false] 47)) w2) (hn:n=w.heap.size+1:=by simp):
  w2.cell? ⟨w.heap.size,0,none⟩=some (.string ⟨#[]⟩)∧w2.cell? ⟨w.heap.size,1,none⟩=some (.string ⟨#[]⟩)∧w2.cell? ⟨w.heap.size,2,none⟩=some (.string ⟨#[]⟩)∧w2.cell? ⟨w.heap.size,3,none⟩=some (.string ⟨#[]⟩)∧w2.cell? ⟨w.heap.size,4,none⟩=some (.bool false)∧
  w2.frozen? ⟨w.heap.size,0,none⟩=false∧w2.frozen? ⟨w.heap.size,1,none⟩=false∧w2.frozen? ⟨w.heap.size,2,none⟩=false∧w2.frozen? ⟨w.heap.size,3,none⟩=false∧w2.frozen? ⟨w.heap.size,4,none⟩=false∧w.heap.size<w2.heap.size:=by
 subst hn;refine ⟨(hb.cell (p:=⟨w.heap.size,0,none⟩) (by simp)).trans (by simp),(hb.cell (p:=⟨w.heap.size,1,none⟩) (by simp)).trans (by simp),(hb.cell (p:=⟨w.heap.size,2,none⟩) (by simp)).trans (by simp),(hb.cell (p:=⟨w.heap.size,3,none⟩) (by simp)).trans (by simp),(hb.cell (p:=⟨w.heap.size,4,none⟩) (by simp)).trans (by simp),(hb.frozen (p:=⟨w.heap.size,0,none⟩) (by simp)).trans (by simp),(hb.frozen (p:=⟨w.heap.size,1,none⟩) (by simp)).trans (by simp),(hb.frozen (p:=⟨w.heap.size,2,none⟩) (by simp)).trans (by simp),(hb.frozen (p:=⟨w.heap.size,3,none⟩) (by simp)).trans (by simp),(hb.frozen (p:=⟨w.heap.size,4,none⟩) (by simp)).trans (by simp),?_⟩;have:=hb.size;simp at this;omega
theorem dh {w w2:World} {u0 u1 u2 u3 u4:Value} (h:Below w.heap.size w w2):Below w.heap.size w (((((w2.setCell ⟨w.heap.size,0,none⟩ u0).setCell ⟨w.heap.size,1,none⟩ u1).setCell ⟨w.heap.size,2,none⟩ u2).setCell ⟨w.heap.size,3,none⟩ u3).setCell ⟨w.heap.size,4,none⟩ u4):=
 ((((h.setCell (by simp) _).setCell (by simp) _).setCell (by simp) _).setCell (by simp) _).setCell (by simp) _
theorem rt (l:List UInt8):(dM l).1.length <= l.length:=(List.dropWhile_sublist _).length_le
theorem BM (s:ByteArray) (w:World) (hE:lx w) (hs:s.size <= 1000000000):
  Calls Tryz.prog 129 #[.string s] w fun e w'=>e=.returned (.tuple #[tU [] (jB s.data.toList).1 (jB s.data.toList).2.1 [] false,.bool (jB s.data.toList).2.2])∧Below w.heap.size w w':=by
 have hle:=Dd s.data.toList;rw [<- Lib.size_eq]at hle;have hd:=fun W hW=>Bg s W hW hs;have HL:∃x,jB s.data.toList=x:=⟨_,rfl⟩
 obtain ⟨L,HL⟩:=HL;have HLD:=zh HL;have HL2:=HL;unfold jB at HL2;obtain ⟨d1,d2,d3,hdd⟩:∃a b c,im s.data.toList=(a,b,c):=⟨_,_,_,rfl⟩
 rw [hdd]at hd hle HL2;simp only at hd hle HL2;obtain ⟨D,hD⟩:∃D:ByteArray,D=⟨d1.toArray⟩:=⟨_,rfl⟩
 have hDl:d1=D.data.toList:=(by rw [hD]);rw [<- hD]at hd;rw [hDl]at HL2;have HE:=zh hE;have HD:=zh hd;have HQ:=zh HL2;clear hE hd hdd HL HL2 hD hDl;rw [HLD.out];clear HLD;have hb1:Below w.heap.size w (w.alloc (.cells #[.string ⟨#[]⟩,.string ⟨#[]⟩,.string ⟨#[]⟩,.string ⟨#[]⟩,.bool false] 47)):=(Below.refl _ w).alloc (Nat.le_refl _) _;cases d3
 ·go_enter Tryz.func129,Tryz.ntmps129
  go_wp2_with fail;refine (HD.out _ (HE.out.below hb1)).mono ?_;rintro e w2 ⟨rfl,b2⟩;obtain ⟨c0,c1,c2,c3,c4,f0,f1,f2,f3,f4,hsz⟩:=f7 b2;have hb2:=aa hb1 b2;clear hb1 b2;go_wp2_with fail;refine bodyPost_ret (v:=.tuple #[.agg #[.string ⟨#[]⟩,.string ⟨#[]⟩,.string ⟨#[]⟩,.string ⟨#[]⟩,.bool false],.bool false]) (by simp [results,Tryz.results129,go_sem,c0,c1,c2,c3,c4,f0,f1,f2,f3,f4]) rfl ⟨?_,dh hb2⟩;exact k9 (t:=⟨#[]⟩) (u:=⟨#[]⟩) HQ.out.symm
 ·obtain ⟨S,hS⟩:∃S:ByteArray,s.extract d2 s.size=S:=⟨_,rfl⟩
  have hSl:S.data.toList=s.data.toList.drop d2:=(by rw [<- hS,Lib.extract_to_end]);have hSz:S.size <= s.size:=(by rw [Lib.size_eq,hSl,Lib.size_eq];simp);have hbh:=fun W=>lP S W;have hxl:=rt (s.data.toList.drop d2);obtain ⟨x,g,hx⟩:∃a b,dM (s.data.toList.drop d2)=(a,b):=⟨_,_,rfl⟩
  rw [hSl,hx]at hbh;have hq:=HQ.out;rw [hx]at hq hxl;simp only [Bool.true_eq_false,if_false]at hbh hq hxl;obtain ⟨X,hX⟩:∃X:ByteArray,X=⟨x.toArray⟩:=⟨_,rfl⟩
  have hXl:x=X.data.toList:=(by rw [hX]);rw [<- hX]at hbh;rw [hXl]at hq hxl;rw [<- hSl,<- Lib.size_eq,<- Lib.size_eq]at hxl;have HB:=zh hbh;clear hbh hx hX hXl hSl HQ;by_cases hX0:0<X.size
  ·have he:=cS hX0;have hne:X.data.toList≠[]:=(by intro h;rw [Lib.size_eq,h]at hX0;exact absurd hX0 (by simp));rw [if_neg hne]at hq;have ht:=fun W hW=>Aq X W hW (by omega);have htl:=CL X.data.toList;obtain ⟨t1,n,is,htt⟩:∃a b c,title X.data.toList=(a,b,c):=⟨_,_,_,rfl⟩
   rw [htt]at ht hq htl;simp only at ht hq htl;rw [<- Lib.size_eq]at htl;obtain ⟨T,hT⟩:∃T:ByteArray,T=⟨t1.toArray⟩:=⟨_,rfl⟩
   have hTl:t1=T.data.toList:=(by rw [hT]);rw [<- hT]at ht;rw [hTl]at hq;have HT:=zh ht;clear ht htt hT hTl hne;cases is
   ·rw [if_neg (by simp)]at hq;have HQ:=zh hq;clear hq;go_enter Tryz.func129,Tryz.ntmps129
    go_wp2_with fail;refine (HD.out _ (HE.out.below hb1)).mono ?_;rintro e w2 ⟨rfl,b2⟩;have hb2:=aa hb1 b2;go_wp2_with fail;refine (HB.out _).mono ?_;rintro e w3 ⟨rfl,b3⟩;have hb3:=aa hb2 b3;go_wp2_with fail;refine (HT.out _ (HE.out.below hb3)).mono ?_;rintro e w4 ⟨rfl,b4⟩;have hb4:=aa hb3 b4;obtain ⟨c0,c1,c2,c3,c4,f0,f1,f2,f3,f4,hsz⟩:=f7 (aa (aa b2 b3) b4);clear hb1 hb2 hb3 b2 b3 b4;go_wp2_with fail;refine bodyPost_ret (v:=.tuple #[.agg #[.string ⟨#[]⟩,.string ⟨#[]⟩,.string ⟨#[]⟩,.string ⟨#[]⟩,.bool false],.bool false]) (by simp [results,Tryz.results129,go_sem,c0,c1,c2,c3,c4,f0,f1,f2,f3,f4]) rfl ⟨?_,dh hb4⟩;exact k9 (t:=⟨#[]⟩) (u:=⟨#[]⟩) HQ.out.symm
   ·cases g
    ·rw [if_neg (by simp)]at hq;have HQ:=zh hq;clear hq;go_enter Tryz.func129,Tryz.ntmps129
     go_wp2_with fail;refine (HD.out _ (HE.out.below hb1)).mono ?_;rintro e w2 ⟨rfl,b2⟩;have hb2:=aa hb1 b2;go_wp2_with fail;refine (HB.out _).mono ?_;rintro e w3 ⟨rfl,b3⟩;have hb3:=aa hb2 b3;go_wp2_with fail;refine (HT.out _ (HE.out.below hb3)).mono ?_;rintro e w4 ⟨rfl,b4⟩;have hb4:=aa hb3 b4;obtain ⟨c0,c1,c2,c3,c4,f0,f1,f2,f3,f4,hsz⟩:=f7 (aa (aa b2 b3) b4);clear hb1 hb2 hb3 b2 b3 b4;go_wp2_with fail;refine bodyPost_ret (v:=.tuple #[.agg #[.string ⟨#[]⟩,.string ⟨#[]⟩,.string ⟨#[]⟩,.string ⟨#[]⟩,.bool false],.bool false]) (by simp [results,Tryz.results129,go_sem,c0,c1,c2,c3,c4,f0,f1,f2,f3,f4]) rfl ⟨?_,dh hb4⟩;exact k9 (t:=⟨#[]⟩) (u:=⟨#[]⟩) HQ.out.symm
    ·obtain ⟨Z,hZ⟩:∃Z:ByteArray,X.extract n X.size=Z:=⟨_,rfl⟩
     have hZl:Z.data.toList=X.data.toList.drop n:=(by rw [<- hZ,Lib.extract_to_end]);have hZz:Z.size <= X.size:=(by rw [Lib.size_eq,hZl,Lib.size_eq];simp);have hp:=fun W=>sk Z W (by omega);obtain ⟨P,hP⟩:∃P:ByteArray,P=⟨(gH Z.data.toList).toArray⟩:=⟨_,rfl⟩
     have hPl:gH Z.data.toList=P.data.toList:=(by rw [hP]);rw [<- hP]at hp;rw [<- hZl,hPl]at hq;have HP:=zh hp;clear hp hP hPl hZl;by_cases hP0:0<P.size
     ·have he2:=cS hP0;have hne:P.data.toList≠[]:=(by intro h;rw [Lib.size_eq,h]at hP0;exact absurd hP0 (by simp));rw [if_neg (by rintro ⟨_,_,h⟩;exact hne h)]at hq;have HQ:=zh hq;clear hq hne;go_enter Tryz.func129,Tryz.ntmps129
      go_wp2_with fail;refine (HD.out _ (HE.out.below hb1)).mono ?_;rintro e w2 ⟨rfl,b2⟩;have hb2:=aa hb1 b2;go_wp2_with fail;refine (HB.out _).mono ?_;rintro e w3 ⟨rfl,b3⟩;have hb3:=aa hb2 b3;go_wp2_with fail;refine (HT.out _ (HE.out.below hb3)).mono ?_;rintro e w4 ⟨rfl,b4⟩;have hb4:=aa hb3 b4;go_wp2_with fail;refine (HP.out _).mono ?_;rintro e w5 ⟨rfl,b5⟩;have hb5:=aa hb4 b5;obtain ⟨c0,c1,c2,c3,c4,f0,f1,f2,f3,f4,hsz⟩:=f7 (aa (aa (aa b2 b3) b4) b5);clear hb1 hb2 hb3 hb4 b2 b3 b4 b5;go_wp2_with fail;refine bodyPost_ret (v:=.tuple #[.agg #[.string ⟨#[]⟩,.string ⟨#[]⟩,.string ⟨#[]⟩,.string ⟨#[]⟩,.bool false],.bool false]) (by simp [results,Tryz.results129,go_sem,c0,c1,c2,c3,c4,f0,f1,f2,f3,f4]) rfl ⟨?_,dh hb5⟩;exact k9 (t:=⟨#[]⟩) (u:=⟨#[]⟩) HQ.out.symm
     ·have he2:=cE (s:=P) (by omega);have hnil:P.data.toList=[]:=List.eq_nil_of_length_eq_zero (by rw [<- Lib.size_eq];omega);rw [if_pos ⟨rfl,rfl,hnil⟩]at hq;have HQ:=zh hq;clear hq hnil;go_enter Tryz.func129,Tryz.ntmps129
      go_wp2_with fail;refine (HD.out _ (HE.out.below hb1)).mono ?_;rintro e w2 ⟨rfl,b2⟩;have hb2:=aa hb1 b2;go_wp2_with fail;refine (HB.out _).mono ?_;rintro e w3 ⟨rfl,b3⟩;have hb3:=aa hb2 b3;go_wp2_with fail;refine (HT.out _ (HE.out.below hb3)).mono ?_;rintro e w4 ⟨rfl,b4⟩;have hb4:=aa hb3 b4;go_wp2_with fail;refine (HP.out _).mono ?_;rintro e w5 ⟨rfl,b5⟩;have hb5:=aa hb4 b5;obtain ⟨c0,c1,c2,c3,c4,f0,f1,f2,f3,f4,hsz⟩:=f7 (aa (aa (aa b2 b3) b4) b5);clear hb1 hb2 hb3 hb4 b2 b3 b4 b5;go_wp2_with fail;refine bodyPost_ret (v:=.tuple #[.agg #[.string ⟨#[]⟩,.string D,.string T,.string ⟨#[]⟩,.bool false],.bool true]) (by simp [results,Tryz.results129,go_sem,c0,c1,c2,c3,c4,f0,f1,f2,f3,f4]) rfl ⟨?_,dh hb5⟩;exact k9 HQ.out.symm
  ·have he:=cE (s:=X) (by omega);have hnil:X.data.toList=[]:=List.eq_nil_of_length_eq_zero (by rw [<- Lib.size_eq];omega);rw [if_pos hnil]at hq;have HQ:=zh hq;clear hq hnil;go_enter Tryz.func129,Tryz.ntmps129
   go_wp2_with fail;refine (HD.out _ (HE.out.below hb1)).mono ?_;rintro e w2 ⟨rfl,b2⟩;have hb2:=aa hb1 b2;go_wp2_with fail;refine (HB.out _).mono ?_;rintro e w3 ⟨rfl,b3⟩;have hb3:=aa hb2 b3;obtain ⟨c0,c1,c2,c3,c4,f0,f1,f2,f3,f4,hsz⟩:=f7 (aa b2 b3);clear hb1 hb2 b2 b3;go_wp2_with fail;refine bodyPost_ret (v:=.tuple #[.agg #[.string ⟨#[]⟩,.string D,.string ⟨#[]⟩,.string ⟨#[]⟩,.bool false],.bool true]) (by simp [results,Tryz.results129,go_sem,c0,c1,c2,c3,c4,f0,f1,f2,f3,f4]) rfl ⟨?_,dh hb3⟩;exact k9 (t:=⟨#[]⟩) HQ.out.symm
def az (c:UInt8) (l:List UInt8):List UInt8×List UInt8×Bool:=Lib.cut l [c]
def bM (c:UInt8) (l:List UInt8):List UInt8×Bool:=(Lib.trimPrefix l [c],Lib.hasPrefix l [c])
theorem fy (c:UInt8) (s:ByteArray) (w:World):
  Calls Tryz.prog 88 #[.string s,.string ⟨#[c]⟩] w fun e w'=>e=.returned (.tuple #[.string ⟨(bM c s.data.toList).1.toArray⟩,.bool (bM c s.data.toList).2])∧w'=w:=
 Tryz.strings_CutPrefix s ⟨#[c]⟩ w
theorem pq (c:UInt8) (s:ByteArray) (w:World) (hE:lx w) (hs:s.size <= 1000000000):
  Calls Tryz.prog 126 #[.string s,.string ⟨#[c]⟩] w fun e w'=>e=.returned (.tuple #[.string ⟨(az c s.data.toList).1.toArray⟩,.string ⟨(az c s.data.toList).2.1.toArray⟩,.bool (az c s.data.toList).2.2])∧Below w.heap.size w w':=by
 obtain ⟨m,hm⟩:=hE.maxl;refine (Tryz.strings_Cut s ⟨#[c]⟩ m w (by omega) hm).mono ?_;rintro e w' ⟨rfl,n,rfl⟩;exact ⟨rfl,bN w n⟩
structure cR where
 name:List UInt8
 url:List UInt8
 title:List UInt8
 text:List UInt8
 note:Bool
deriving DecidableEq
def cR.none:cR:=⟨[],[],[],[],false⟩
def cR.val (d:cR):Value:=tU d.name d.url d.title d.text d.note
def tf (name rest:List UInt8):cR×Bool:=
 if (bM 94 name).2=true then
  if gH rest≠[]∧(eL (bM 94 name).1).2=true then (⟨(eL (bM 94 name).1).1,[],[],gH rest,true⟩,true)else (cR.none,false)
 else if (jB rest).2.2=true∧(eL name).2=true then (⟨(eL name).1,(jB rest).1,(jB rest).2.1,[],false⟩,true)else (cR.none,false)
def cN (l:List UInt8):cR×Bool:=
 if (bM 91 l).2=false then (cR.none,false)
 else if (az 93 (bM 91 l).1).2.2=true∧(bM 58 (az 93 (bM 91 l).1).2.1).2=true then
  tf (az 93 (bM 91 l).1).1 (dM (bM 58 (az 93 (bM 91 l).1).2.1).1).1
 else (cR.none,false)
inductive o9
 |word (l:List UInt8)
 |code (l:List UInt8)
 |tag (l:List UInt8)
 |auto (u t:List UInt8)
 |run (c:UInt8) (n:Nat)
 |mark (l:List UInt8)
 |brk (h:Bool)
 |atom (n:Nat)
deriving DecidableEq
def bL:List UInt8:=[97,98,99,100,101,102,103,104,105,106,107,108,109,110,111,112,113,114,115,116,117,118,119,120,121,122,65,66,67,68,69,70,71,72,73,74,75,76,77,78,79,80,81,82,83,84,85,86,87,88,89,90]
def a8:List UInt8:=[48,49,50,51,52,53,54,55,56,57]
def a7:List UInt8:=[0,92,38,96,60,42,95,33,91,93,10,32]
def aV (s set:List UInt8):Nat:=(s.takeWhile (set.contains ·)).length
def kl (l:List UInt8):Nat:=l.foldl (fun v c=>v*10+(c.toNat - 48)) 0
def iA (s:List UInt8):Option (o9×Nat):=
 if aV (s.drop 1) a8<1∨4<aV (s.drop 1) a8 then none
 else if (s.drop (1+aV (s.drop 1) a8)).head? =some 0 then some (.atom (kl ((s.drop 1).take (aV (s.drop 1) a8))),aV (s.drop 1) a8+2)
 else none
def xU (s:List UInt8):Nat:=1+aV (s.drop 1) [32,9]
def Bn (s:List UInt8):Option (o9×Nat):=
 match s.drop 1 with
 |[]=>none
 |c::_=>if lO c=true then some (.word [c],2)else if c=10 then some (.brk true,1+xU (s.drop 1))else none
def m9 (l:List UInt8):List UInt8:=l.map fun c=>if c=10 then 32 else c
def Bb (l:List UInt8):List UInt8:=
 if (m9 l).head? =some 32∧(m9 l).getLast? =some 32∧(m9 l).any (fun c=>c !=32)=true then (m9 l).tail.dropLast else m9 l
def Ba:Nat ->List UInt8 ->Nat ->Nat ->o9×Nat
 |0,s,n,_=>(.word (s.take n),n)
 |f+1,s,n,i=>
  if Lib.indexByte (s.drop i) 96<0 then (.word (s.take n),n)
  else if aV (s.drop (i+(Lib.indexByte (s.drop i) 96).toNat)) [96]=n then
   (.code (Bb ((s.take (i+(Lib.indexByte (s.drop i) 96).toNat)).drop n)),i+(Lib.indexByte (s.drop i) 96).toNat+n)
  else Ba f s n (i+(Lib.indexByte (s.drop i) 96).toNat+aV (s.drop (i+(Lib.indexByte (s.drop i) 96).toNat)) [96])
def EK (s:List UInt8):o9×Nat:=Ba (s.length+1) s (aV s [96]) (aV s [96])
def xT:List UInt8 ->Nat ->Option Nat
 |[],_=>none
 |c::l,i=>if c=62 then some i else if c <= 32∨c=60∨c=127 then none else xT l (i+1)
def EC (s:List UInt8):Option (o9×Nat):=
 if aV (s.drop 1) bL=0 then none
 else if aV (s.drop 2) (bL++a8++[43,46,45])<1∨31<aV (s.drop 2) (bL++a8++[43,46,45])then none
 else if (s.drop (2+aV (s.drop 2) (bL++a8++[43,46,45]))).head? =some 58 then
  (match xT (s.drop (2+aV (s.drop 2) (bL++a8++[43,46,45]))) (2+aV (s.drop 2) (bL++a8++[43,46,45]))with
  |some i=>some (.auto ((s.take i).drop 1) ((s.take i).drop 1),i+1)
  |none=>none)
 else none
def Ee:List UInt8:=[109,97,105,108,116,111,58]
def EQ (s:List UInt8):Option (o9×Nat):=
 if aV (s.drop 1) (bL++a8++[46,45,95,43])=0 then none
 else if (s.drop (1+aV (s.drop 1) (bL++a8++[46,45,95,43]))).head? =some 64 then
  (if aV (s.drop (2+aV (s.drop 1) (bL++a8++[46,45,95,43]))) (bL++a8++[45,46])=0 then none
  else if (s.drop (2+aV (s.drop 1) (bL++a8++[46,45,95,43])+aV (s.drop (2+aV (s.drop 1) (bL++a8++[46,45,95,43]))) (bL++a8++[45,46]))).head? =some 62 then
   some (.auto (Ee++(s.take (2+aV (s.drop 1) (bL++a8++[46,45,95,43])+aV (s.drop (2+aV (s.drop 1) (bL++a8++[46,45,95,43]))) (bL++a8++[45,46]))).drop 1)
    ((s.take (2+aV (s.drop 1) (bL++a8++[46,45,95,43])+aV (s.drop (2+aV (s.drop 1) (bL++a8++[46,45,95,43]))) (bL++a8++[45,46]))).drop 1),
    2+aV (s.drop 1) (bL++a8++[46,45,95,43])+aV (s.drop (2+aV (s.drop 1) (bL++a8++[46,45,95,43]))) (bL++a8++[45,46])+1)
  else none)
 else none
def CG:List UInt8 ->Nat ->Option Nat
 |[],_=>none
 |c::l,i=>if c=62 then some i else if c=60∨c=0 then none else CG l (i+1)
def EW (s:List UInt8) (a:Nat):Option (o9×Nat):=
 if aV (s.drop a) bL=0 then none
 else
  match s.drop (a+aV (s.drop a) (bL++a8++[45]))with
  |[]=>none
  |c::r=>
   if c≠62∧c≠32∧c≠10∧c≠47 then none
   else match CG (c::r) (a+aV (s.drop a) (bL++a8++[45]))with
    |some i=>some (.tag (s.take (i+1)),i+1)
    |none=>none
def E8 (s:List UInt8):Option (o9×Nat):=EW s (if (s.drop 1).head? =some 47 then 2 else 1)
def D3 (s:List UInt8):Option (o9×Nat):=
 match EC s with
 |some r=>some r
 |none=>match EQ s with
  |some r=>some r
  |none=>E8 s
def eU:List UInt8 ->Option (o9×Nat)
 |[]=>none
 |c::r=>
  if c=0 then iA (c::r)
  else if c=92 then Bn (c::r)
  else if c=38 then (if 0<(cH (c::r)).2 then some (.word (cH (c::r)).1,(cH (c::r)).2)else none)
  else if c=96 then some (EK (c::r))
  else if c=60 then D3 (c::r)
  else if c=42∨c=95 then some (.run c (aV (c::r) [c]),aV (c::r) [c])
  else if c=33 then (if r.head? =some 91 then some (.mark [33,91],2)else none)
  else if c=91∨c=93 then some (.mark [c],1)
  else if c=32∨c=10 then
   (if ((c::r).drop (aV (c::r) [32])).head? =some 10 then some (.brk (decide (2 <= aV (c::r) [32])),aV (c::r) [32]+xU ((c::r).drop (aV (c::r) [32])))
   else some (.word ((c::r).take (aV (c::r) [32])),aV (c::r) [32]))
  else none
def nm (s:List UInt8):Nat:=if 0 <= Lib.indexAny (s.drop 1) a7 then 1+(Lib.indexAny (s.drop 1) a7).toNat else s.length
def kj (s:List UInt8):o9×Nat:=
 match eU s with
 |some r=>r
 |none=>(.word (s.take (nm s)),nm s)
def o9.val:o9 ->Value
 | .word l=>.iface 211 (.string ⟨l.toArray⟩)
 | .code l=>.iface 251 (.string ⟨l.toArray⟩)
 | .tag l=>.iface 263 (.string ⟨l.toArray⟩)
 | .auto u t=>.iface 262 (.agg #[.string ⟨u.toArray⟩,.string ⟨t.toArray⟩])
 | .run c n=>.iface 231 (.agg #[.int .u8 (c.toNat:Int),.int .i64 n])
 | .mark l=>.iface 233 (.agg #[.string ⟨l.toArray⟩])
 | .brk h=>.iface 235 (.agg #[.bool h])
 | .atom n=>.iface 197 (.agg #[.int .i64 n])
def kE:Option (o9×Nat) ->Value
 |some r=>r.1.val
 |none=>.nilIface
def kD:Option (o9×Nat) ->Nat
 |some r=>r.2
 |none=>0
theorem pM (s set:List UInt8):aV s set+(Lib.trimLeftS s set).length=s.length:=by
 unfold aV Lib.trimLeftS;rw [<- List.length_append,List.takeWhile_append_dropWhile]
theorem AX (s set:List UInt8):aV s set <= s.length:=by have:=pM s set;omega
def eg (ds:List cR) (x:List UInt8) (note:Bool):Option cR:=ds.find? fun d=>d.name==x&&d.note==note
structure mz where
 kind:Nat
 depth:Nat
 text:List UInt8
 url:List UInt8
 title:List UInt8
deriving DecidableEq
def mz.cells (x:mz):List Value:=[.int .i64 (x.kind:Int),.int .i64 (x.depth:Int),.string ⟨x.text.toArray⟩,.string ⟨x.url.toArray⟩,.string ⟨x.title.toArray⟩]
def mz.val (x:mz):Value:=.agg #[.int .i64 (x.kind:Int),.int .i64 (x.depth:Int),.string ⟨x.text.toArray⟩,.string ⟨x.url.toArray⟩,.string ⟨x.title.toArray⟩]
structure gx where
 sign:UInt8
 n:Nat
 op:Bool
 cl:Bool
 l:List mz
deriving DecidableEq
structure lC where
 it:gx
 left:Nat
 shut:Bool
deriving DecidableEq
def Et (l:List UInt8):mz:=⟨1,0,l,[],[]⟩
def EM (x:mz):mz:={x with depth:=x.depth+1}
def pt (l:List mz):List mz:=l.map EM
def lC.nodes (p:lC):List mz:=
 if p.it.sign=0 then p.it.l else if 0<p.left then [Et (List.replicate p.left p.it.sign)]else []
def iL (a b:lC):Bool:=
 if a.it.sign≠b.it.sign∨a.it.op=false∨a.left<1 then false
 else !((a.it.op&&a.it.cl)||(b.it.op&&b.it.cl))|| !((a.it.n+b.it.n) % 3==0)||(a.it.n % 3==0&&b.it.n % 3==0)
def yv (p:List lC):Nat:=(p.map lC.left).sum
structure fd where
 label:List UInt8
 text:List UInt8
deriving DecidableEq
def bZ:Nat ->List UInt8 ->List fd ->List UInt8
 |0,_,_=>[]
 |_+1,[],_=>[]
 |f+1,c::l,ts=>
  if c=0 then
   match kj (c::l)with
   |(.atom n,m)=>(match ts[n]? with|some a=>a.text|none=>[])++bZ f ((c::l).drop m) ts
   |_=>c::bZ f l ts
  else c::bZ f l ts
def aG (l:List UInt8) (ts:List fd):List UInt8:=bZ (l.length+1) l ts
structure E3 where
 at':Nat
 fin:Nat
 image:Bool
 shut:Bool
deriving DecidableEq
structure AG where
 items:List gx
 opens:List E3
deriving DecidableEq
def AG.put (st:AG) (l:List mz):AG:={st with items:=st.items++[⟨0,0,false,false,l⟩]}
end Go.Proofs.YtcannffahjbjnaaGreatDoor
namespace Go.Proofs.YtcannffahjbjnaaGreatDoor
def iW:List UInt8:=[239,191,189]
def bQ:Nat ->List UInt8 ->Nat ->List UInt8
 |0,_,_=>[]
 |f+1,s,i=>
  if s.length <= i then []
  else
   let r:=(Lib.decodeL (s.drop i)).1
   (if r=0∨r=65533 then iW else if r=13 then [10]else if r=10∧0<i∧s[i - 1]? =some 13 then []else Lib.encodeRune (r:Int))++bQ f s (i+(Lib.decodeL (s.drop i)).2)
def aR (s:List UInt8):List UInt8:=bQ s.length s 0
def aM (c:UInt8):Bool:=c==32||c==9
def aO:List UInt8 ->List (List UInt8)
 |[]=>[]
 |c::t=>if c=10 then []::aO t else match aO t with
  |[]=>[[c]]
  |x::xs=>(c::x)::xs
def cY (l:List (List UInt8)):List UInt8:=l.flatMap (·++[10])
def aJ (s:List UInt8):Bool:=s.all aM
def fR:List UInt8 ->Nat ->Nat
 |[],c=>c
 |x::t,c=>if x=32 then fR t (c+1)else if x=9 then fR t (c+(4 - c % 4))else c
def ak (s:List UInt8):List UInt8:=s.dropWhile aM
def bz (s:List UInt8):Nat:=fR s 0
def dC (s:List UInt8):List UInt8:=List.replicate (bz s) 32++ak s
def cB (s:List UInt8) (n:Nat):List UInt8:=(dC s).drop (min n (bz s))
def aD (p:UInt8 ->Bool) (s:List UInt8):List UInt8:=(s.reverse.dropWhile p).reverse
def trimB (s:List UInt8):List UInt8:=aD aM (ak s)
def dV (s:List UInt8):Bool:=decide (bz s <= 3)
def eC (s:List UInt8) (c:UInt8):Nat:=(s.takeWhile (·==c)).length
def eK (s:List UInt8):Nat×List UInt8×Bool:=
 let x:=ak s
 let n:=eC x 35
 let rest:=x.drop n
 if dV s=false∨n<1∨6<n∨(rest.head?.any fun c=> !aM c)=true then (0,[],false)
 else
  let r:=trimB rest
  let t:=aD (·==35) r
  if t=[]∨(t.getLast?.any aM)=true then (n,aD aM t,true)else (n,r,true)
def fA (s:List UInt8):Bool:=
 let x:=ak s
 match x.head? with
 |none=>false
 |some c=>dV s&&[45,42,95].contains c&&decide (3 <= (x.filter (·==c)).length)&&x.all fun y=>aM y||y==c
def cU (s:List UInt8):UInt8×Nat×List UInt8×Bool:=
 let x:=ak s
 match x.head? with
 |none=>(0,0,[],false)
 |some c=>
  if dV s=false∨(c≠96∧c≠126)then (0,0,[],false)
  else
   let n:=eC x c
   let info:=trimB (x.drop n)
   if n<3∨(c=96∧info.contains 96=true)then (0,0,[],false)else (c,n,info,true)
def eG (s:List UInt8) (c:UInt8) (n:Nat):Bool:=
 dV s&&decide (max n 1 <= eC (ak s) c)&&aJ ((ak s).drop (eC (ak s) c))
def dK (s:List UInt8):List UInt8×Bool:=
 if dV s=true∧(bM 62 (ak s)).2=true then (Lib.trimPrefix (bM 62 (ak s)).1 [32],true)else ([],false)
def bP:List UInt8 ->Nat ->Nat ->Nat×Nat
 |[],i,v=>(i,v)
 |c::t,i,v=>if c<48∨57<c∨i=9 then (i,v)else bP t (i+1) (v*10+(c.toNat - 48))
def aH (s:List UInt8):UInt8×Int×Nat×List UInt8×Bool:=
 let x:=ak s
 let no:UInt8×Int×Nat×List UInt8×Bool:=(0,0,0,[],false)
 if dV s=false∨x=[]∨fA s=true then no
 else
  let n:=(bP x 0 0).1
  let v:Int:=if n=0 then -1 else (bP x 0 0).2
  match x[n]? with
  |none=>no
  |some sign=>
   if (n=0∧[45,43,42].contains sign=false)∨(0<n∧sign≠46∧sign≠41)then no
   else
    let rest:=x.drop (n+1)
    if (rest.head?.any fun c=>c !=32)=true then no
    else
     let g0:=eC rest 32
     let gap:=if 4<g0∨g0=rest.length then 1 else g0
     (sign,v,bz s+n+1+gap,rest.drop (min gap rest.length),true)
def e6 (s:List UInt8):Nat:=
 let x:=aD aM (ak s)
 if dV s=false∨x=[]then 0 else if x.all (·==61)then 1 else if x.all (·==45)then 2 else 0
def jA (s:List UInt8):Bool:=
 let x:=ak s
 if dV s=false∨(bM 60 x).2=false then false
 else match (bM 60 x).1.head? with
  |none=>false
  |some r=>(97 <= (r ||| 32)&&(r ||| 32) <= 122&&65 <= r)||[47,33,63].contains r
def bW (s:List UInt8):List UInt8:=aD (·==32) s
def bh (s:List UInt8):Bool:=(s.all fun c=> !([123,125,124,58,32,9].contains c))&&s !=[]&&decide (s.length <= 40)
def bf (s:List UInt8):List UInt8×Bool:=
 let x:=bW s
 if Lib.hasPrefix x [58,58,58,123]=false then ([],false)
 else
  let r:=Lib.trimPrefix x [58,58,58,123]
  if r.getLast? =some 125 then (r.dropLast,bh r.dropLast)else (r,false)
def cq (s:List UInt8):Bool:=bW s==[58,58,58]
structure af where
 depth:Nat
 div:Bool
 label:List UInt8
 opn:Bool
 lines:List (List UInt8)
deriving DecidableEq
structure eM where
 out:List af
 inn:List Nat
 run:Bool
def ag (st:eM) (s:List UInt8):eM:=
 if (bf s).2=true then ⟨st.out++[⟨st.inn.length,true,(bf s).1,true,[]⟩],st.inn++[st.out.length],false⟩
 else if cq s=true∧0<st.inn.length then
  ⟨st.out.modify (st.inn.getLast?.getD 0) (fun p=>{p with opn:=false}),st.inn.dropLast,false⟩
 else if st.run=true then ⟨st.out.modify (st.out.length - 1) (fun p=>{p with lines:=p.lines++[s]}),st.inn,true⟩
 else ⟨st.out++[⟨st.inn.length,false,[],false,[s]⟩],st.inn,true⟩
def bF (l:List (List UInt8)):List af:=(l.foldl ag ⟨[],[],false⟩).out
structure ai where
 span:Bool
 label:List UInt8
 text:List UInt8
deriving DecidableEq
def eR (a b:UInt8):List UInt8 ->Option (List UInt8)
 |[]=>none
 |c::t=>if c=a∧t.head? =some b then some []else (eR a b t).map (c::·)
def al (s:List UInt8):ai×Nat:=
 let no:ai×Nat:=(⟨false,[],[]⟩,0)
 if Lib.hasPrefix s [123,124]=false then no
 else
  let q:=az 58 (Lib.trimPrefix s [123,124])
  if q.2.2=false∨bh q.1=false then no
  else match eR 124 125 q.2.1 with
   |none=>no
   |some text=>(⟨true,q.1,text⟩,q.1.length+text.length+5)
def bD:Nat ->List UInt8 ->List UInt8 ->List ai
 |0,_,_=>[]
 |f+1,s,acc=>
  let gap:List ai:=if acc=[]then []else [⟨false,[],acc⟩]
  match s with
  |[]=>gap
  |c::t=>if (al s).2=0 then bD f t (acc++[c])else gap++(al s).1::bD f (s.drop (al s).2) []
def bX (s:List UInt8):List ai:=bD (s.length+1) s []
def ev (a b:UInt8):List UInt8 ->Option Nat
 |[]=>none
 |c::t=>match ev a b t with
  |some k=>some (k+1)
  |none=>if c=a∧t.head? =some b then some 0 else none
def aj (s:List UInt8):List UInt8×List UInt8×Bool:=
 let no:List UInt8×List UInt8×Bool:=([],[],false)
 let y:=bW s
 if y.getLast? ≠some 125 then no
 else
  let rest:=y.dropLast
  match ev 123 61 rest with
  |none=>no
  |some at'=>
   if bh (rest.drop (at'+2))=false then no
   else
    let ahead:=rest.take at'
    let x:=ahead.dropWhile (·==32)
    let y2:=x.dropWhile (·==35)
    if 3<ahead.length - x.length∨x.length - y2.length<1∨6<x.length - y2.length∨y2.head? ≠some 32 then no
    else (ahead,rest.drop (at'+2),true)
structure aI where
 kind:Nat
 depth:Nat
 n:Int
 tight:Bool
 text:List UInt8
 info:List UInt8
deriving DecidableEq
def da (l:List (List UInt8)) (i:Nat):List UInt8:=l[i]?.getD []
def aN:List (List UInt8) ->Nat ->Nat ->Nat
 |[],_,e=>e
 |s::t,i,e=>if aJ s then aN t (i+1) e else if 4 <= bz s then aN t (i+1) (i+1)else e
def pT (d:Nat) (info:List UInt8) (l:List (List UInt8)) (n:Nat):aI:=⟨6,d,0,false,cY (l.map (cB · n)),info⟩
def a6:List (List UInt8) ->List (List UInt8)
 |[]=>[]
 |s::t=>if (dK s).2 then (dK s).1::a6 t else []
def bI (columns:Nat):List (List UInt8) ->Nat ->Nat ->List (List UInt8)×Nat
 |[],_,many=>([],many)
 |s::t,i,many=>
  if aJ s||decide (columns <= bz s)then
   let q:=bI columns t (i+1) (if aJ s then many else i+1)
   (cB s columns::q.1,q.2)
  else ([],many)
def dX (d:Nat) (s:List UInt8):Bool:=(dK s).2&&decide (d<12)
def ep (d:Nat) (s:List UInt8):Bool:=(aH s).2.2.2.2&&decide (d<11)
def iI (d:Nat) (s:List UInt8):Bool:=
 aJ s||(cU s).2.2.2||(eK s).2.2||fA s||dX d s||
  (ep d s&& !aJ (aH s).2.2.2.1&&((aH s).2.1== -1||(aH s).2.1==1))
def dc (d:Nat):List (List UInt8) ->List (List UInt8) ->Nat ->List (List UInt8)×Nat×Nat
 |[],acc,k=>(acc,0,k)
 |s::t,acc,k=>
  if acc≠[]∧0<e6 s then (acc,e6 s,k+1)
  else if acc≠[]∧iI d s=true then (acc,0,k)
  else dc d t (acc++[ak s]) (k+1)
def dJ:List (List UInt8) ->List UInt8
 |[]=>[]
 |[x]=>x
 |x::y::t=>x++10::dJ (y::t)
def bq (W:Nat ->List (List UInt8) ->List aI) (d:Nat) (sign:UInt8) (l:List (List UInt8)):Nat ->Nat ->Nat ->List aI×Nat
 |0,_,e=>([],e)
 |f+1,a,e=>
  match l[a]? with
  |none=>([],e)
  |some s=>
   if (aH s).2.2.2.2=false∨(aH s).1≠sign then ([],e)
   else
    let q:=bI (aH s).2.2.1 (l.drop (a+1)) 1 1
    let e2:=a+q.2
    let z:=bq W d sign l f (e2+((l.drop e2).takeWhile aJ).length) e2
    (⟨5,d+1,0,false,[],[]⟩::(W (d+2) (((aH s).2.2.2.1::q.1).take q.2)++z.1),z.2)
def dq (W:Nat ->List (List UInt8) ->List aI) (d:Nat) (l:List (List UInt8)):List aI×Nat:=
 let s:=da l 0
 if aJ s then ([],1)
 else if 4 <= bz s then ([pT d [] (l.take (aN l 0 0)) 4],aN l 0 0)
 else if (cU s).2.2.2 then
  let n:=((l.drop 1).takeWhile fun x=> !eG x (cU s).1 (cU s).2.1).length
  ([pT d (cU s).2.2.1 ((l.drop 1).take n) (bz s)],n+2)
 else if (eK s).2.2 then ([⟨2,d,(eK s).1,false,(eK s).2.1,[]⟩],1)
 else if fA s then ([⟨7,d,0,false,[],[]⟩],1)
 else if dX d s then (⟨3,d,0,false,[],[]⟩::W (d+1) (a6 l),(a6 l).length)
 else if ep d s then
  let q:=bq W d (aH s).1 l (l.length+1) 0 0
  (⟨4,d,(aH s).2.1,(l.take q.2).all (fun x=> !aJ x),[],[(aH s).1]⟩::q.1,q.2)
 else if jA s then
  let n:=(l.takeWhile fun x=> !aJ x).length
  ([⟨8,d,0,false,cY (l.take n),[]⟩],n)
 else
  let q:=dc d l [] 0
  let text:=aD aM (dJ q.1)
  ([if 0<q.2.1 then ⟨2,d,q.2.1,false,text,[]⟩else ⟨1,d,0,false,text,[]⟩],q.2.2)
def dO (W:Nat ->List (List UInt8) ->List aI):Nat ->Nat ->List (List UInt8) ->List aI
 |0,_,_=>[]
 |f+1,d,l=>if l=[]then []else (dq W d l).1++dO W f d (l.drop (dq W d l).2)
def eV:Nat ->Nat ->List (List UInt8) ->List aI
 |0,_,_=>[]
 |k+1,d,l=>dO (eV k) (l.length+1) d l
def gh (l:List (List UInt8)):List aI:=eV 14 0 l
structure aS where
 see1:List UInt8 ->Bool
 unk:List UInt8 ->Bool
def aS.sees (z:aS) (l:List (List UInt8)):Bool:=l.all z.see1
structure pG where
 kind:Nat
 text:List UInt8
deriving DecidableEq
structure am where
 blocks:List aI
 atoms:List fd
 defs:List cR
 diags:List pG
 tab:List cR
def am.none:am:=⟨[],[],[],[],[]⟩
def am.diag (b:am) (kind:Nat) (text:List UInt8):am:={b with diags:=b.diags++[⟨kind,text⟩]}
def am.label (b:am) (z:aS) (x:List UInt8):am:=if z.unk x then b.diag 1 x else b
def dd (z:aS) (under:List (List UInt8)) (q:List UInt8×am) (p:ai):List UInt8×am:=
 if p.span=false then (q.1++p.text,q.2)
 else if z.sees (under++[p.label])then
  let b:=q.2.label z p.label
  (q.1++0::(Lib.decDigits b.atoms.length++[0]),{b with atoms:=b.atoms++[⟨p.label,p.text⟩]})
 else q
def ey (z:aS) (b:am) (s:List UInt8) (under:List (List UInt8)):List UInt8×am:=
 if (aj s).2.2 then
  if z.sees (under++[(aj s).2.1])then
   (bX (aj s).1).foldl (dd z (under++[(aj s).2.1])) ([],b.label z (aj s).2.1)
  else ([],b)
 else (bX s).foldl (dd z under) ([],b)
def db (z:aS) (under:List (List UInt8)):List (List UInt8) ->am ->List (List UInt8)×am
 |[],b=>([],b)
 |s::t,b=>
  let q:=ey z b s under
  let r:=db z under t q.2
  (q.1::r.1,r.2)
def kx (z:aS) (b:am) (p:af) (under:List (List UInt8)):am:=
 let q:=db z under p.lines b
 {q.2 with blocks:=q.2.blocks++(gh q.1).map fun x=>{x with depth:=x.depth+p.depth}}
def d6:Nat ->am ->List UInt8 ->List UInt8×am
 |0,b,t=>(t,b)
 |f+1,b,t=>
  if t=[]then (t,b)
  else
   let d:=cN (aG (az 10 t).1 b.atoms)
   if d.2=false then (t,b)
   else if (eg b.tab d.1.name d.1.note).isSome then
    d6 f (b.diag 4 ((if d.1.note then [94]else [])++d.1.name)) (az 10 t).2.1
   else d6 f {b with tab:=b.tab++[d.1],defs:=b.defs++[d.1]} (az 10 t).2.1
def cK (b:am) (x:aI):am:=
 if x.kind=1 then
  let q:=d6 (x.text.length+1) b x.text
  if q.1=[]then q.2 else {q.2 with blocks:=q.2.blocks++[{x with text:=q.1}]}
 else if x.kind=6∨x.kind=8 then {b with blocks:=b.blocks++[{x with text:=aG x.text b.atoms,info:=aG x.info b.atoms}]}
 else {b with blocks:=b.blocks++[x]}
def nC (b:am):am:=b.blocks.foldl cK {b with blocks:=[]}
def cO (z:aS) (q:am×List (List UInt8)×Option Nat) (p:af):am×List (List UInt8)×Option Nat:=
 if (q.2.2.any fun h=>decide (h<p.depth))=true then q
 else
  let under:=q.2.1.take p.depth
  if p.div=false then (kx z q.1 p under,under,none)
  else
   let under:=under++[p.label]
   if z.sees under=false then (q.1,under,some p.depth)
   else
    let b:=q.1.label z p.label
    let b:=if p.opn then b.diag 2 p.label else b
    ({b with blocks:=b.blocks++[⟨9,p.depth,0,false,[],p.label⟩]},under,none)
def fG (z:aS) (doc:List UInt8):am:=
 nC ((bF (aO (aR doc))).foldl (cO z) (am.none,[],none)).1
def aK:List (List UInt8):=["low".toUTF8.data.toList, "left".toUTF8.data.toList, "right".toUTF8.data.toList, "high".toUTF8.data.toList]
def jZ (x:List UInt8):Nat:=if aK.contains x then aK.idxOf x else 3
def dA (k:Nat):aS:=⟨fun x=>(jZ x ||| k)==k,fun x=> !aK.contains x⟩
end Go.Proofs.YtcannffahjbjnaaGreatDoor
namespace Go.Proofs.YtcannffahjbjnaaGreatDoor
open Go.RowKit Go.Deep
theorem gb (x:Addr) (hx:x.spot=none) (j:Nat):x.add j=⟨x.block,x.off+j,none⟩:=by
 obtain ⟨b,o,s⟩:=x;simp only at hx;subst hx;unfold Addr.add;split<;>simp_all
theorem aL (w:World) (xs:List Value) (t:TypeId) (b:Nat) (hb:b=w.heap.size):∀j u,xs[j]? =some u ->(w.alloc (.cells xs.toArray t)).cell? ((⟨b,0,none⟩:Addr).add j)=some u:=by
 subst hb;intro j u hj;rw [gb _ rfl];simp [hj]
theorem ae {w w':World} {base:Nat} {e:TypeId} {size:Nat} {v:Value} {n:Nat} {xs:List Value} (h:w.ownsRow base e size v n xs) (hb:Below w.heap.size w w'):w'.ownsRow base e size v n xs:=
 h.kept (row:=none) ⟨hb.os,hb.tape,hb.output,hb.size,fun k hk _=>hb.block k hk⟩ (Classical.em _)
end Go.Proofs.YtcannffahjbjnaaGreatDoor
namespace Go.Proofs.YtcannffahjbjnaaGreatDoor
open Go.RowKit
structure aY (w:World) (size:Nat) (ao:Option Addr) (n:Nat) (xs:List Value):Prop where
 len:xs.length=n*size
 non:ao=none ->n=0
 at':∀ad,ao=some ad ->ad.spot=none∧∀j u,xs[j]? =some u ->w.cell? (ad.add j)=some u
theorem bT {w:World} {base:Nat} {e:TypeId} {size:Nat} {ao:Option Addr} {n m c:Nat} {xs:List Value} (h:w.ownsRow base e size (.slice ao m c) n xs):m=n∧aY w size ao n xs∧(ao=none ->c=0):=by
 obtain ⟨hl,h2⟩:=h;rcases h2 with ⟨h2,h3⟩|⟨g,cap,cur,h2,hb,hg,hnc,hcm,hcs,htake⟩
 ·simp only [Value.slice.injEq]at h2;obtain ⟨rfl,rfl,rfl⟩:=h2;exact ⟨h3.symm,⟨hl,fun _=>h3,fun ad had=>by cases had⟩,fun _=>rfl⟩
 ·simp only [Value.slice.injEq]at h2;obtain ⟨rfl,rfl,rfl⟩:=h2;refine ⟨rfl,⟨hl,(fun h=>by cases h),fun ad had=>?_⟩,fun h=>by cases h⟩;obtain rfl:=Option.some.inj had;refine ⟨rfl,fun j u hu=>?_⟩;exact World.ownsRow.cells (w:=w) (base:=base) (e:=e) (size:=size) (v:=.slice (some ⟨g,0,none⟩) m c) (n:=m) (xs:=xs) ⟨hl,.inr ⟨g,c,cur,rfl,hb,hg,hnc,hcm,hcs,htake⟩⟩ rfl j u hu
theorem aY.below {w w':World} {size:Nat} {ao:Option Addr} {n:Nat} {xs:List Value} (h:aY w size ao n xs) (hb:Below w.heap.size w w'):aY w' size ao n xs:=
 ⟨h.len,h.non,fun ad had=>⟨(h.at' ad had).1,fun j u hu=>by
  have hc:=(h.at' ad had).2 j u hu;exact (hb.cell (World.block_lt_of_cell? _ _ hc)).trans hc⟩⟩
theorem dS {P:Program} (w:World) {ops:Array Oper} {rest:List Oper} {o:Oper} {a:Act} {Q:Exit ->Act ->World ->Prop} (hgd:o.guard=none) (s x:Operand) (t:TypeId)
  (ho:o.op=.call {callee:=.builtin .append,args:=#[s,x],argTypes:=#[t,t]})
  (base:Nat) (e:TypeId) (i:TypeInfo) (z:Value) (size bytes:Nat) (ht:P.underlying t=some (.slice e)) (hi:P.info? e=some i) (hz:i.zero=some z)
  (hsize:i.size=size) (hby:i.bytes=bytes) (hzs:z.cells.size=size) (hsz:0<size)
  (v:Value) (n:Nat) (xs:List Value) (hs:a.eval s=v) (hown:w.ownsRow base e size v n xs)
  (ao:Option Addr) (m c:Nat) (news:List Value) (hx:a.eval x=.slice ao m c) (hr:aY w size ao m news) (hc:ao=none ->c=0) (h1:∀u∈news,u.oneCell'=true)
  (h63:n+m <= maxLen) (hbytes:(n+m)*bytes <= 140737488355328) (hbase:base <= w.heap.size)
  (h:∀v' w',w'.ownsRow base e size v' (n+m) (xs++news) ->w.grownBy w' v.ownBlock ->wpList P ops Q rest (a.put o.dst v') w'):wpList P ops Q (o::rest) a w:=by
 cases ao with
 |some ad=>exact wpList_append_own w hgd s x t ho base e i z size bytes ht hi hz hsize hby hzs hsz v n xs hs hown ad m c news hx hr.len (hr.at' ad rfl).2 h1 h63 hbytes hbase fun v' w' h2 h3 _=>h v' w' h2 h3
 |none=>
  obtain rfl:=hr.non rfl;obtain rfl:=hc rfl;have hn:news=[]:=List.eq_nil_of_length_eq_zero (by simpa using hr.len);subst hn;exact wpList_append_own_none hgd s x t ho base e i size ht hi v n xs hs hown hx (h v w (by simpa using hown) (World.grownBy.refl w _))
theorem aZ {w:World} {b1 b2:Nat} {e1 e2:TypeId} {z1 z2 n1 n2:Nat} {v1 v2:Value} {x1 x2:List Value} (h1:w.ownsRow b1 e1 z1 v1 n1 x1) (h2:w.ownsRow b2 e2 z2 v2 n2 x2) (he:e1≠e2):v1.ownBlock=none∨v1.ownBlock≠v2.ownBlock:=by
 rcases h1.2 with ⟨rfl,_⟩|⟨g,cap,cur,rfl,_,hg,_⟩
 ·exact Or.inl rfl
 ·refine Or.inr fun h=>?_;rcases h2.2 with ⟨rfl,_⟩|⟨g',cap',cur',rfl,_,hg',_⟩
  ·simp [Value.ownBlock]at h
  ·simp [Value.ownBlock]at h;subst h;rw [hg]at hg';simp at hg';exact he hg'.2
theorem fw {w:World} {base:Nat} {e:TypeId} {size:Nat} {v:Value} {n:Nat} {xs:List Value} (h:w.ownsRow base e size v n xs) (k:Nat) (hk:k <= n):
  ∀ao m c,v=.slice ao m c ->w.ownsRow base e size (.slice ao k c) k (xs.take (k*size)):=by
 rintro ao m c rfl;obtain ⟨hl,h2⟩:=h;have hle:k*size <= n*size:=Nat.mul_le_mul_right _ hk;refine ⟨by rw [List.length_take,hl];omega,?_⟩;rcases h2 with ⟨h2,h3⟩|⟨g,cap,cur,h2,hb,hg,hnc,hcm,hcs,htake⟩
 ·simp only [Value.slice.injEq]at h2;obtain ⟨rfl,rfl,rfl⟩:=h2;obtain rfl:k=0:=(by omega);exact .inl ⟨rfl,rfl⟩
 ·simp only [Value.slice.injEq]at h2;obtain ⟨rfl,rfl,rfl⟩:=h2;refine .inr ⟨g,c,cur,rfl,hb,hg,by omega,hcm,hcs,?_⟩;rw [<- htake,List.take_take,Nat.min_eq_left hle]
theorem dQ {w:World} {base base':Nat} {e:TypeId} {size:Nat} {v:Value} {n:Nat} {xs:List Value} (h:w.ownsRow base e size v n xs) (hb:base' <= base):w.ownsRow base' e size v n xs:=by
 refine ⟨h.1,?_⟩;rcases h.2 with h2|⟨g,cap,cur,hv,hg,r⟩
 ·exact .inl h2
 ·exact .inr ⟨g,cap,cur,hv,by omega,r⟩
theorem ab {w:World} {base:Nat} {e:TypeId} {size:Nat} {v:Value} {n:Nat} {xs:List Value} (h:w.ownsRow base e size v n xs):∃ao c,v=.slice ao n c∧aY w size ao n xs∧(ao=none ->c=0)∧n <= c:=by
 have h':=h;rcases h.2 with ⟨rfl,rfl⟩|⟨g,cap,cur,rfl,hb,hg,hnc,_⟩
 ·exact ⟨none,0,rfl,(bT h').2.1,fun _=>rfl,Nat.le_refl _⟩
 ·exact ⟨some ⟨g,0,none⟩,cap,rfl,(bT h').2.1,(fun h=>by cases h),hnc⟩
theorem yd {α:Type} (f:α ->List Value) (k:Nat) (hf:∀x,(f x).length=k):∀(l:List α) (i j:Nat) (x:α),l[i]? =some x ->j<k ->(l.flatMap f)[i*k+j]? =(f x)[j]?
 |[],i,j,x,h,_=>by simp at h
 |y::l,0,j,x,h,hj=>by
  simp at h;subst h;rw [List.flatMap_cons,List.getElem?_append_left (by rw [hf];omega)];congr 1;omega
 |y::l,i+1,j,x,h,hj=>by
  rw [List.flatMap_cons,List.getElem?_append_right (by rw [hf,Nat.add_mul];omega),<- yd f k hf l i j x (by simpa using h) hj];congr 1;rw [hf,Nat.add_mul];omega
theorem iJ {α:Type} (f:α ->List Value) (k:Nat) (hf:∀x,(f x).length=k):∀(l:List α) (n:Nat),(l.flatMap f).take (n*k)=(l.take n).flatMap f
 |[],n=>by simp
 |y::l,0=>by simp
 |y::l,n+1=>by
  rw [List.take_succ_cons,List.flatMap_cons,List.flatMap_cons,<- iJ f k hf l n,List.take_append,List.take_of_length_le (by rw [hf,Nat.add_mul];omega)];congr 2;rw [hf,Nat.add_mul];omega
theorem aY.cell {α:Type} {w:World} {f:α ->List Value} {k:Nat} {b o:Nat} {n:Nat} {l:List α} (h:aY w k (some ⟨b,o,none⟩) n (l.flatMap f)) (hf:∀x,(f x).length=k) (i j:Nat) (x:α) (u:Value) (hi:l[i]? =some x) (hj:j<k) (hu:(f x)[j]? =some u):w.cell? ⟨b,o+(i*k+j),none⟩=some u:=by
 have hc:=(h.at' _ rfl).2 (i*k+j) u (by rw [yd f k hf l i j x hi hj,hu])
 rwa [gb _ rfl]at hc
theorem aY.addr {w:World} {size n:Nat} {ao:Option Addr} {xs:List Value} (h:aY w size ao n xs) (hn:0<n):∃g o,ao=some ⟨g,o,none⟩:=by
 cases ao with
 |none=>have:=h.non rfl;omega
 |some ad=>
  obtain ⟨g,o,sp⟩:=ad;obtain rfl:sp=none:=(h.at' _ rfl).1;exact ⟨g,o,rfl⟩
theorem aF {w:World} {base:Nat} {e e':TypeId} {size:Nat} {v:Value} {n:Nat} {xs:List Value} (h:w.ownsRow base e size v n xs) {a:Addr} {cs:Array Value} {fr:Nat×Nat} (hg:w.heap[a.block]? =some (.cells cs e' fr)) (he:e≠e') (u:Value):(w.setCell a u).ownsRow base e size v n xs:=by
 obtain ⟨h1,h2⟩:=h;refine ⟨h1,?_⟩;rcases h2 with h2|⟨g,cap,cur,hv,hb,hh,r⟩
 ·exact Or.inl h2
 ·refine Or.inr ⟨g,cap,cur,hv,hb,?_,r⟩;rw [Below.heap_setCell _ _ _ _ (fun e0=>by subst e0;rw [hh]at hg;simp at hg;exact he hg.2.1),hh]
def fV (x:List UInt8):Value:=.string ⟨x.toArray⟩
def bO (w:World) (ao:Option Addr) (l:List (List UInt8)):Prop:=aY w 1 ao l.length (l.map fV)
theorem bO.below {w w':World} {ao:Option Addr} {l:List (List UInt8)} (h:bO w ao l) (hb:Below w.heap.size w w'):bO w' ao l:=aY.below h hb
theorem bO.at' {w:World} {g o:Nat} {l:List (List UInt8)} (h:bO w (some ⟨g,o,none⟩) l) (i:Nat) (x:List UInt8) (hx:l[i]? =some x):w.cell? ⟨g,o+i,none⟩=some (.string ⟨x.toArray⟩):=by
 have:=(aY.at' h _ rfl).2 i (fV x) (by rw [List.getElem?_map,hx];rfl)
 rwa [gb _ rfl]at this
theorem bO.addr {w:World} {ao:Option Addr} {l:List (List UInt8)} (h:bO w ao l) (hn:0<l.length):∃g o,ao=some ⟨g,o,none⟩:=aY.addr h hn
theorem bO.nil (w:World) (ao:Option Addr) (h:∀a,ao=some a ->a.spot=none):bO w ao []:=⟨rfl,fun _=>rfl,fun ad had=>⟨h ad had,fun j u hu=>by cases hu⟩⟩
theorem bO.sub {w:World} {g o:Nat} {l:List (List UInt8)} (h:bO w (some ⟨g,o,none⟩) l) (a b:Nat) (hb:b <= l.length) (hab:a <= b):bO w (some ⟨g,o+a,none⟩) ((l.drop a).take (b - a)):=by
 refine ⟨by simp,(fun h=>by cases h),fun ad had=>?_⟩;obtain rfl:=Option.some.inj had;refine ⟨rfl,fun j u hu=>?_⟩;rw [List.getElem?_map]at hu;obtain ⟨x,hx,rfl⟩:=Option.map_eq_some_iff.1 hu;rw [List.getElem?_take]at hx;split at hx
 ·rw [List.getElem?_drop]at hx;have:=h.at' (a+j) x hx;rw [gb _ rfl];simp only [Nat.add_assoc]at this⊢;exact this
 ·cases hx
def ah (B:Nat) (w:World) (v:Value) (l:List (List UInt8)):Prop:=w.ownsRow B 9 1 v l.length (l.map fV)
theorem kC (l:List (List UInt8)):∀u∈l.map fV,u.oneCell'=true:=by
 intro u hu;obtain ⟨x,_,rfl⟩:=List.mem_map.1 hu;rfl
theorem rJ (R:ByteArray) (h:R.size=0):R.data.toList=[]:=List.eq_nil_of_length_eq_zero (by rw [<- Lib.size_eq];exact h)
theorem ft:(Tryz.prog.info? 9).map (fun i=>(i.zero,i.size,i.bytes))=some (some (.string ⟨#[]⟩),1,16):=by kernel_rfl
def cI:List UInt8 ->List (List UInt8)
 |[]=>[[]]
 |c::t=>if c=10 then []::cI t else match cI t with
  |[]=>[[c]]
  |x::xs=>(c::x)::xs
theorem zW:∀l,cI l≠[]
 |[]=>by simp [cI]
 |c::t=>by
  rw [cI];split
  ·simp
  ·split<;>simp
theorem qw:∀(x:List UInt8) (t:List UInt8),(10:UInt8)∉x ->cI (x++10::t)=x::cI t
 |[],t,_=>by rw [List.nil_append,cI,if_pos rfl]
 |c::x,t,h=>by
  rw [List.cons_append,cI,if_neg (fun e=>h (by rw [e];exact List.mem_cons_self ..)),qw x t (fun m=>h (List.mem_cons_of_mem _ m))]
theorem qx:∀(x:List UInt8),(10:UInt8)∉x ->cI x=[x]
 |[],_=>rfl
 |c::x,h=>by
  rw [cI,if_neg (fun e=>h (by rw [e];exact List.mem_cons_self ..)),qx x (fun m=>h (List.mem_cons_of_mem _ m))]
theorem lI:∀(k:Nat) (s:List UInt8),Lib.count s [10]=k ->Lib.splitK [10] 0 k s=cI s
 |0,s,h=>by
  rw [Lib.count_one]at h;have:(10:UInt8)∉s:=List.count_eq_zero.1 h;rw [qx s this];rfl
 |k+1,s,h=>by
  by_cases hm:Lib.index s [10]= -1
  ·rw [Lib.count_miss hm]at h;omega
  ·have hix:=Lib.index_one s 10;rw [hix]at hm;have hge:=Lib.indexByte_ge s 10;obtain ⟨i,hi⟩:∃i:Nat,Lib.indexByte s 10=i:=⟨(Lib.indexByte s 10).toNat,by omega⟩
   obtain ⟨h1,h2⟩:=Lib.indexByte_some hi;have hi2:Lib.index s [10]=(i:Int):=(by rw [hix,hi]);have hc:=Lib.count_hit (sub:=[10]) (by simp) hi2;rw [Lib.splitK,hi2,if_neg (by simp only [beq_iff_eq];omega)];have e0:((i:Nat):Int).toNat=i:=(by omega);rw [e0];simp only [List.length_cons,List.length_nil,Nat.add_zero,Nat.zero_add]at hc⊢;have hil:i<s.length:=(List.getElem?_eq_some_iff.1 h1).1;have hs:s=s.take i++10::s.drop (i+1):=by
    conv=>lhs;rw [<- List.take_append_drop i s]
    rw [List.drop_eq_getElem_cons hil,(List.getElem?_eq_some_iff.1 h1).2]
   rw [lI k (s.drop (i+1)) (by omega)]
   conv=>rhs;rw [hs]
   rw [qw];intro hm2;obtain ⟨j,hj⟩:=List.mem_iff_getElem?.1 hm2;rw [List.getElem?_take]at hj;split at hj
   ·exact h2 j (by assumption) hj
   ·cases hj
theorem nf:∀s:List UInt8,aO s=if (cI s).getLast? =some []then (cI s).dropLast else cI s
 |[]=>rfl
 |c::t=>by
  have ih:=nf t;rw [aO,cI];have hne:=zW t;by_cases hc:c=10
  ·rw [if_pos hc,if_pos hc,ih];cases hp:cI t with
   |nil=>exact absurd hp hne
   |cons x xs=>
    rw [List.getLast?_cons_cons,List.dropLast_cons_cons];split<;>rfl
  ·rw [if_neg hc,if_neg hc,ih];cases hp:cI t with
   |nil=>exact absurd hp hne
   |cons x xs=>
    cases xs with
    |nil=>
     cases x with
     |nil=>rfl
     |cons d x=>rfl
    |cons y ys=>
     rw [List.getLast?_cons_cons,List.dropLast_cons_cons];simp only [List.getLast?_cons_cons,List.dropLast_cons_cons];by_cases h:(y::ys).getLast? =some []
     ·simp only [if_pos h]
     ·simp only [if_neg h]
theorem sB (s:ByteArray) (w:World) (hE:lx w) (hs:s.size <= 1000000000):
  Calls Tryz.prog 17 #[.string s] w fun e w'=>∃c,e=.returned (.slice (some ⟨w.heap.size,0,none⟩) (aO s.data.toList).length c)∧(aO s.data.toList).length <= c∧bO w' (some ⟨w.heap.size,0,none⟩) (aO s.data.toList)∧Below w.heap.size w w':=by
 obtain ⟨m,hm⟩:=hE.maxl;have hsp:=Tryz.strings_Split s ⟨#[10]⟩ m w (by omega) hm (by decide);have hpd:=Lib.splitB_data ⟨#[10]⟩ 0 (Lib.countB s ⟨#[10]⟩) s;have hcb:Lib.countB s ⟨#[10]⟩=Lib.count s.data.toList [10]:=rfl;rw [show (ByteArray.mk #[10]).data.toList=[10]from rfl,lI _ _ hcb.symm]at hpd;have hle:=Lib.countB_le ⟨#[10]⟩ (by decide) s.size s (Nat.le_refl _);have hla:=Lib.splitB_all ⟨#[10]⟩ (by decide) 0 _ s rfl;have hln:=nf s.data.toList;obtain ⟨k,hk⟩:∃k,Lib.countB s ⟨#[10]⟩=k:=⟨_,rfl⟩
 rw [hk]at hsp hpd hle hla;obtain ⟨zs,hzs⟩:∃zs,Lib.splitB ⟨#[10]⟩ 0 k s=zs:=⟨_,rfl⟩
 rw [hzs]at hsp hpd hla;obtain ⟨z,hz⟩:∃z,zs[k]? =some z:=⟨_,List.getElem?_eq_getElem (by omega)⟩
 have hcells:∀i x,zs[i]? =some x ->(w.alloc (.cells (zs.map Value.string).toArray 9)).cell? ⟨w.heap.size,i,none⟩=some (.string x):=fun i x hx=>by
  have:=aL w (zs.map Value.string) 9 w.heap.size rfl i (.string x) (by rw [List.getElem?_map,hx];rfl)
  rwa [gb _ rfl,Nat.zero_add]at this
 have hck:=hcells k z hz;have hlast:(cI s.data.toList).getLast? =some z.data.toList:=by
  rw [<- hpd,List.getLast?_eq_getElem?,List.length_map,hla,Nat.add_sub_cancel,List.getElem?_map,hz];rfl
 rw [hlast]at hln;have hB:Below w.heap.size w (w.alloc (.cells (zs.map Value.string).toArray 9)):=(Below.refl _ w).alloc (Nat.le_refl _) _;have hrow:∀l,(∀i x,l[i]? =some x ->(cI s.data.toList)[i]? =some x) ->bO (w.alloc (.cells (zs.map Value.string).toArray 9)) (some ⟨w.heap.size,0,none⟩) l:=fun l hl=>by
  refine ⟨by simp,(fun h=>by cases h),fun ad had=>?_⟩;obtain rfl:=Option.some.inj had;refine ⟨rfl,fun j u hu=>?_⟩;rw [List.getElem?_map]at hu;obtain ⟨x,hx,rfl⟩:=Option.map_eq_some_iff.1 hu;have h2:=hl j x hx;rw [<- hpd,List.getElem?_map]at h2;obtain ⟨y,hy,rfl⟩:=Option.map_eq_some_iff.1 h2;rw [gb _ rfl,Nat.zero_add,hcells j y hy];unfold fV;rw [Lib.mk_data]
 have hpl:(cI s.data.toList).length=k+1:=(by rw [<- hpd,List.length_map,hla]);have HSP:=zh hsp;have HROW:=zh hrow;obtain ⟨W,hW⟩:∃W,w.alloc (.cells (zs.map Value.string).toArray 9)=W:=⟨_,rfl⟩
 rw [hW]at hck hB HROW;have HSP2:Hid (Calls Tryz.prog 50 #[.string s,.string ⟨#[10]⟩] w fun e w'=>e=.returned (.slice (some ⟨w.heap.size,0,none⟩) (k+1) (k+1))∧w'=W):=by
  rw [hW]at HSP;exact HSP
 by_cases hz0:0<z.size
 ·have hez:=cS hz0;have hl:aO s.data.toList=cI s.data.toList:=by
   rw [hln,if_neg];intro h;have h2:=Option.some.inj h;rw [Lib.size_eq,h2]at hz0;exact absurd hz0 (by simp)
  have HF:=zh (And.intro (show (aO s.data.toList).length=k+1 by rw [hl,hpl]) (show bO W (some ⟨w.heap.size,0,none⟩) (aO s.data.toList) by rw [hl];exact HROW.out _ fun i x h=>h));have HB:=zh hB;clear hsp hpd hla hln hk hzs hz hcells hlast hB hrow hpl HSP HROW hW hl hcb;go_enter Tryz.func17,Tryz.ntmps17
  go_wp2_with fail;refine HSP2.out.mono ?_;rintro e w2 ⟨rfl,rfl⟩;go_wp2_with fail;go_ret;exact ⟨k+1,by rw [HF.out.1];rfl,by rw [HF.out.1];exact Nat.le_refl _,HF.out.2,HB.out⟩
 ·have hez:=cE (s:=z) (by omega);have hl:aO s.data.toList=(cI s.data.toList).dropLast:=by
   rw [hln,if_pos];rw [rJ z (by omega)]
  have HF:=zh (And.intro (show (aO s.data.toList).length=k by rw [hl,List.length_dropLast,hpl];omega) (show bO W (some ⟨w.heap.size,0,none⟩) (aO s.data.toList) by
   rw [hl];refine HROW.out _ fun i x h=>?_;rw [List.getElem?_dropLast]at h;split at h
   ·exact h
   ·cases h))
  have HB:=zh hB;clear hsp hpd hla hln hk hzs hz hcells hlast hB hrow hpl HSP HROW hW hl hcb;go_enter Tryz.func17,Tryz.ntmps17
  go_wp2_with fail;refine HSP2.out.mono ?_;rintro e w2 ⟨rfl,rfl⟩;go_wp2_with fail;go_ret;exact ⟨k+1,by rw [HF.out.1];rfl,by rw [HF.out.1];omega,HF.out.2,HB.out⟩
theorem zF (l:List (List UInt8)) (x:List UInt8):cY (l++[x])=cY l++(x++[10]):=by unfold cY;simp
theorem jg:∀(l:List (List UInt8)) (i:Nat),(cY (l.take i)).length <= (cY l).length
 |[],i=>by simp
 |x::l,0=>by simp [cY]
 |x::l,i+1=>by
  have:=jg l i;unfold cY at this⊢;rw [List.take_succ_cons,List.flatMap_cons,List.flatMap_cons];simp only [List.length_append]at this⊢;omega
theorem oe {α:Type} (l:List α) (i:Nat) (x:α) (h:l[i]? =some x):l.take (i+1)=l.take i++[x]:=by
 obtain ⟨hi,rfl⟩:=List.getElem?_eq_some_iff.1 h;rw [List.take_succ_eq_append_getElem hi]
theorem mY (ao:Option Addr) (cap:Nat) (l:List (List UInt8)) (w:World) (hR:bO w ao l) (hl:(cY l).length <= 1000000000000) (hn:l.length <= 1000000000):
  Calls Tryz.prog 42 #[.slice ao l.length cap] w fun e w'=>e=.returned (.string ⟨(cY l).toArray⟩)∧Below w.heap.size w w':=by
 have HR:=zh hR;clear hR;go_enter Tryz.func42,Tryz.ntmps42
 go_wp2_with fail;go_loopw [8] (fun u2 wr=>∃i:Nat,u2=.int .i64 i∧i <= l.length∧Lib.IsBuilderF 112 5 w.heap.size w.heap.size (Lib.byteCells (cY (l.take i))) wr∧Below w.heap.size w wr) (fun u2 _=>l.length - (intOf u2).toNat)
 case atStart=>exact ⟨0,rfl,Nat.zero_le _,Lib.IsBuilderF.of (Lib.fresh_isBuilder 112 5 w),(Below.refl _ _).alloc (Nat.le_refl _) _⟩
 case round=>
  obtain ⟨i,rfl,hi,hI,hB⟩:=hrel;have hjl:=jg l i;by_cases hlt:i<l.length
  ·obtain ⟨x,hx⟩:∃x,l[i]? =some x:=⟨_,List.getElem?_eq_getElem hlt⟩
   obtain ⟨g,o,rfl⟩:=bO.addr HR.out (by omega);have hc:=bO.at' (HR.out.below hB) i x hx;have hjs:=zF (l.take i) x;have hj2:=jg l (i+1);rw [<- oe l i x hx]at hjs;rw [hjs,List.length_append,List.length_append]at hj2;obtain ⟨X,hX⟩:∃X:ByteArray,(⟨x.toArray⟩:ByteArray)=X:=⟨_,rfl⟩
   have hXl:x=X.data.toList:=(by rw [<- hX]);rw [hX]at hc;have hXz:x.length=X.size:=(by rw [hXl,Lib.size_eq]);rw [hXz]at hj2;have hXb:X.size <= 1000000000000:=(by omega);obtain ⟨Y,hY⟩:∃Y:ByteArray,X++(⟨#[10]⟩:ByteArray)=Y:=⟨_,rfl⟩
   have hYl:Y.data.toList=x++[10]:=(by rw [<- hY,hXl];simp);have hYz:Y.size=X.size+1:=(by rw [Lib.size_eq,hYl,List.length_append,hXz];rfl);have HJ:=zh (show cY (l.take i)++Y.data.toList=cY (l.take (i+1)) by rw [hjs,hYl]);have hcat:¬(9223372036854775807:Int)<(X.size:Int)+((⟨#[10]⟩:ByteArray).size:Int):=by
    have:(⟨#[10]⟩:ByteArray).size=1:=rfl;omega
   have HJL:=zh hj2;clear hX hXl hXz hYl hjs hj2 hx;go_wp2_with fail;refine (dH w.heap.size w.heap.size _ Y _ hI (by rw [Lib.byteCells_length];have:=HJL.out;omega) hB.size).mono ?_;rintro e w6 ⟨rfl,h6,b6,k6⟩;go_wp2_with fail;go_roundw;case rel=>exact ⟨i+1,by go_num,by omega,by rw [<- HJ.out,Lib.byteCells_append];exact Or.inr h6,hB.trans b6⟩
   case measure=>simp [intOf];omega
  ·obtain rfl:i=l.length:=(by omega);rw [List.take_length]at hI hjl;have HI:=zh hI;clear hI;go_wp2_with fail;refine (Tryz.Builder_String_any_k w.heap.size w.heap.size _ wr HI.out hB.size).mono ?_;rintro e w2 ⟨rfl,_,hb2,_⟩;go_wp2_with fail;go_ret;exact ⟨rfl,hB.trans hb2⟩
theorem fT {p:cR×Bool} {n u t x:ByteArray} {nt b:Bool} (h:p=(⟨n.data.toList,u.data.toList,t.data.toList,x.data.toList,nt⟩,b)):Ending.returned (.tuple #[.agg #[.string n,.string u,.string t,.string x,.bool nt],.bool b])=.returned (.tuple #[p.1.val,.bool p.2]):=by
 rw [h];unfold cR.val tU;simp only [Lib.mk_data]
theorem zK (s:ByteArray) (w:World) (hE:lx w) (hs:s.size <= 1000000000) (hno:(bM 91 s.data.toList).2=false):
  Calls Tryz.prog 101 #[.string s] w fun e w'=>e=.returned (.tuple #[(cN s.data.toList).1.val,.bool (cN s.data.toList).2])∧Below w.heap.size w w':=by
 have HL:=zh (show cN s.data.toList=(cR.none,false) by unfold cN;rw [if_pos hno]);have hp:=fun W=>fy 91 s W;rw [hno]at hp;obtain ⟨C,hC⟩:∃C:ByteArray,C=⟨(bM 91 s.data.toList).1.toArray⟩:=⟨_,rfl⟩
 rw [<- hC]at hp;have HP:=zh hp;clear hp hC hno;have hb1:Below w.heap.size w (w.alloc (.cells #[.string ⟨#[]⟩,.string ⟨#[]⟩,.string ⟨#[]⟩,.string ⟨#[]⟩,.bool false] 47)):=(Below.refl _ w).alloc (Nat.le_refl _) _;go_enter Tryz.func101,Tryz.ntmps101
 go_wp2_with fail;have hz:=f7 (Below.refl (w.heap.size+1) (w.alloc (.cells #[.string ⟨#[]⟩,.string ⟨#[]⟩,.string ⟨#[]⟩,.string ⟨#[]⟩,.bool false] 47))) rfl;obtain ⟨W1,hW1⟩:∃W1,w.alloc (.cells #[.string ⟨#[]⟩,.string ⟨#[]⟩,.string ⟨#[]⟩,.string ⟨#[]⟩,.bool false] 47)=W1:=⟨_,rfl⟩
 rw [hW1]at hz hb1;rw [hW1];clear hW1;obtain ⟨c0,c1,c2,c3,c4,f0,f1,f2,f3,f4,hsz⟩:=hz;refine (HP.out _).mono ?_;rintro e w2 ⟨rfl,rfl⟩;go_wp2_with fail;refine bodyPost_ret (v:=.tuple #[.agg #[.string ⟨#[]⟩,.string ⟨#[]⟩,.string ⟨#[]⟩,.string ⟨#[]⟩,.bool false],.bool false]) (by simp [results,Tryz.results101,go_sem,c0,c1,c2,c3,c4,f0,f1,f2,f3,f4]) rfl ⟨?_,dh hb1⟩;exact fT (n:=⟨#[]⟩) (u:=⟨#[]⟩) (t:=⟨#[]⟩) (x:=⟨#[]⟩) HL.out
theorem qn (s C N R R2:ByteArray) (is colon:Bool) (w:World) (hE:lx w) (hs:s.size <= 1000000000)
  (h1:bM 91 s.data.toList=(C.data.toList,true)) (hCz:C.size <= s.size) (h2:az 93 C.data.toList=(N.data.toList,R.data.toList,is))
  (h3:bM 58 R.data.toList=(R2.data.toList,colon)) (h4:is=false∨(is=true∧colon=false)):
  Calls Tryz.prog 101 #[.string s] w fun e w'=>e=.returned (.tuple #[(cN s.data.toList).1.val,.bool (cN s.data.toList).2])∧Below w.heap.size w w':=by
 have HL:=zh (show cN s.data.toList=(cR.none,false) by
  unfold cN;rw [h1];simp only;rw [h2];simp only;rw [h3];simp only;rw [if_neg (by simp),if_neg (by rcases h4 with h|⟨_,h⟩<;>simp [h])])
 have hp:=fun W=>fy 91 s W;rw [h1]at hp;have hq:=fun W hW=>pq 93 C W hW (by omega);rw [h2]at hq;have hr:=fun W=>fy 58 R W;rw [h3]at hr;simp only [Lib.mk_data]at hp hq hr;have HE:=zh hE;have HP:=zh hp;have HQ:=zh hq;have HR:=zh hr;clear hp hq hr h1 h2 h3 hE;have hb1:Below w.heap.size w (w.alloc (.cells #[.string ⟨#[]⟩,.string ⟨#[]⟩,.string ⟨#[]⟩,.string ⟨#[]⟩,.bool false] 47)):=(Below.refl _ w).alloc (Nat.le_refl _) _;rcases h4 with rfl|⟨rfl,rfl⟩
 all_goals
  go_enter Tryz.func101,Tryz.ntmps101
  go_wp2_with fail;refine (HP.out _).mono ?_;rintro e w2 ⟨rfl,rfl⟩;go_wp2_with fail;refine (HQ.out _ (HE.out.below hb1)).mono ?_;rintro e w3 ⟨rfl,b3⟩;obtain ⟨c0,c1,c2,c3,c4,f0,f1,f2,f3,f4,hsz⟩:=f7 b3;have hb3:=aa hb1 b3;clear hb1 b3;go_wp2_with fail;refine (HR.out _).mono ?_;rintro e w4 ⟨rfl,rfl⟩;go_wp2_with fail;refine bodyPost_ret (v:=.tuple #[.agg #[.string ⟨#[]⟩,.string ⟨#[]⟩,.string ⟨#[]⟩,.string ⟨#[]⟩,.bool false],.bool false]) (by simp [results,Tryz.results101,go_sem,c0,c1,c2,c3,c4,f0,f1,f2,f3,f4]) rfl ⟨?_,dh hb3⟩;exact fT (n:=⟨#[]⟩) (u:=⟨#[]⟩) (t:=⟨#[]⟩) (x:=⟨#[]⟩) HL.out
def lA (w:World) (k:Nat) (u0 u1 u2 u3 u4:Value):Prop:=
 w.cell? ⟨k,0,none⟩=some u0∧w.cell? ⟨k,1,none⟩=some u1∧w.cell? ⟨k,2,none⟩=some u2∧w.cell? ⟨k,3,none⟩=some u3∧w.cell? ⟨k,4,none⟩=some u4∧
  w.frozen? ⟨k,0,none⟩=false∧w.frozen? ⟨k,1,none⟩=false∧w.frozen? ⟨k,2,none⟩=false∧w.frozen? ⟨k,3,none⟩=false∧w.frozen? ⟨k,4,none⟩=false
theorem lA.below {w w':World} {k n:Nat} {u0 u1 u2 u3 u4:Value} (h:lA w k u0 u1 u2 u3 u4) (hb:Below n w w') (hk:k<n):lA w' k u0 u1 u2 u3 u4:=by
 obtain ⟨c0,c1,c2,c3,c4,f0,f1,f2,f3,f4⟩:=h
 exact ⟨(hb.cell (p:=⟨k,0,none⟩) hk).trans c0,(hb.cell (p:=⟨k,1,none⟩) hk).trans c1,(hb.cell (p:=⟨k,2,none⟩) hk).trans c2,(hb.cell (p:=⟨k,3,none⟩) hk).trans c3,(hb.cell (p:=⟨k,4,none⟩) hk).trans c4,
  (hb.frozen (p:=⟨k,0,none⟩) hk).trans f0,(hb.frozen (p:=⟨k,1,none⟩) hk).trans f1,(hb.frozen (p:=⟨k,2,none⟩) hk).trans f2,(hb.frozen (p:=⟨k,3,none⟩) hk).trans f3,(hb.frozen (p:=⟨k,4,none⟩) hk).trans f4⟩
def World.setDef (w:World) (k:Nat) (u0 u1 u2 u3 u4:Value):World:=((((w.setCell ⟨k,0,none⟩ u0).setCell ⟨k,1,none⟩ u1).setCell ⟨k,2,none⟩ u2).setCell ⟨k,3,none⟩ u3).setCell ⟨k,4,none⟩ u4
theorem sn {w:World} {k:Nat} {v0 v1 v2 v3 v4:Value} (h:lA w k v0 v1 v2 v3 v4) (u0 u1 u2 u3 u4:Value):lA (World.setDef w k u0 u1 u2 u3 u4) k u0 u1 u2 u3 u4:=by
 obtain ⟨c0,c1,c2,c3,c4,f0,f1,f2,f3,f4⟩:=h;unfold World.setDef lA;simp [go_sem,c0,c1,c2,c3,c4,f0,f1,f2,f3,f4]
theorem ns (w:World) (k:Nat) (u0 u1 u2 u3 u4:Value):Below k w (World.setDef w k u0 u1 u2 u3 u4):=by
 unfold World.setDef;have h0:k <= k:=Nat.le_refl k;have b1:Below k w (w.setCell ⟨k,0,none⟩ u0):=(Below.refl k w).setCell h0 u0;have b2:=b1.setCell (p:=⟨k,1,none⟩) h0 u1;have b3:=b2.setCell (p:=⟨k,2,none⟩) h0 u2;have b4:=b3.setCell (p:=⟨k,3,none⟩) h0 u3;exact b4.setCell (p:=⟨k,4,none⟩) h0 u4
theorem nx {w:World} {k j:Nat} {v0 v1 v2 v3 v4:Value} (h:lA w j v0 v1 v2 v3 v4) (hk:j<k) (u0 u1 u2 u3 u4:Value):lA (World.setDef w k u0 u1 u2 u3 u4) j v0 v1 v2 v3 v4:=
 h.below (ns w k u0 u1 u2 u3 u4) hk
theorem oV (w:World) (k:Nat) (u0 u1 u2 u3 u4:Value):(World.setDef w k u0 u1 u2 u3 u4).heap.size=w.heap.size:=by
 unfold World.setDef;simp only [World.size_setCell]
theorem tF (w:World):lA (w.alloc (.cells #[.string ⟨#[]⟩,.string ⟨#[]⟩,.string ⟨#[]⟩,.string ⟨#[]⟩,.bool false] 47)) w.heap.size (.string ⟨#[]⟩) (.string ⟨#[]⟩) (.string ⟨#[]⟩) (.string ⟨#[]⟩) (.bool false):=by
 unfold lA;simp
theorem ky {w W:World} {n k:Nat} (h:Below n w W) (hk:n <= k) (u0 u1 u2 u3 u4:Value):Below n w (World.setDef W k u0 u1 u2 u3 u4):=
 h.trans ((ns W k u0 u1 u2 u3 u4).mono hk)
theorem zL (s C N X R R2 R3 T F:ByteArray) (may:Bool) (w:World) (hE:lx w) (hs:s.size <= 1000000000)
  (h1:bM 91 s.data.toList=(C.data.toList,true)) (hCz:C.size <= s.size) (h2:az 93 C.data.toList=(N.data.toList,R.data.toList,true))
  (h3:bM 58 R.data.toList=(R2.data.toList,true)) (g:Bool) (h4:dM R2.data.toList=(R3.data.toList,g)) (h5:bM 94 N.data.toList=(X.data.toList,true))
  (hXz:X.size <= s.size) (hRz:R3.size <= s.size) (h6:gH R3.data.toList=T.data.toList) (h7:eL X.data.toList=(F.data.toList,may)):
  Calls Tryz.prog 101 #[.string s] w fun e w'=>e=.returned (.tuple #[(cN s.data.toList).1.val,.bool (cN s.data.toList).2])∧Below w.heap.size w w':=by
 have HL:=zh (show cN s.data.toList=if T.data.toList≠[]∧may=true then (⟨F.data.toList,[],[],T.data.toList,true⟩,true)else (cR.none,false) by
  unfold cN;rw [h1];simp only;rw [h2];simp only;rw [h3];simp only;rw [if_neg (by simp),if_pos (by simp)];rw [h4];simp only;unfold tf;rw [h5];simp only;rw [h6,h7];simp only;rw [if_pos trivial])
 have hp:=fun W=>fy 91 s W;rw [h1]at hp;have hq:=fun W hW=>pq 93 C W hW (by omega);rw [h2]at hq;have hr:=fun W=>fy 58 R W;rw [h3]at hr;have hb:=fun W=>lP R2 W;rw [h4]at hb;have hc:=fun W=>fy 94 N W;rw [h5]at hc;have ht:=fun W=>sk R3 W (by omega);rw [h6]at ht;have hn:=fun W hW=>uF X W hW (by omega);rw [h7]at hn;simp only [Lib.mk_data]at hp hq hr hb hc ht hn;have HE:=zh hE;have HP:=zh hp;have HQ:=zh hq;have HR:=zh hr;have HB:=zh hb;have HC:=zh hc;have HT:=zh ht;have HN:=zh hn;clear hp hq hr hb hc ht hn h1 h2 h3 h4 h5 h6 h7 hE;have hb1:Below w.heap.size w (w.alloc (.cells #[.string ⟨#[]⟩,.string ⟨#[]⟩,.string ⟨#[]⟩,.string ⟨#[]⟩,.bool false] 47)):=(Below.refl _ w).alloc (Nat.le_refl _) _;have hz0:=tF w;go_enter Tryz.func101,Tryz.ntmps101
 go_wp2_with fail;obtain ⟨W1,hW1⟩:∃W1,w.alloc (.cells #[.string ⟨#[]⟩,.string ⟨#[]⟩,.string ⟨#[]⟩,.string ⟨#[]⟩,.bool false] 47)=W1:=⟨_,rfl⟩
 have hsz1:w.heap.size<W1.heap.size:=(by rw [<- hW1,World.size_alloc];omega);rw [hW1]at hz0 hb1⊢;clear hW1;refine (HP.out _).mono ?_;rintro e _ ⟨rfl,rfl⟩;go_wp2_with fail;refine (HQ.out _ (HE.out.below hb1)).mono ?_;rintro e w3 ⟨rfl,b3⟩;have hz3:=hz0.below b3 hsz1;have hsz3:w.heap.size<w3.heap.size:=(by have:=b3.size;omega);have hb3:=aa hb1 b3;clear hb1 b3 hz0 hsz1;go_wp2_with fail;refine (HR.out _).mono ?_;rintro e _ ⟨rfl,rfl⟩;go_wp2_with fail;refine (HB.out _).mono ?_;rintro e w4 ⟨rfl,b4⟩;have hz4:=hz3.below b4 hsz3;have hsz4:w.heap.size<w4.heap.size:=(by have:=b4.size;omega);have hb4:=aa hb3 b4;clear hb3 b4 hz3 hsz3;go_wp2_with fail;have hd5:=tF w4;have hz5:=hz4.below ((Below.refl w4.heap.size w4).alloc (Nat.le_refl _) (.cells #[.string ⟨#[]⟩,.string ⟨#[]⟩,.string ⟨#[]⟩,.string ⟨#[]⟩,.bool false] 47)) hsz4;have hb5:=hb4.alloc hb4.size (.cells #[.string ⟨#[]⟩,.string ⟨#[]⟩,.string ⟨#[]⟩,.string ⟨#[]⟩,.bool false] 47);obtain ⟨W5,hW5⟩:∃W5,w4.alloc (.cells #[.string ⟨#[]⟩,.string ⟨#[]⟩,.string ⟨#[]⟩,.string ⟨#[]⟩,.bool false] 47)=W5:=⟨_,rfl⟩
 have hsz5:w4.heap.size<W5.heap.size:=(by rw [<- hW5,World.size_alloc];omega);rw [hW5]at hd5 hz5 hb5⊢;clear hW5 hz4 hb4;obtain ⟨D,hD⟩:∃D,w4.heap.size=D:=⟨_,rfl⟩
 rw [hD]at hd5 hsz5 hsz4⊢;clear hD;refine (HC.out _).mono ?_;rintro e _ ⟨rfl,rfl⟩;go_wp2_with fail;refine (HT.out _).mono ?_;rintro e w6 ⟨rfl,b6⟩;have hd6:=hd5.below b6 hsz5;have hz6:=hz5.below b6 (by omega);have hsz6:D<w6.heap.size:=(by have:=b6.size;omega);have hb6:=aa hb5 b6;clear hb5 b6 hd5 hz5 hsz5;have HZ6:=zh hz6;have HD6:=zh hd6;obtain ⟨c0,c1,c2,c3,c4,f0,f1,f2,f3,f4⟩:=hd6;go_wp2_with fail;clear c0 c1 c2 c3 c4 f0 f1 f2 f3 f4;obtain ⟨W7,hW7⟩:∃W7,World.setDef w6 D (.string ⟨#[]⟩) (.string ⟨#[]⟩) (.string ⟨#[]⟩) (.string T) (.bool true)=W7:=⟨_,rfl⟩
 have hd7:=sn HD6.out (.string ⟨#[]⟩) (.string ⟨#[]⟩) (.string ⟨#[]⟩) (.string T) (.bool true);have hz7:=nx HZ6.out hsz4 (.string ⟨#[]⟩) (.string ⟨#[]⟩) (.string ⟨#[]⟩) (.string T) (.bool true);have hb7:=ky hb6 (Nat.le_of_lt hsz4) (.string ⟨#[]⟩) (.string ⟨#[]⟩) (.string ⟨#[]⟩) (.string T) (.bool true);have hsz7:=oV w6 D (.string ⟨#[]⟩) (.string ⟨#[]⟩) (.string ⟨#[]⟩) (.string T) (.bool true);rw [hW7]at hd7 hz7 hb7 hsz7;unfold World.setDef at hW7;rw [hW7];clear hW7 HZ6 HD6 hb6;refine (HN.out _ (HE.out.below hb7)).mono ?_;rintro e w8 ⟨rfl,b8⟩;have hd8:=hd7.below b8 (by omega);have hz8:=hz7.below b8 (by omega);have hb8:=aa hb7 b8;clear hd7 hz7 hb7 b8 hsz7 hsz6;by_cases hT0:0<T.size
 ·have he:=cS hT0;have hne:T.data.toList≠[]:=(by intro h;rw [Lib.size_eq,h]at hT0;exact absurd hT0 (by simp));have he2:(!T.toList.isEmpty)=true:=(by rw [he];rfl);cases may
  ·have HL2:=zh (HL.out.trans (if_neg (by simp)));clear hne;clear hd8;obtain ⟨c0,c1,c2,c3,c4,f0,f1,f2,f3,f4⟩:=hz8;go_wp2_with fail;refine bodyPost_ret (v:=.tuple #[.agg #[.string ⟨#[]⟩,.string ⟨#[]⟩,.string ⟨#[]⟩,.string ⟨#[]⟩,.bool false],.bool false]) (by simp [results,Tryz.results101,go_sem,c0,c1,c2,c3,c4,f0,f1,f2,f3,f4]) rfl ⟨?_,dh hb8⟩;exact fT (n:=⟨#[]⟩) (u:=⟨#[]⟩) (t:=⟨#[]⟩) (x:=⟨#[]⟩) HL2.out
  ·have HL2:=zh (HL.out.trans (if_pos ⟨hne,rfl⟩));clear hne;obtain ⟨c0,c1,c2,c3,c4,f0,f1,f2,f3,f4⟩:=hz8;obtain ⟨d0,d1,d2,d3,d4,g0,g1,g2,g3,g4⟩:=hd8;have hne1:w.heap.size≠D:=(by omega);have hne2:D≠w.heap.size:=(by omega);go_wp2_with fail;refine bodyPost_ret (v:=.tuple #[.agg #[.string F,.string ⟨#[]⟩,.string ⟨#[]⟩,.string T,.bool true],.bool true]) (by simp [results,Tryz.results101,go_sem,c0,c1,c2,c3,c4,f0,f1,f2,f3,f4,d0,d1,d2,d3,d4,g0,g1,g2,g3,g4,hne1,hne2]) rfl ⟨?_,?_⟩
   ·exact fT (n:=F) (u:=⟨#[]⟩) (t:=⟨#[]⟩) (x:=T) HL2.out
   ·exact dh (hb8.setCell (p:=⟨D,0,none⟩) (by simp;omega) _)
 ·have he:=cE (s:=T) (by omega);have hnil:T.data.toList=[]:=List.eq_nil_of_length_eq_zero (by rw [<- Lib.size_eq];omega);have he2:(!T.toList.isEmpty)=false:=(by rw [he];rfl);have HL2:=zh (HL.out.trans (if_neg (by simp [hnil])));clear hnil;clear hd8;obtain ⟨c0,c1,c2,c3,c4,f0,f1,f2,f3,f4⟩:=hz8;go_wp2_with fail;refine bodyPost_ret (v:=.tuple #[.agg #[.string ⟨#[]⟩,.string ⟨#[]⟩,.string ⟨#[]⟩,.string ⟨#[]⟩,.bool false],.bool false]) (by simp [results,Tryz.results101,go_sem,c0,c1,c2,c3,c4,f0,f1,f2,f3,f4]) rfl ⟨?_,dh hb8⟩;exact fT (n:=⟨#[]⟩) (u:=⟨#[]⟩) (t:=⟨#[]⟩) (x:=⟨#[]⟩) HL2.out
theorem zI (s C N R R2 R3 U V F:ByteArray) (is may:Bool) (w:World) (hE:lx w) (hs:s.size <= 1000000000)
  (h1:bM 91 s.data.toList=(C.data.toList,true)) (hCz:C.size <= s.size) (h2:az 93 C.data.toList=(N.data.toList,R.data.toList,true))
  (h3:bM 58 R.data.toList=(R2.data.toList,true)) (g:Bool) (h4:dM R2.data.toList=(R3.data.toList,g)) (h5:bM 94 N.data.toList=(N.data.toList,false))
  (hNz:N.size <= s.size) (hRz:R3.size <= s.size) (h6:jB R3.data.toList=(U.data.toList,V.data.toList,is)) (h7:eL N.data.toList=(F.data.toList,may)):
  Calls Tryz.prog 101 #[.string s] w fun e w'=>e=.returned (.tuple #[(cN s.data.toList).1.val,.bool (cN s.data.toList).2])∧Below w.heap.size w w':=by
 have HL:=zh (show cN s.data.toList=if is=true∧may=true then (⟨F.data.toList,U.data.toList,V.data.toList,[],false⟩,true)else (cR.none,false) by
  unfold cN;rw [h1];simp only;rw [h2];simp only;rw [h3];simp only;rw [if_neg (by simp),if_pos (by simp)];rw [h4];simp only;unfold tf;rw [h5];simp only;rw [h6,h7];simp only;rw [if_neg (by simp)])
 have hp:=fun W=>fy 91 s W;rw [h1]at hp;have hq:=fun W hW=>pq 93 C W hW (by omega);rw [h2]at hq;have hr:=fun W=>fy 58 R W;rw [h3]at hr;have hb:=fun W=>lP R2 W;rw [h4]at hb;have hc:=fun W=>fy 94 N W;rw [h5]at hc;have ht:=fun W hW=>BM R3 W hW (by omega);rw [h6]at ht;have hn:=fun W hW=>uF N W hW (by omega);rw [h7]at hn;simp only [Lib.mk_data,tU]at hp hq hr hb hc ht hn;have HE:=zh hE;have HP:=zh hp;have HQ:=zh hq;have HR:=zh hr;have HB:=zh hb;have HC:=zh hc;have HT:=zh ht;have HN:=zh hn;clear hp hq hr hb hc ht hn h1 h2 h3 h4 h5 h6 h7 hE;have hb1:Below w.heap.size w (w.alloc (.cells #[.string ⟨#[]⟩,.string ⟨#[]⟩,.string ⟨#[]⟩,.string ⟨#[]⟩,.bool false] 47)):=(Below.refl _ w).alloc (Nat.le_refl _) _;have hz0:=tF w;go_enter Tryz.func101,Tryz.ntmps101
 go_wp2_with fail;obtain ⟨W1,hW1⟩:∃W1,w.alloc (.cells #[.string ⟨#[]⟩,.string ⟨#[]⟩,.string ⟨#[]⟩,.string ⟨#[]⟩,.bool false] 47)=W1:=⟨_,rfl⟩
 have hsz1:w.heap.size<W1.heap.size:=(by rw [<- hW1,World.size_alloc];omega);rw [hW1]at hz0 hb1⊢;clear hW1;refine (HP.out _).mono ?_;rintro e _ ⟨rfl,rfl⟩;go_wp2_with fail;refine (HQ.out _ (HE.out.below hb1)).mono ?_;rintro e w3 ⟨rfl,b3⟩;have hz3:=hz0.below b3 hsz1;have hsz3:w.heap.size<w3.heap.size:=(by have:=b3.size;omega);have hb3:=aa hb1 b3;clear hb1 b3 hz0 hsz1;go_wp2_with fail;refine (HR.out _).mono ?_;rintro e _ ⟨rfl,rfl⟩;go_wp2_with fail;refine (HB.out _).mono ?_;rintro e w4 ⟨rfl,b4⟩;have hz4:=hz3.below b4 hsz3;have hsz4:w.heap.size<w4.heap.size:=(by have:=b4.size;omega);have hb4:=aa hb3 b4;clear hb3 b4 hz3 hsz3;go_wp2_with fail;have hd5:=tF w4;have hz5:=hz4.below ((Below.refl w4.heap.size w4).alloc (Nat.le_refl _) (.cells #[.string ⟨#[]⟩,.string ⟨#[]⟩,.string ⟨#[]⟩,.string ⟨#[]⟩,.bool false] 47)) hsz4;have hb5:=hb4.alloc hb4.size (.cells #[.string ⟨#[]⟩,.string ⟨#[]⟩,.string ⟨#[]⟩,.string ⟨#[]⟩,.bool false] 47);obtain ⟨W5,hW5⟩:∃W5,w4.alloc (.cells #[.string ⟨#[]⟩,.string ⟨#[]⟩,.string ⟨#[]⟩,.string ⟨#[]⟩,.bool false] 47)=W5:=⟨_,rfl⟩
 have hsz5:w4.heap.size<W5.heap.size:=(by rw [<- hW5,World.size_alloc];omega);rw [hW5]at hd5 hz5 hb5⊢;clear hW5 hz4 hb4;obtain ⟨D,hD⟩:∃D,w4.heap.size=D:=⟨_,rfl⟩
 rw [hD]at hd5 hsz5 hsz4⊢;clear hD;refine (HC.out _).mono ?_;rintro e _ ⟨rfl,rfl⟩;go_wp2_with fail;refine (HT.out _ (HE.out.below hb5)).mono ?_;rintro e w6 ⟨rfl,b6⟩;have hd6:=hd5.below b6 hsz5;have hz6:=hz5.below b6 (by omega);have hsz6:D<w6.heap.size:=(by have:=b6.size;omega);have hb6:=aa hb5 b6;clear hb5 b6 hd5 hz5 hsz5;have HZ6:=zh hz6;have HD6:=zh hd6;obtain ⟨c0,c1,c2,c3,c4,f0,f1,f2,f3,f4⟩:=hd6;go_wp2_with fail;clear c0 c1 c2 c3 c4 f0 f1 f2 f3 f4;obtain ⟨W7,hW7⟩:∃W7,World.setDef w6 D (.string ⟨#[]⟩) (.string U) (.string V) (.string ⟨#[]⟩) (.bool false)=W7:=⟨_,rfl⟩
 have hd7:=sn HD6.out (.string ⟨#[]⟩) (.string U) (.string V) (.string ⟨#[]⟩) (.bool false);have hz7:=nx HZ6.out hsz4 (.string ⟨#[]⟩) (.string U) (.string V) (.string ⟨#[]⟩) (.bool false);have hb7:=ky hb6 (Nat.le_of_lt hsz4) (.string ⟨#[]⟩) (.string U) (.string V) (.string ⟨#[]⟩) (.bool false);have hsz7:=oV w6 D (.string ⟨#[]⟩) (.string U) (.string V) (.string ⟨#[]⟩) (.bool false);rw [hW7]at hd7 hz7 hb7 hsz7;unfold World.setDef at hW7;rw [hW7];clear hW7 HZ6 HD6 hb6;refine (HN.out _ (HE.out.below hb7)).mono ?_;rintro e w8 ⟨rfl,b8⟩;have hd8:=hd7.below b8 (by omega);have hz8:=hz7.below b8 (by omega);have hb8:=aa hb7 b8;clear hd7 hz7 hb7 b8 hsz7 hsz6;cases is
 ·have HL2:=zh (HL.out.trans (if_neg (by simp)));clear hd8;obtain ⟨c0,c1,c2,c3,c4,f0,f1,f2,f3,f4⟩:=hz8;go_wp2_with fail;refine bodyPost_ret (v:=.tuple #[.agg #[.string ⟨#[]⟩,.string ⟨#[]⟩,.string ⟨#[]⟩,.string ⟨#[]⟩,.bool false],.bool false]) (by simp [results,Tryz.results101,go_sem,c0,c1,c2,c3,c4,f0,f1,f2,f3,f4]) rfl ⟨?_,dh hb8⟩;exact fT (n:=⟨#[]⟩) (u:=⟨#[]⟩) (t:=⟨#[]⟩) (x:=⟨#[]⟩) HL2.out
 ·cases may
  ·have HL2:=zh (HL.out.trans (if_neg (by simp)));clear hd8;obtain ⟨c0,c1,c2,c3,c4,f0,f1,f2,f3,f4⟩:=hz8;go_wp2_with fail;refine bodyPost_ret (v:=.tuple #[.agg #[.string ⟨#[]⟩,.string ⟨#[]⟩,.string ⟨#[]⟩,.string ⟨#[]⟩,.bool false],.bool false]) (by simp [results,Tryz.results101,go_sem,c0,c1,c2,c3,c4,f0,f1,f2,f3,f4]) rfl ⟨?_,dh hb8⟩;exact fT (n:=⟨#[]⟩) (u:=⟨#[]⟩) (t:=⟨#[]⟩) (x:=⟨#[]⟩) HL2.out
  ·have HL2:=zh (HL.out.trans (if_pos ⟨rfl,rfl⟩));obtain ⟨c0,c1,c2,c3,c4,f0,f1,f2,f3,f4⟩:=hz8;obtain ⟨d0,d1,d2,d3,d4,g0,g1,g2,g3,g4⟩:=hd8;have hne1:w.heap.size≠D:=(by omega);have hne2:D≠w.heap.size:=(by omega);go_wp2_with fail;refine bodyPost_ret (v:=.tuple #[.agg #[.string F,.string U,.string V,.string ⟨#[]⟩,.bool false],.bool true]) (by simp [results,Tryz.results101,go_sem,c0,c1,c2,c3,c4,f0,f1,f2,f3,f4,d0,d1,d2,d3,d4,g0,g1,g2,g3,g4,hne1,hne2]) rfl ⟨?_,?_⟩
   ·exact fT (n:=F) (u:=U) (t:=V) (x:=⟨#[]⟩) HL2.out
   ·exact dh (hb8.setCell (p:=⟨D,0,none⟩) (by simp;omega) _)
theorem xZ (c:UInt8) (l:List UInt8):(az c l).1.length <= l.length∧(az c l).2.1.length <= l.length:=by
 unfold az Lib.cut;split
 ·simp only [List.length_take,List.length_drop];omega
 ·simp
theorem n8 (c:UInt8) (l:List UInt8):(bM c l).1.length <= l.length:=by
 unfold bM Lib.trimPrefix;simp only;split<;>simp
theorem jP (l:List UInt8):∃X:ByteArray,X.data.toList=l∧X.size=l.length:=⟨⟨l.toArray⟩,rfl,by rw [Lib.size_eq]⟩
theorem uO {c:UInt8} {l:List UInt8} (h:(bM c l).2=false):(bM c l).1=l:=by
 unfold bM at h⊢;simp only at h⊢;unfold Lib.trimPrefix;rw [h,if_neg (by simp)]
theorem BL (s:ByteArray) (w:World) (hE:lx w) (hs:s.size <= 1000000000):
  Calls Tryz.prog 101 #[.string s] w fun e w'=>e=.returned (.tuple #[(cN s.data.toList).1.val,.bool (cN s.data.toList).2])∧Below w.heap.size w w':=by
 cases hb:(bM 91 s.data.toList).2 with
 |false=>exact zK s w hE hs hb
 |true=>
  obtain ⟨C,hC,hCz⟩:=jP (bM 91 s.data.toList).1;have hCl:=n8 91 s.data.toList;rw [<- hCz,<- Lib.size_eq]at hCl;obtain ⟨N,hN,hNz⟩:=jP (az 93 C.data.toList).1;obtain ⟨R,hR,hRz⟩:=jP (az 93 C.data.toList).2.1;have hcl:=xZ 93 C.data.toList;rw [<- hNz,<- hRz,<- Lib.size_eq]at hcl;obtain ⟨R2,hR2,hR2z⟩:=jP (bM 58 R.data.toList).1;have hR2l:=n8 58 R.data.toList;rw [<- hR2z,<- Lib.size_eq]at hR2l;have e1:bM 91 s.data.toList=(C.data.toList,true):=(by rw [hC,<- hb]);have e2:az 93 C.data.toList=(N.data.toList,R.data.toList,(az 93 C.data.toList).2.2):=(by rw [hN,hR]);have e3:bM 58 R.data.toList=(R2.data.toList,(bM 58 R.data.toList).2):=(by rw [hR2]);cases h2:(az 93 C.data.toList).2.2 with
  |false=>exact qn s C N R R2 false _ w hE hs e1 hCl (by rw [<- h2];exact e2) e3 (Or.inl rfl)
  |true=>
   cases h3:(bM 58 R.data.toList).2 with
   |false=>exact qn s C N R R2 true false w hE hs e1 hCl (by rw [<- h2];exact e2) (by rw [<- h3];exact e3) (Or.inr ⟨rfl,rfl⟩)
   |true=>
    rw [h2]at e2;rw [h3]at e3;obtain ⟨R3,hR3,hR3z⟩:=jP (dM R2.data.toList).1;have hR3l:=rt R2.data.toList;rw [<- hR3z,<- Lib.size_eq]at hR3l;have e4:dM R2.data.toList=(R3.data.toList,(dM R2.data.toList).2):=(by rw [hR3]);cases h5:(bM 94 N.data.toList).2 with
    |true=>
     obtain ⟨X,hX,hXz⟩:=jP (bM 94 N.data.toList).1;have hXl:=n8 94 N.data.toList;rw [<- hXz,<- Lib.size_eq]at hXl;obtain ⟨T,hT,_⟩:=jP (gH R3.data.toList);obtain ⟨F,hF,_⟩:=jP (eL X.data.toList).1;exact zL s C N X R R2 R3 T F (eL X.data.toList).2 w hE hs e1 hCl e2 e3 _ e4 (by rw [hX,<- h5]) (by omega) (by omega) hT.symm (by rw [hF])
    |false=>
     have e5:=uO h5;obtain ⟨U,hU,_⟩:=jP (jB R3.data.toList).1;obtain ⟨V,hV,_⟩:=jP (jB R3.data.toList).2.1;obtain ⟨F,hF,_⟩:=jP (eL N.data.toList).1;exact zI s C N R R2 R3 U V F (jB R3.data.toList).2.2 (eL N.data.toList).2 w hE hs e1 hCl e2 e3 _ e4 (Prod.ext e5 h5) (by omega) (by omega) (by rw [hU,hV]) (by rw [hF])
theorem rO (c:UInt8):∀(a b:List UInt8),c∉a ->Lib.index (a++c::b) [c]=(a.length:Int)
 |[],b,_=>by simp [Lib.index]
 |x::a,b,h=>by
  have hx:c≠x:=fun e=>h (by rw [e];exact List.mem_cons_self ..);have ih:=rO c a b (fun e=>h (List.mem_cons_of_mem _ e));show (if ([c]:List UInt8).isPrefixOf (x::(a++c::b))then (0:Int)else if Lib.index (a++c::b) [c]== -1 then -1 else Lib.index (a++c::b) [c]+1)=_;rw [ih,if_neg (by simp [List.isPrefixOf,hx]),if_neg (by simp),List.length_cons];omega
theorem mF (c:UInt8) (a b:List UInt8) (h:c∉a):az c (a++c::b)=(a,b,true):=by
 unfold az Lib.cut;rw [rO c a b h,if_pos (by omega),show ((a.length:Int)).toNat=a.length by omega,List.take_left' rfl];congr 1;rw [show a++c::b=(a++[c])++b by simp,List.drop_left' (by simp)]
theorem dW.cons {c:UInt8} {l:List UInt8} (hc:97 <= c.toNat∧c.toNat <= 122) (h:dW l):dW (c::l):=fun b hb=>by
 rcases List.mem_cons.1 hb with e|e
 ·rw [e];exact hc
 ·exact h b e
theorem dW.nil:dW []:=fun b hb=>by cases hb
theorem td:(Tryz.prog.info? 47).map (fun i=>(i.zero,i.size,i.bytes))=some (some (.agg #[.string ⟨#[]⟩,.string ⟨#[]⟩,.string ⟨#[]⟩,.string ⟨#[]⟩,.bool false]),5,72):=by kernel_rfl
def pC:Value ->Nat
 | .string s=>s.size
 |_=>0
def cR.cells (d:cR):List Value:=[.string ⟨d.name.toArray⟩,.string ⟨d.url.toArray⟩,.string ⟨d.title.toArray⟩,.string ⟨d.text.toArray⟩,.bool d.note]
def ce (l:List cR):List Value:=l.flatMap cR.cells
theorem ik (l:List cR) (d:cR):ce (l++[d])=ce l++d.cells:=by simp [ce]
def ou (w:World) (tv:Value):Option (List cR) ->Prop
 |none=>tv=.pointer none
 |some ds=>∃b sv,tv=.pointer (some ⟨b,0,none⟩)∧w.heap[b]? =some (.cells #[sv] 58 (0,0))∧w.ownsRow 0 47 5 sv ds.length (ce ds)
theorem ou.below {w w':World} {tv:Value} {t:Option (List cR)} (h:ou w tv t) (hb:Below w.heap.size w w'):ou w' tv t:=by
 cases t with
 |none=>exact h
 |some ds=>
  obtain ⟨b,sv,h1,h2,h3⟩:=h;exact ⟨b,sv,h1,(hb.block b (Array.getElem?_eq_some_iff.1 h2).1).trans h2,ae h3 hb⟩
theorem ou.cell {w:World} {b:Nat} {sv:Value} {T:TypeId} (h:w.heap[b]? =some (.cells #[sv] T (0,0))):w.cell? ⟨b,0,none⟩=some sv:=by
 rw [cell_of_row w b 0 _ _ _ h];rfl
theorem mG (d:cR):(cR.cells d).length=5:=rfl
theorem aY.dfn {w:World} {g o n:Nat} {l:List cR} (h:aY w 5 (some ⟨g,o,none⟩) n (ce l)) (k:Nat) (d:cR) (hk:l[k]? =some d):
  w.cell? ⟨g,o+k*5,none⟩=some (.string ⟨d.name.toArray⟩)∧w.cell? ⟨g,o+k*5+1,none⟩=some (.string ⟨d.url.toArray⟩)∧w.cell? ⟨g,o+k*5+2,none⟩=some (.string ⟨d.title.toArray⟩)∧w.cell? ⟨g,o+k*5+3,none⟩=some (.string ⟨d.text.toArray⟩)∧w.cell? ⟨g,o+k*5+4,none⟩=some (.bool d.note):=
 ⟨h.cell mG k 0 d _ hk (by omega) rfl,h.cell mG k 1 d _ hk (by omega) rfl,h.cell mG k 2 d _ hk (by omega) rfl,h.cell mG k 3 d _ hk (by omega) rfl,h.cell mG k 4 d _ hk (by omega) rfl⟩
def tJ (ds:List cR) (x:List UInt8) (note:Bool) (n:Int):Prop:=(n=(-1:Int)∧eg ds x note=none)∨∃(k:Nat) (d:cR),n=(k:Int)∧k<ds.length∧ds[k]? =some d∧eg ds x note=some d
theorem rY (d:cR) (ds:List cR) (x:List UInt8) (note:Bool):eg (d::ds) x note=if (d.name==x&&d.note==note)=true then some d else eg ds x note:=by
 unfold eg;rw [List.find?_cons];cases (d.name==x&&d.note==note)<;>rfl
theorem yc (b:Nat) (sv:Value) (ds:List cR) (x:List UInt8) (note:Bool) (w:World) (hb:w.heap[b]? =some (.cells #[sv] 58 (0,0))) (ho:w.ownsRow 0 47 5 sv ds.length (ce ds)) (hl:ds.length <= 1000000000):
  Calls Tryz.prog 131 #[.pointer (some ⟨b,0,none⟩),.string ⟨x.toArray⟩,.bool note] w fun e w'=>∃n,e=.returned (.int .i64 n)∧tJ ds x note n∧Below w.heap.size w w':=by
 have hc:=ou.cell hb;obtain ⟨ao,c,hsv,hR,_⟩:=ab ho;subst hsv;have HR:=zh hR;clear hR ho hb;go_enter Tryz.func131,Tryz.ntmps131
 go_wp2_with fail;go_loopw [14] (fun u14 wr=>∃k:Nat,k <= ds.length∧u14=.int .i64 k∧Below w.heap.size w wr∧eg (ds.drop k) x note=eg ds x note) (fun u14 _=>ds.length - (intOf u14).toNat)
 case atStart=>exact ⟨0,Nat.zero_le _,rfl,Below.refl _ _,rfl⟩
 case round=>
  obtain ⟨k,hk,rfl,hB,hlk⟩:=hrel;by_cases hlt:k<ds.length
  ·obtain ⟨d,hd⟩:∃d,ds[k]? =some d:=⟨ds[k],by simp [hlt]⟩
   obtain ⟨g,o,rfl⟩:∃g o,ao=some ⟨g,o,none⟩:=by
    cases hao:ao with
    |none=>have:=HR.out.non hao;omega
    |some ad=>
     obtain ⟨g,o,sp⟩:=ad;obtain rfl:sp=none:=(HR.out.at' _ hao).1;exact ⟨g,o,rfl⟩
   obtain ⟨c0,c1,c2,c3,c4⟩:=(HR.out.below hB).dfn k d hd;have hdr:ds.drop k=d::ds.drop (k+1):=by
    obtain ⟨h1,h2⟩:=List.getElem?_eq_some_iff.1 hd;rw [<- h2,List.getElem_cons_drop]
   rw [hdr,rY]at hlk;have HLK:=zh hlk;have HD:=zh hd;clear hlk hd hdr;have hB2:=hB.alloc hB.size (.cells #[.string ⟨d.name.toArray⟩,.string ⟨d.url.toArray⟩,.string ⟨d.title.toArray⟩,.string ⟨d.text.toArray⟩,.bool d.note] 47);by_cases hq:d.name=x
   ·subst hq;cases hnn:(d.note==note)
    ·have HN:=zh (show eg (ds.drop (k+1)) d.name note=eg ds d.name note by have:=HLK.out;rwa [hnn,Bool.and_false,if_neg (by simp)]at this);go_wp2_with fail;go_roundw;case rel=>exact ⟨k+1,by omega,by go_num,hB2,HN.out⟩
     case measure=>simp [intOf];omega
    ·have HN:=zh (show eg ds d.name note=some d by have:=HLK.out;rw [hnn,Bool.and_true,if_pos (by simp)]at this;exact this.symm);go_wp2_with fail;go_ret;exact ⟨k,rfl,Or.inr ⟨k,d,rfl,hlt,HD.out,HN.out⟩,hB2⟩
   ·have HN:=zh (show eg (ds.drop (k+1)) x note=eg ds x note by have:=HLK.out;rwa [show (d.name==x)=false by simpa using hq,Bool.false_and,if_neg (by simp)]at this);go_wp2_with fail;go_roundw;case rel=>exact ⟨k+1,by omega,by go_num,hB2,HN.out⟩
    case measure=>simp [intOf];omega
  ·obtain rfl:k=ds.length:=(by omega);have HN:=zh (show eg ds x note=none by rw [<- hlk,List.drop_length];rfl);clear hlk;go_wp2_with fail;go_ret;exact ⟨-1,rfl,Or.inl ⟨rfl,HN.out⟩,hB⟩
def pJ (B:Nat) (w:World) (b:Nat) (ds:List cR):Prop:=B <= b∧∃sv,w.heap[b]? =some (.cells #[sv] 58 (0,0))∧w.ownsRow B 47 5 sv ds.length (ce ds)
theorem pJ.below {B:Nat} {w w':World} {b:Nat} {ds:List cR} (h:pJ B w b ds) (hb:Below w.heap.size w w'):pJ B w' b ds:=by
 obtain ⟨h0,sv,h1,h2⟩:=h;exact ⟨h0,sv,(hb.block b (Array.getElem?_eq_some_iff.1 h1).1).trans h1,ae h2 hb⟩
theorem pJ.at' {B:Nat} {w:World} {b:Nat} {ds:List cR} (h:pJ B w b ds):ou w (.pointer (some ⟨b,0,none⟩)) (some ds):=by
 obtain ⟨h0,sv,h1,h2⟩:=h;exact ⟨b,sv,rfl,h1,dQ h2 (Nat.zero_le _)⟩
def iU (ds:List cR) (d:cR):List cR×Bool:=if (eg ds d.name d.note).isSome then (ds,false)else (ds++[d],true)
theorem oC (d:cR):∀u∈[Value.string ⟨d.name.toArray⟩,.string ⟨d.url.toArray⟩,.string ⟨d.title.toArray⟩,.string ⟨d.text.toArray⟩,.bool d.note],u.oneCell'=true:=by
 intro u hu;simp at hu;rcases hu with rfl|rfl|rfl|rfl|rfl<;>rfl
theorem cV {w:World} {base:Nat} {e T:TypeId} {size n P:Nat} {v:Value} {xs:List Value} {cs:Array Value} (h:w.ownsRow base e size v n xs) (hP:w.heap[P]? =some (.cells cs T (0,0))) (he:e≠T):some P≠v.ownBlock:=by
 intro h0;rcases h.2 with ⟨rfl,_⟩|⟨g,cap,cur,rfl,_,hg,_⟩
 ·simp [Value.ownBlock]at h0
 ·simp [Value.ownBlock]at h0;subst h0;rw [hg]at hP;simp at hP;exact he hP.2
theorem aX {w w':World} {k j:Nat} {u:Value} (h:w.cell? ⟨k,j,none⟩=some u) (hk:w'.heap[k]? =w.heap[k]?):w'.cell? ⟨k,j,none⟩=some u:=by
 rw [<- h];unfold World.cell?;rw [hk]
theorem kT:(Tryz.prog.info? 45).map (fun i=>(i.zero,i.size,i.bytes))=some (some (.agg #[.int .i64 0,.int .i64 0,.int .i64 0,.bool false,.string ⟨#[]⟩,.string ⟨#[]⟩]),6,64):=by kernel_rfl
def bS (x:aI):List Value:=[.int .i64 (x.kind:Int),.int .i64 (x.depth:Int),.int .i64 x.n,.bool x.tight,.string ⟨x.text.toArray⟩,.string ⟨x.info.toArray⟩]
def EH (x:aI):Value:=.agg #[.int .i64 (x.kind:Int),.int .i64 (x.depth:Int),.int .i64 x.n,.bool x.tight,.string ⟨x.text.toArray⟩,.string ⟨x.info.toArray⟩]
theorem pp (x:aI):(bS x).length=6:=rfl
theorem xV (x:aI):∀u∈[Value.int .i64 (x.kind:Int),.int .i64 (x.depth:Int),.int .i64 x.n,.bool x.tight,.string ⟨x.text.toArray⟩,.string ⟨x.info.toArray⟩],u.oneCell'=true:=by
 intro u hu;simp at hu;rcases hu with rfl|rfl|rfl|rfl|rfl|rfl<;>rfl
def cP (B:Nat) (w:World) (v:Value) (l:List aI):Prop:=w.ownsRow B 45 6 v l.length (l.flatMap bS)
structure gw (B b:Nat) (w:World) (lv:Value) (pos d:Nat) (ov:Value) (out:List aI):Prop where
 heap:w.heap[b]? =some (.cells #[lv,.int .i64 (pos:Int),.int .i64 (d:Int),ov] 163 (0,0))
 own:cP B w ov out
 base:B <= b
theorem gw.lt {B b:Nat} {w:World} {lv:Value} {pos d:Nat} {ov:Value} {out:List aI} (h:gw B b w lv pos d ov out):b<w.heap.size:=(Array.getElem?_eq_some_iff.1 h.heap).1
theorem gw.below {B b:Nat} {w w':World} {lv:Value} {pos d:Nat} {ov:Value} {out:List aI} (h:gw B b w lv pos d ov out) (hb:Below w.heap.size w w'):gw B b w' lv pos d ov out:=
 ⟨(hb.block b h.lt).trans h.heap,ae h.own hb,h.base⟩
theorem gw.cells {B b:Nat} {w:World} {lv:Value} {pos d:Nat} {ov:Value} {out:List aI} (h:gw B b w lv pos d ov out):
  w.cell? ⟨b,0,none⟩=some lv∧w.cell? ⟨b,1,none⟩=some (.int .i64 (pos:Int))∧w.cell? ⟨b,2,none⟩=some (.int .i64 (d:Int))∧w.cell? ⟨b,3,none⟩=some ov:=
 ⟨by rw [cell_of_row w b _ _ _ _ h.heap];rfl,by rw [cell_of_row w b _ _ _ _ h.heap];rfl,by rw [cell_of_row w b _ _ _ _ h.heap];rfl,by rw [cell_of_row w b _ _ _ _ h.heap];rfl⟩
theorem gw.frozen {B b:Nat} {w:World} {lv:Value} {pos d:Nat} {ov:Value} {out:List aI} (h:gw B b w lv pos d ov out) (j:Nat):w.frozen? ⟨b,j,none⟩=false:=frozen_of_row w b j _ _ h.heap
structure Kp (B b:Nat) (ov:Value) (w w':World):Prop where
 below:Below B w w'
 keep:∀k,k<w.heap.size ->k≠b ->some k≠ov.ownBlock ->w'.heap[k]? =w.heap[k]?
def ct (B b:Nat) (w:World) (lv:Value) (d:Nat) (ov:Value) (pos':Nat) (out':List aI) (w':World):Prop:=
 ∃ov',gw B b w' lv pos' d ov' out'∧Kp B b ov w w'∧(ov'.ownBlock=ov.ownBlock∨∃g,ov'.ownBlock=some g∧w.heap.size <= g)
theorem Kp.refl (B b:Nat) (ov:Value) (w:World):Kp B b ov w w:=⟨Below.refl _ _,fun _ _ _ _=>rfl⟩
theorem Kp.of_below {B b:Nat} {ov:Value} {w w':World} (h:Below w.heap.size w w') (hB:B <= w.heap.size):Kp B b ov w w':=⟨h.mono hB,fun k hk _ _=>h.block k hk⟩
theorem Kp.trans {B b:Nat} {ov ov1:Value} {w w1 w2:World} (h:Kp B b ov w w1) (ho:ov1.ownBlock=ov.ownBlock∨∃g,ov1.ownBlock=some g∧w.heap.size <= g) (h2:Kp B b ov1 w1 w2):Kp B b ov w w2:=
 ⟨h.below.trans h2.below,fun k hk hb hne=>(h2.keep k (Nat.lt_of_lt_of_le hk h.below.size) hb (by
  rcases ho with e|⟨g,e,hg⟩
  ·rw [e];exact hne
  ·rw [e];intro h0;have:=Option.some.inj h0;omega)).trans (h.keep k hk hb hne)⟩
theorem ct.trans {B b:Nat} {w w1 w2:World} {lv:Value} {d:Nat} {ov ov1:Value} {p2:Nat} {o2:List aI} (hk:Kp B b ov w w1) (ho:ov1.ownBlock=ov.ownBlock∨∃g,ov1.ownBlock=some g∧w.heap.size <= g)
  (h2:ct B b w1 lv d ov1 p2 o2 w2):ct B b w lv d ov p2 o2 w2:=by
 obtain ⟨ov2,g1,g2,g3⟩:=h2;refine ⟨ov2,g1,hk.trans ho g2,?_⟩;rcases g3 with e|⟨g,e,hg⟩
 ·rcases ho with e2|⟨g,e2,hg⟩
  ·exact Or.inl (e.trans e2)
  ·exact Or.inr ⟨g,e.trans e2,hg⟩
 ·exact Or.inr ⟨g,e,Nat.le_trans hk.below.size hg⟩
theorem eh {w w':World} {base:Nat} {e:TypeId} {size:Nat} {v:Value} {n:Nat} {xs:List Value} (h:w.ownsRow base e size v n xs) (hk:∀g,v.ownBlock=some g ->w'.heap[g]? =w.heap[g]?):w'.ownsRow base e size v n xs:=by
 obtain ⟨h1,h2⟩:=h;refine ⟨h1,?_⟩;rcases h2 with h2|⟨g,cap,cur,hv,hb,hh,r⟩
 ·exact Or.inl h2
 ·refine Or.inr ⟨g,cap,cur,hv,hb,?_,r⟩;rw [hk g (by rw [hv];rfl)];exact hh
theorem Kp.own {B b B2:Nat} {w w':World} {lv:Value} {pos d:Nat} {ov:Value} {out:List aI} {e:TypeId} {size:Nat} {v:Value} {n:Nat} {xs:List Value} (hk:Kp B b ov w w') (h:gw B b w lv pos d ov out) (hr:w.ownsRow B2 e size v n xs) (h1:e≠163) (h2:e≠45):w'.ownsRow B2 e size v n xs:=by
 refine eh hr fun g hg=>hk.keep g (World.ownsRow.lt hr g hg).2 (fun e0=>?_) (fun e0=>?_)
 ·have:=cV hr h.heap h1;rw [hg,e0]at this;exact this rfl
 ·rcases aZ hr h.own h2 with h0|h0
  ·rw [hg]at h0;cases h0
  ·exact h0 (by rw [hg];exact e0)
theorem bO.belowB {B:Nat} {w w':World} {lao:Option Addr} {ls:List (List UInt8)} (h:bO w lao ls) (hb:Below B w w') (hl:∀ad,lao=some ad ->ad.block<B):bO w' lao ls:=
 ⟨h.len,h.non,fun ad had=>⟨(aY.at' h ad had).1,fun j u hu=>by
  have hc:=(aY.at' h ad had).2 j u hu;have hbl:(ad.add j).block=ad.block:=(by rw [gb _ (aY.at' h ad had).1]);exact (hb.cell (by rw [hbl];exact hl ad had)).trans hc⟩⟩
theorem rx {B:Nat} {w:World} {v:Value} {l:List aI} {p:aI} {cs:List Value} (h:w.ownsRow B 45 6 v (l.length+1) (l.flatMap bS++cs)) (hc:cs=bS p):cP B w v (l++[p]):=by
 unfold cP;rw [List.length_append,List.flatMap_append,List.flatMap_cons,List.flatMap_nil,List.append_nil,<- hc];exact h
theorem pR (B b:Nat) (lv ov:Value) (pos d:Nat) (out:List aI) (x:aI) (w:World) (h:gw B b w lv pos d ov out) (hl:out.length <= 1000000000):
  Calls Tryz.prog 158 #[.pointer (some ⟨b,0,none⟩),EH x] w fun e w'=>e=.returned (.tuple #[])∧ct B b w lv d ov pos (out++[{x with depth:=d}]) w':=by
 obtain ⟨i0,hi,hz0,hz1,hz2⟩:=info_parts kT;have hbl:=h.lt;have hBb:=h.base;have hb1:Below w.heap.size w (w.alloc (.cells #[.int .i64 (x.kind:Int),.int .i64 (x.depth:Int),.int .i64 x.n,.bool x.tight,.string ⟨x.text.toArray⟩,.string ⟨x.info.toArray⟩] 45)):=(Below.refl _ w).alloc (Nat.le_refl _) _;have hk1:(w.alloc (.cells #[.int .i64 (x.kind:Int),.int .i64 (x.depth:Int),.int .i64 x.n,.bool x.tight,.string ⟨x.text.toArray⟩,.string ⟨x.info.toArray⟩] 45)).heap[w.heap.size]? =some (.cells #[.int .i64 (x.kind:Int),.int .i64 (x.depth:Int),.int .i64 x.n,.bool x.tight,.string ⟨x.text.toArray⟩,.string ⟨x.info.toArray⟩] 45 (0,0)):=heap_alloc_new w _;have h1:=h.below hb1;obtain ⟨W1,hW1⟩:∃W1,w.alloc (.cells #[.int .i64 (x.kind:Int),.int .i64 (x.depth:Int),.int .i64 x.n,.bool x.tight,.string ⟨x.text.toArray⟩,.string ⟨x.info.toArray⟩] 45)=W1:=⟨_,rfl⟩
 rw [hW1]at hb1 hk1 h1;have hk2:(W1.setCell ⟨w.heap.size,1,none⟩ (.int .i64 (d:Int))).heap[w.heap.size]? =some (.cells #[.int .i64 (x.kind:Int),.int .i64 (d:Int),.int .i64 x.n,.bool x.tight,.string ⟨x.text.toArray⟩,.string ⟨x.info.toArray⟩] 45 (0,0)):=heap_setCell_same W1 w.heap.size 1 _ _ _ hk1;have hb2:=hb1.setCell (p:=⟨w.heap.size,1,none⟩) (Nat.le_refl _) (.int .i64 (d:Int));have h2:=h.below hb2;have hc1:W1.cell? ⟨w.heap.size,1,none⟩=some (.int .i64 (x.depth:Int)):=(by rw [cell_of_row W1 w.heap.size _ _ _ _ hk1];rfl);have hf1:W1.frozen? ⟨w.heap.size,1,none⟩=false:=frozen_of_row W1 w.heap.size 1 _ _ hk1;have p2:=h1.cells.2.2.1;have HX:=zh (And.intro hb2 (And.intro h2 hk2));have HNR:=zh (show (some w.heap.size:Option Nat)≠ov.ownBlock from fun e=>by have:=(World.ownsRow.lt h.own w.heap.size e.symm).2;omega);clear hb1 hk1 h1 hk2 hb2 h2 h;unfold EH;go_enter Tryz.func158,Tryz.ntmps158
 go_wp2_with fail;obtain ⟨w2,hw2⟩:∃W,W1.setCell ⟨w.heap.size,1,none⟩ (.int .i64 (d:Int))=W:=⟨_,rfl⟩
 obtain ⟨hB2,h2,hk2⟩:=HX.out;rw [hw2]at hB2 h2 hk2⊢;clear HX hw2 hc1 hf1 p2 hW1 W1;obtain ⟨sao,scap,hsv,_⟩:=ab h2.own;have hovb:=hsv;subst hsv;obtain ⟨_,_,_,p0⟩:=h2.cells;have hbl2:b<w2.heap.size:=h2.lt;have hdl2:w.heap.size<w2.heap.size:=(Array.getElem?_eq_some_iff.1 hk2).1;obtain ⟨c0,c1,c2,c3,c4,c5⟩:w2.cell? ⟨w.heap.size,0,none⟩=some (.int .i64 (x.kind:Int))∧w2.cell? ⟨w.heap.size,1,none⟩=some (.int .i64 (d:Int))∧w2.cell? ⟨w.heap.size,2,none⟩=some (.int .i64 x.n)∧w2.cell? ⟨w.heap.size,3,none⟩=some (.bool x.tight)∧w2.cell? ⟨w.heap.size,4,none⟩=some (.string ⟨x.text.toArray⟩)∧w2.cell? ⟨w.heap.size,5,none⟩=some (.string ⟨x.info.toArray⟩):=by
  refine ⟨?_,?_,?_,?_,?_,?_⟩<;>(rw [cell_of_row w2 w.heap.size _ _ _ _ hk2];rfl)
 have b2a:=(Below.refl w2.heap.size w2).alloc (Nat.le_refl _) (.cells #[.int .i64 (x.kind:Int),.int .i64 (d:Int),.int .i64 x.n,.bool x.tight,.string ⟨x.text.toArray⟩,.string ⟨x.info.toArray⟩] 45);have p0a:=(b2a.cell (p:=⟨b,3,none⟩) hbl2).trans p0;have a0:=(b2a.cell (p:=⟨w.heap.size,0,none⟩) hdl2).trans c0;have a1:=(b2a.cell (p:=⟨w.heap.size,1,none⟩) hdl2).trans c1;have a2:=(b2a.cell (p:=⟨w.heap.size,2,none⟩) hdl2).trans c2;have a3:=(b2a.cell (p:=⟨w.heap.size,3,none⟩) hdl2).trans c3;have a4:=(b2a.cell (p:=⟨w.heap.size,4,none⟩) hdl2).trans c4;have a5:=(b2a.cell (p:=⟨w.heap.size,5,none⟩) hdl2).trans c5;have hAA:=h2.below b2a;have hkA:=(b2a.block w.heap.size hdl2).trans hk2;have hBA:=hB2.trans (b2a.mono hB2.size);have hlA:w2.heap.size<(w2.alloc (.cells #[.int .i64 (x.kind:Int),.int .i64 (d:Int),.int .i64 x.n,.bool x.tight,.string ⟨x.text.toArray⟩,.string ⟨x.info.toArray⟩] 45)).heap.size:=(by simp);have hsA:(w2.alloc (.cells #[.int .i64 (x.kind:Int),.int .i64 (d:Int),.int .i64 x.n,.bool x.tight,.string ⟨x.text.toArray⟩,.string ⟨x.info.toArray⟩] 45)).heap.size=w2.heap.size+1:=(by simp);have hnews:=aL w2 [.int .i64 (x.kind:Int),.int .i64 (d:Int),.int .i64 x.n,.bool x.tight,.string ⟨x.text.toArray⟩,.string ⟨x.info.toArray⟩] 45 w2.heap.size rfl;have hob:(some b:Option Nat)≠(Value.slice sao out.length scap).ownBlock:=cV hAA.own hAA.heap (by decide);have hbne:¬w.heap.size=b:=(by omega);have hbA:∀k,k<w2.heap.size ->(w2.alloc (.cells #[.int .i64 (x.kind:Int),.int .i64 (d:Int),.int .i64 x.n,.bool x.tight,.string ⟨x.text.toArray⟩,.string ⟨x.info.toArray⟩] 45)).heap[k]? =w2.heap[k]? :=fun k hk=>b2a.block k hk;have hnr:(some w.heap.size:Option Nat)≠(Value.slice sao out.length scap).ownBlock:=HNR.out;have hB0:B <= w.heap.size:=(by omega);obtain ⟨WA,hWA⟩:∃W,w2.alloc (.cells #[.int .i64 (x.kind:Int),.int .i64 (d:Int),.int .i64 x.n,.bool x.tight,.string ⟨x.text.toArray⟩,.string ⟨x.info.toArray⟩] 45)=W:=⟨_,rfl⟩
 have HA2:=zh (And.intro hAA.own (And.intro hAA.heap (And.intro hkA (And.intro hBA (And.intro hnews (And.intro hob (And.intro hbA hsA)))))));have HS2:=zh hB2;clear hAA hkA hBA hnews hob hbA hsA hWA WA b2a h2 hk2 hB2
 go_region_law
  ((
   refine step_append_lies _ rfl (.tmp 13) (.tmp 15) 28 rfl B 45 i0 (.agg #[.int .i64 0,.int .i64 0,.int .i64 0,.bool false,.string ⟨#[]⟩,.string ⟨#[]⟩]) 6 64 Tryz.underlying28 hi hz0 hz1 hz2 rfl (by decide) (.slice sao out.length scap) out.length (out.flatMap bS) rfl HA2.out.1 ⟨w2.heap.size,0,none⟩ 1 1 [.int .i64 (x.kind:Int),.int .i64 (d:Int),.int .i64 x.n,.bool x.tight,.string ⟨x.text.toArray⟩,.string ⟨x.info.toArray⟩] rfl rfl HA2.out.2.2.2.2.1 (xV {x with depth:=d}) (by decide) (by unfold maxLen;omega) (by omega) ?_ _ rfl ?_
   ·exact Nat.le_of_lt (Nat.lt_of_le_of_lt (show B <= w2.heap.size by omega) hlA)
   intro g cap w5 hown5 hgrow5 hat5 hlt5;have hk5:=(hgrow5.block w.heap.size (Nat.lt_trans hdl2 hlA) hnr).trans HA2.out.2.2.1;have hh5:=(hgrow5.block b (Nat.lt_trans hbl2 hlA) HA2.out.2.2.2.2.2.1).trans HA2.out.2.1;have g0:=aX a0 (hk5.trans HA2.out.2.2.1.symm);have g1:=aX a1 (hk5.trans HA2.out.2.2.1.symm);have g2:=aX a2 (hk5.trans HA2.out.2.2.1.symm);have g3:=aX a3 (hk5.trans HA2.out.2.2.1.symm);have g4:=aX a4 (hk5.trans HA2.out.2.2.1.symm);have g5:=aX a5 (hk5.trans HA2.out.2.2.1.symm);have p5:w5.cell? ⟨b,3,none⟩=some (.slice sao out.length scap):=(by rw [cell_of_row w5 b _ _ _ _ hh5];rfl);have f5:=frozen_of_row w5 b 3 _ _ hh5;have kk:=Below.heap_setCell w5 ⟨b,3,none⟩ (.slice (some ⟨g,0,none⟩) (out.length+1) cap) w.heap.size hbne;have k0:=aX g0 kk;have k1:=aX g1 kk;have k2:=aX g2 kk;have k3:=aX g3 kk;have k4:=aX g4 kk;have k5:=aX g5 kk))
 all_goals
  go_wp2_with fail
  go_end0
  have hbw:Below B w ((w5.setCell ⟨b,3,none⟩ (.slice (some ⟨g,0,none⟩) (out.length+1) cap))):=((HA2.out.2.2.2.1.mono hB0).drew.grown hgrow5 (Nat.le_of_lt (Nat.lt_of_le_of_lt (show B <= w2.heap.size by omega) hlA)) (fun j hj=>(HA2.out.1.lt j hj).1)).setCell (p:=⟨b,3,none⟩) hBb _;refine ⟨rfl,.slice (some ⟨g,0,none⟩) (out.length+1) cap,⟨heap_setCell_same w5 b 3 _ _ _ hh5,?_,hBb⟩,⟨hbw,fun k hk hkb hks=>?_⟩,?_⟩
  ·exact rx (p:={x with depth:=d}) (aF (a:=⟨b,3,none⟩) hown5 hh5 (by decide) _) rfl
  ·have hk2:k<w2.heap.size:=Nat.lt_of_lt_of_le hk HS2.out.size;rw [Below.heap_setCell _ _ _ _ hkb,hgrow5.block k (Nat.lt_trans hk2 hlA) hks];exact (HA2.out.2.2.2.2.2.2.1 k hk2).trans (HS2.out.block k hk)
  ·rcases hat5 with h|h
   ·exact Or.inl (by rw [h];rfl)
   ·refine Or.inr ⟨g,rfl,?_⟩;have:=HS2.out.size;have h3:(w2.alloc (.cells #[.int .i64 (x.kind:Int),.int .i64 (d:Int),.int .i64 x.n,.bool x.tight,.string ⟨x.text.toArray⟩,.string ⟨x.info.toArray⟩] 45)).drew.heap.size=g:=h.symm;have h4:(w2.alloc (.cells #[.int .i64 (x.kind:Int),.int .i64 (d:Int),.int .i64 x.n,.bool x.tight,.string ⟨x.text.toArray⟩,.string ⟨x.info.toArray⟩] 45)).drew.heap.size=w2.heap.size+1:=(by simp);omega
def mb (b:UInt8):Bool:=b.toNat / 64==2
theorem gZ (b:UInt8) (z:List UInt8):(∀x∈z.take ((Lib.decodeL (b::z)).2 - 1),mb x=true)∧(2 <= (Lib.decodeL (b::z)).2 ->mb b=false):=by
 have hw:=Lib.decodeL_N (b::z);have hc:=Lib.decodeN_conts (b::z).length ((b::z).getD 0 0).toNat ((b::z).getD 1 0).toNat ((b::z).getD 2 0).toNat ((b::z).getD 3 0).toNat;rw [<- hw]at hc;simp only [List.getD_cons_zero,List.getD_cons_succ,List.length_cons]at hc;obtain ⟨c1,c2,c3,c4⟩:=hc;have h1:=Lib.decodeL_width (b::z);refine ⟨fun x hx=>?_,fun h=>?_⟩
 ·obtain ⟨i,hi,rfl⟩:=List.mem_iff_getElem.1 hx;rw [List.length_take]at hi;have hd:z.getD i 0=(z.take ((Lib.decodeL (b::z)).2 - 1))[i]:=by
   rw [List.getElem_take,List.getD_eq_getElem?_getD,List.getElem?_eq_getElem (by omega)];rfl
  rw [<- hd];have:i=0∨i=1∨i=2:=(by omega);unfold mb;rcases this with rfl|rfl|rfl
  ·rw [(c1 (by omega)).1];rfl
  ·rw [(c2 (by omega)).1];rfl
  ·rw [(c3 (by omega)).1];rfl
 ·unfold mb;rw [beq_eq_false_iff_ne];intro e;rw [hw]at h;simp only [List.getD_cons_zero]at h;rw [Lib.decodeN_cont _ _ _ _ _ e]at h;simp at h
def fs (S:List UInt8):Nat ->List UInt8 ->Bool
 |0,_=>false
 |n+1,l=>if l=[]then false else (S.any (fun b=>b.toNat==(Lib.decodeL l).1))||fs S n (l.drop (Lib.decodeL l).2)
theorem gQ (b:UInt8) (z:List UInt8) (h:128 <= b.toNat):128 <= (Lib.decodeL (b::z)).1:=by
 rw [Lib.decodeL_N];simp only [List.getD_cons_zero];unfold Lib.decodeN
 repeat' split
 all_goals first|omega|(simp only;omega)
theorem mc {b:UInt8} (h:mb b=true):128 <= b.toNat:=by unfold mb at h;simp at h;omega
theorem tO (S:List UInt8) (hS:∀b∈S,b.toNat<128):∀(l:List UInt8) (k:Nat),(∀x∈l.take k,128 <= x.toNat) ->l.any (S.contains ·)=(l.drop k).any (S.contains ·)
 |l,0,_=>by simp
 |[],k+1,_=>by simp
 |c::l,k+1,h=>by
  have hc:S.contains c=false:=by
   cases hx:S.contains c with
   |false=>rfl
   |true=>have h1:=hS c (List.contains_iff_mem.1 hx);have h2:=h c (by simp);omega
  rw [List.any_cons,hc,Bool.false_or,tO S hS l k (fun x hx=>h x (by rw [List.take_succ_cons];exact List.mem_cons_of_mem _ hx))];rfl
theorem oG (S:List UInt8) (hS:∀b∈S,b.toNat<128):∀(n:Nat) (l:List UInt8),l.length <= n ->fs S n l=l.any (S.contains ·)
 |n,[],_=>by cases n<;>simp [fs]
 |0,b::z,h=>by simp at h
 |n+1,b::z,h=>by
  have hw:=Lib.decodeL_width (b::z);rw [fs,if_neg (by simp),oG S hS n _ (by rw [List.length_drop];simp only [List.length_cons]at*;omega)];by_cases hb:b.toNat<128
  ·rw [Lib.decodeL_ascii b z hb,List.any_cons];simp only [List.drop_succ_cons,List.drop_zero];congr 1;rw [Bool.eq_iff_iff,List.any_eq_true,List.contains_iff_mem];constructor
   ·rintro ⟨x,hx,he⟩;have:x=b:=by rw [<- UInt8.toNat_inj];simpa using he
    rwa [this]at hx
   ·intro hx;exact ⟨b,hx,by simp⟩
  ·have hbig:=gQ b z (by omega);have hno:(S.any fun x=>x.toNat==(Lib.decodeL (b::z)).1)=false:=by
    rw [List.any_eq_false];intro x hx;have:=hS x hx;simp;omega
   rw [hno,Bool.false_or];refine (tO S hS _ _ ?_).symm;intro x hx;obtain ⟨m,hm⟩:∃m,(Lib.decodeL (b::z)).2=m+1:=⟨(Lib.decodeL (b::z)).2 - 1,by omega⟩
   have hc:=(gZ b z).1;rw [hm]at hx hc;rw [List.take_succ_cons]at hx;rcases List.mem_cons.1 hx with rfl|hx
   ·omega
   ·exact mc (hc x (by simpa using hx))
theorem qq {α:Type} (p:α ->Bool):∀(l:List α) (x:α),x∈l ->p x=false ->x∈l.dropWhile p
 |c::l,x,hx,hp=>by
  by_cases hc:p c=true
  ·rw [List.dropWhile_cons_of_pos hc];rcases List.mem_cons.1 hx with rfl|hx
   ·rw [hp]at hc;cases hc
   ·exact qq p l x hx hp
  ·rw [List.dropWhile_cons_of_neg hc];exact hx
theorem tY {α:Type} (p:α ->Bool):∀(l:List α),(∀x∈l,p x=true) ->l.dropWhile p=[]
 |[],_=>rfl
 |c::l,h=>by rw [List.dropWhile_cons_of_pos (h c (List.mem_cons_self ..)),tY p l (fun x hx=>h x (List.mem_cons_of_mem _ hx))]
theorem kF (l cs:List UInt8):(Lib.trimS l cs).isEmpty=l.all (fun c=>cs.contains c):=by
 unfold Lib.trimS Lib.trimLeftS Lib.trimRightS;by_cases h:l.all (fun c=>cs.contains c)=true
 ·have:l.reverse.dropWhile (fun c=>cs.contains c)=[]:=tY _ _ fun x hx=>List.all_eq_true.1 h x (List.mem_reverse.1 hx);rw [this,h];rfl
 ·have h':l.all (fun c=>cs.contains c)=false:=(by simpa using h);obtain ⟨x,hx,hp⟩:=List.all_eq_false.1 h';have hp':cs.contains x=false:=(by simpa using hp);rw [h',List.isEmpty_eq_false_iff];have a:=qq (fun c=>cs.contains c) _ x (List.mem_reverse.2 hx) hp';exact List.ne_nil_of_mem (qq (fun c=>cs.contains c) _ x (List.mem_reverse.2 a) hp')
theorem sG (s:ByteArray) (w:World) (hs:s.size <= 1000000000):
  Calls Tryz.prog 189 #[.string s,.string ⟨#[32,9]⟩] w fun e w'=>e=.returned (.string ⟨(Lib.trimS s.data.toList [32,9]).toArray⟩)∧Below w.heap.size w w':=
 Any.strings_Trim_laid Tryz.lays160 (by kernel_rfl) s ⟨#[32,9]⟩ w (by omega) (by decide) (ascii_of_all (by decide))
theorem yR (l:List UInt8):l.all (fun c=>[32,9].contains c)=aJ l:=by
 unfold aJ;congr 1;funext c;unfold aM;rw [List.contains_cons,List.contains_cons];simp
theorem dZ (s:ByteArray) (w:World) (hs:s.size <= 1000000000):
  Calls Tryz.prog 154 #[.string s] w fun e w'=>e=.returned (.bool (aJ s.data.toList))∧Below w.heap.size w w':=by
 have HT:=zh (sG s w hs);have he:=kF s.data.toList [32,9];rw [yR]at he;go_enter Tryz.func154,Tryz.ntmps154
 go_wp2_with fail;refine HT.out.mono ?_;rintro e w2 ⟨rfl,hb⟩;have HB:=zh hb;clear hb;go_wp2_with fail;go_ret;exact ⟨rfl,HB.out⟩
theorem xl:∀(n:Nat),Lib.repeatL [32] n=List.replicate n 32
 |0=>rfl
 |n+1=>by rw [Lib.repeatL,xl n];rfl
theorem gV {c:UInt8} {t:List UInt8} (h:aM c=false):ak (c::t)=c::t:=by
 unfold ak;rw [List.dropWhile_cons_of_neg (by rw [h];simp)]
def vN (s:ByteArray) (w:World) (pos col:Nat) (wr:World):Prop:=
 wr.heap[w.heap.size]? =some (.stringIter s pos)∧Below w.heap.size w wr∧pos <= s.size∧fR (s.data.toList.drop pos) col=bz s.data.toList∧ak (s.data.toList.drop pos)=ak s.data.toList∧col <= 4*pos
theorem p7 (s:ByteArray) (w:World) (hs:s.size <= 1000000):
  Calls Tryz.prog 190 #[.string s] w fun e w'=>e=.returned (.string ⟨(dC s.data.toList).toArray⟩)∧Below w.heap.size w w':=by
 go_enter Tryz.func190,Tryz.ntmps190
 go_wp2_with fail;go_loopw [3] (fun u3 wr=>∃pos col:Nat,u3=.int .i64 col∧vN s w pos col wr) (fun _ wr=>s.size - wr.iterPos w.heap.size)
 case atStart=>
  refine ⟨0,0,rfl,?_,(Below.refl _ w).alloc (Nat.le_refl _) _,Nat.zero_le _,rfl,rfl,Nat.le_refl _⟩;have:=World.iter_heap w s 0;simpa using this
 case round=>
  obtain ⟨pos,col,rfl,hit,hbw,hps,hco,hre,hcp⟩:=hrel;have hsz:w.heap.size<wr.heap.size:=(Array.getElem?_eq_some_iff.1 hit).1;by_cases hp:pos<s.size
  ·have hnx:∀ty,(Instr.next (.pointer (some ⟨w.heap.size,0,none⟩)) true ty).run Tryz.prog wr=_:=fun ty=>Lib.run_next_any_at wr w.heap.size s pos ty hit hp;have hit2:=Lib.iterAt_heap wr w.heap.size s pos (pos+(Utf8.decode s pos).2) hit;have hbw2:=Lib.below_iterAt hbw (k:=w.heap.size) (by omega) s (pos+(Utf8.decode s pos).2);have hdl:=Lib.decodeL_drop s pos;have hwd:=Lib.decodeL_width (s.data.toList.drop pos);have hda:=cZ s pos hp;obtain ⟨b,hb⟩:∃b,s[pos]=b:=⟨_,rfl⟩
   rw [hb]at hda;by_cases hbl:aM b=true
   ·have hdec:Lib.decodeL (s.data.toList.drop pos)=(b.toNat,1):=by
     rw [hda];refine Lib.decodeL_ascii _ _ ?_;unfold aM at hbl;simp at hbl;rcases hbl with rfl|rfl<;>decide
    rw [<- hdl,hdec]at hnx hit2 hbw2;simp only at hnx hit2 hbw2;obtain ⟨wi,hwi⟩:∃wi,wr.iterAt w.heap.size s (pos+1)=wi:=⟨_,rfl⟩
    rw [hwi]at hit2 hbw2;have hre2:ak (s.data.toList.drop (pos+1))=ak s.data.toList:=by
     rw [<- hre,hda];unfold ak;rw [List.dropWhile_cons_of_pos hbl]
    by_cases h32:b=32
    ·have k1:((b.toNat:Int)==32)=true:=(by rw [h32];rfl);have hco2:fR (s.data.toList.drop (pos+1)) (col+1)=bz s.data.toList:=(by rw [<- hco,hda,fR,if_pos h32]);have HR:=zh (show vN s w (pos+1) (col+1) wi from ⟨hit2,hbw2,by omega,hco2,hre2,by omega⟩);clear hdl hwd hda hb hbl h32 hdec hbw hco hre hre2 hco2 hit2 hbw2;go_wp2_with fail;go_roundw;case rel=>exact ⟨pos+1,col+1,by go_num,HR.out⟩
     case measure=>simp only [World.iterPos,HR.out.1,hit];omega
    ·have h9:b=9:=(by unfold aM at hbl;simp at hbl;rcases hbl with e|e;exact absurd e h32;exact e);have k1:((b.toNat:Int)==32)=false:=(by rw [h9];rfl);have k2:((b.toNat:Int)==9)=true:=(by rw [h9];rfl);have hco2:fR (s.data.toList.drop (pos+1)) (col+(4 - col % 4))=bz s.data.toList:=(by rw [<- hco,hda,fR,if_neg h32,if_pos h9]);have HR:=zh (show vN s w (pos+1) (col+(4 - col % 4)) wi from ⟨hit2,hbw2,by omega,hco2,hre2,by omega⟩);clear hdl hwd hda hb hbl h32 h9 hdec hbw hco hre hre2 hco2 hit2 hbw2;go_wp2_with fail;go_roundw;case rel=>exact ⟨pos+1,col+(4 - col % 4),by go_num,HR.out⟩
     case measure=>simp only [World.iterPos,HR.out.1,hit];omega
   ·have hbl':aM b=false:=(by simpa using hbl);have hwl:=Lib.decodeL_width (s.data.toList.drop pos);obtain ⟨r,n,hrn⟩:∃r n,Lib.decodeL (s.data.toList.drop pos)=(r,n):=⟨_,_,rfl⟩
    have hr:r≠32∧r≠9:=by
     by_cases hb2:b.toNat<128
     ·have:=Lib.decodeL_ascii b (s.data.toList.drop (pos+1)) hb2;rw [<- hda,hrn]at this;have e:r=b.toNat:=congrArg (·.1) this;unfold aM at hbl';simp at hbl';have e1:b.toNat≠32:=fun e=>hbl'.1 (UInt8.toNat.inj e);have e2:b.toNat≠9:=fun e=>hbl'.2 (UInt8.toNat.inj e);omega
     ·have:=gQ b (s.data.toList.drop (pos+1)) (by omega);rw [<- hda,hrn]at this;simp only at this;omega
    have k1:((r:Int)==32)=false:=(by simp;omega);have k2:((r:Int)==9)=false:=(by simp;omega);rw [<- hdl,hrn]at hnx hit2 hbw2;simp only at hnx hit2 hbw2;obtain ⟨wi,hwi⟩:∃wi,wr.iterAt w.heap.size s (pos+n)=wi:=⟨_,rfl⟩
    rw [hwi]at hit2 hbw2;have hcol:col=bz s.data.toList:=by
     rw [<- hco,hda,fR];unfold aM at hbl';simp at hbl';rw [if_neg hbl'.1,if_neg hbl'.2]
    have hrest:s.data.toList.drop pos=ak s.data.toList:=(by rw [<- hre,hda,gV hbl',<- hda]);obtain ⟨S,hS⟩:∃S:ByteArray,s.extract pos s.size=S:=⟨_,rfl⟩
    obtain ⟨P,hP⟩:∃P:ByteArray,(⟨(List.replicate col 32).toArray⟩:ByteArray)=P:=⟨_,rfl⟩
    have HC:=zh (show∀W,Calls Tryz.prog 222 #[.string ⟨#[32]⟩,.int .i64 col] W fun e w'=>e=.returned (.string P)∧Below W.heap.size W w' from fun W=>by
     refine (Tryz.strings_Repeat ⟨#[32]⟩ col W (by omega) (by show 1*col <= _;omega)).mono ?_;rintro e w' ⟨rfl,hb⟩;refine ⟨?_,hb⟩;rw [show (ByteArray.mk #[32]).data.toList=[32]from rfl,xl,hP])
    have hV:Ending.returned (.string (P++S))=Ending.returned (.string ⟨(dC s.data.toList).toArray⟩):=by
     congr 2;apply ByteArray.ext;rw [ByteArray.data_append,<- hP,<- hS];apply Array.ext';rw [Array.toList_append,Lib.extract_to_end,hrest];unfold dC;rw [<- hcol]
    have hPz:P.size=col:=(by rw [<- hP,Lib.size_eq];simp);have hSz:S.size <= s.size:=(by rw [<- hS];simp);have hPS:¬(9223372036854775807:Int)<(P.size:Int)+(S.size:Int):=(by omega);have HPZ:=zh hPz;clear hPz hSz;have HV:=zh (And.intro hV hbw2);have hk2:(pos:Int) <= (s.size:Int):=(by omega);have hk3:((pos:Int)).toNat=pos:=(by omega);have hk4:(0:Int) <= (pos:Int):=(by omega);clear hdl hwd hda hb hbl hbl' hwl hrn hr hbw hco hre hcol hrest hP hV hbw2 hit2;go_wp2_with fail;have hk5:¬(s.size:Int)<(pos:Int):=(by omega);have hk6:¬(pos:Int)<0:=by omega
    go_region_with (go_at_call 222;refine (HC.out _).mono ?_;rintro e w2 ⟨rfl,hb2⟩)
    all_goals
     have HB:=zh hb2;clear hb2;go_wp2_with fail;go_ret;exact ⟨HV.out.1,aa HV.out.2.drew HB.out⟩
  ·have hnx:∀ty,(Instr.next (.pointer (some ⟨w.heap.size,0,none⟩)) true ty).run Tryz.prog wr=_:=fun ty=>Lib.run_next_end_at wr w.heap.size s pos ty hit hp;have hd:=ee s pos (by omega);rw [hd]at hco hre;have hV:(⟨(Lib.repeatL [32] col).toArray⟩:ByteArray)=⟨(dC s.data.toList).toArray⟩:=by
    rw [xl];unfold dC;rw [<- hco,<- hre];simp [fR,ak]
   have HC:=zh (show∀W,Calls Tryz.prog 222 #[.string ⟨#[32]⟩,.int .i64 col] W fun e w'=>e=.returned (.string ⟨(dC s.data.toList).toArray⟩)∧Below W.heap.size W w' from fun W=>by
    refine (Tryz.strings_Repeat ⟨#[32]⟩ col W (by omega) (by show 1*col <= _;omega)).mono ?_;rintro e w' ⟨rfl,hb⟩;exact ⟨by rw [show (ByteArray.mk #[32]).data.toList=[32]from rfl,hV],hb⟩)
   have HB:=zh hbw;clear hd hV hco hre hbw;go_wp2_with fail;refine (HC.out _).mono ?_;rintro e w2 ⟨rfl,hb2⟩;have HB2:=zh (aa HB.out hb2);clear hb2;go_wp2_with fail;go_ret;exact ⟨rfl,HB2.out⟩
theorem Co (l:List UInt8):ak l=[]∨∃c t,ak l=c::t∧aM c=false:=by
 unfold ak;induction l with
 |nil=>exact .inl rfl
 |cons c t ih=>
  by_cases hc:aM c=true
  ·rw [List.dropWhile_cons_of_pos hc];exact ih
  ·rw [List.dropWhile_cons_of_neg hc];exact .inr ⟨c,t,rfl,by simpa using hc⟩
theorem vz (s:List UInt8):Lib.trimLeftB (dC s) 32=ak s:=by
 unfold Lib.trimLeftB dC;rw [List.dropWhile_append_of_pos (fun x hx=>by rw [List.eq_of_mem_replicate hx];rfl)];rcases Co s with h|⟨c,t,h,hc⟩
 ·rw [h];rfl
 ·rw [h,List.dropWhile_cons_of_neg];unfold aM at hc;simp at hc;simp [hc.1]
theorem p8 (s:List UInt8):(dC s).length=bz s+(ak s).length:=by unfold dC;simp
theorem lU:∀(l:List UInt8) (c:Nat),fR l c <= c+4*l.length
 |[],c=>by simp [fR]
 |x::t,c=>by
  rw [fR];have h1:=lU t (c+1);have h2:=lU t (c+(4 - c % 4));rw [List.length_cons];split
  ·omega
  ·split
   ·omega
   ·omega
theorem gB (s:ByteArray) (w:World) (hs:s.size <= 1000000):
  Calls Tryz.prog 155 #[.string s] w fun e w'=>e=.returned (.int .i64 (bz s.data.toList))∧Below w.heap.size w w':=by
 have hx:=fun W=>p7 s W hs;have hl:=p8 s.data.toList;have ht:=vz s.data.toList;have hc:=lU s.data.toList 0;rw [<- Lib.size_eq]at hc;change bz s.data.toList <= _ at hc;have hrl:(ak s.data.toList).length <= s.size:=(by rw [Lib.size_eq];exact (List.dropWhile_sublist _).length_le);obtain ⟨X,hX⟩:∃X:ByteArray,X=⟨(dC s.data.toList).toArray⟩:=⟨_,rfl⟩
 obtain ⟨Y,hY⟩:∃Y:ByteArray,Y=⟨(ak s.data.toList).toArray⟩:=⟨_,rfl⟩
 have hXl:dC s.data.toList=X.data.toList:=(by rw [hX]);have hYl:ak s.data.toList=Y.data.toList:=(by rw [hY]);rw [<- hX]at hx;rw [hXl,hYl]at ht;rw [hXl,hYl,<- Lib.size_eq,<- Lib.size_eq]at hl;rw [hYl,<- Lib.size_eq]at hrl;obtain ⟨I,hI⟩:∃I,bz s.data.toList=I:=⟨_,rfl⟩
 rw [hI]at hl hc⊢;have hT:∀W,Calls Tryz.prog 105 #[.string X,.string ⟨#[32]⟩] W fun e w'=>e=.returned (.string Y)∧Below W.heap.size W w':=fun W=>by
  refine (Tryz.strings_TrimLeft_one X 32 (by decide) W).mono ?_;rintro e w' ⟨rfl,rfl⟩;exact ⟨by rw [ht,<- hYl,<- hY],Below.refl _ _⟩
 have hw:wrap64 ((X.size:Int) - (Y.size:Int))=(I:Int):=by
  rw [IntWalk.wrap64_in _ (by omega)];omega
 have HX:=zh hx;have HT:=zh hT;have HW:=zh hw;clear hx ht hX hY hXl hYl hI hT hw hl hc hrl;go_enter Tryz.func155,Tryz.ntmps155
 go_wp2_with fail;refine (HX.out _).mono ?_;rintro e w2 ⟨rfl,b2⟩;have HB:=zh b2;clear b2;go_wp2_with fail;refine (HT.out _).mono ?_;rintro e w3 ⟨rfl,b3⟩;have HB3:=zh (aa HB.out b3);clear b3;go_wp2_with fail;go_ret;refine ⟨?_,HB3.out⟩;show Ending.returned (Value.int IntKind.i64 (wrap64 ((X.size:Int) - (Y.size:Int))))=_;rw [HW.out]
theorem oc (s:ByteArray) (n:Nat) (w:World) (hs:s.size <= 1000000) (hn:n <= 1000000000):
  Calls Tryz.prog 221 #[.string s,.int .i64 n] w fun e w'=>e=.returned (.string ⟨(cB s.data.toList n).toArray⟩)∧Below w.heap.size w w':=by
 have hx:=fun W=>p7 s W hs;have hi:=fun W=>gB s W hs;have hl:=p8 s.data.toList;obtain ⟨X,hX⟩:∃X:ByteArray,X=⟨(dC s.data.toList).toArray⟩:=⟨_,rfl⟩
 have hXl:dC s.data.toList=X.data.toList:=(by rw [hX]);rw [<- hX]at hx;obtain ⟨I,hI⟩:∃I,bz s.data.toList=I:=⟨_,rfl⟩
 rw [hI]at hi hl;rw [hXl,<- Lib.size_eq]at hl;obtain ⟨m,hm⟩:∃m,min n I=m:=⟨_,rfl⟩
 obtain ⟨R,hR⟩:∃R:ByteArray,X.extract m X.size=R:=⟨_,rfl⟩
 have hv:(⟨(cB s.data.toList n).toArray⟩:ByteArray)=R:=by
  apply ByteArray.ext;apply Array.ext';rw [<- hR,Lib.extract_to_end];unfold cB;rw [hI,hm,hXl]
 have hmi:min (n:Int) (I:Int)=(m:Int):=(by omega);have hmz:(m:Int) <= (X.size:Int):=(by omega);have HV:=zh hv;have HX:=zh hx;have HI:=zh hi;clear hv hx hi hl hX hXl hI hm;go_enter Tryz.func221,Tryz.ntmps221
 go_wp2_with fail;refine (HX.out _).mono ?_;rintro e w2 ⟨rfl,b2⟩;have HB:=zh b2;clear b2;go_wp2_with fail;refine (HI.out _).mono ?_;rintro e w3 ⟨rfl,b3⟩;have HB3:=zh (aa HB.out b3);clear b3;go_wp2_with fail;go_ret;refine ⟨?_,HB3.out⟩;rw [HV.out];rfl
theorem Am (s:List UInt8):cB s (bz s)=ak s:=by
 unfold cB dC;rw [Nat.min_self,List.drop_left' (by simp)]
theorem d8 (s:ByteArray) (w:World) (hs:s.size <= 1000000):
  Calls Tryz.prog 187 #[.string s] w fun e w'=>e=.returned (.tuple #[.string ⟨(ak s.data.toList).toArray⟩,.int .i64 (bz s.data.toList),.bool (dV s.data.toList)])∧Below w.heap.size w w':=by
 have hi:=fun W=>gB s W hs;have hc:=lU s.data.toList 0;rw [<- Lib.size_eq]at hc;change bz s.data.toList <= _ at hc;have hst:=fun W=>oc s (bz s.data.toList) W hs (by omega);rw [Am]at hst;obtain ⟨X,hX⟩:∃X:ByteArray,(⟨(ak s.data.toList).toArray⟩:ByteArray)=X:=⟨_,rfl⟩
 rw [hX]at hst;unfold dV;obtain ⟨I,hI⟩:∃I,bz s.data.toList=I:=⟨_,rfl⟩
 rw [hI]at hi hst;rw [hX,hI];have hm:((I:Int) <= 3)=(I <= 3):=(by simp;omega);have HI:=zh hi;have HS:=zh hst;have HM:=zh hm;clear hi hst hX hI hc hm;go_enter Tryz.func187,Tryz.ntmps187
 go_wp2_with fail;refine (HI.out _).mono ?_;rintro e w2 ⟨rfl,b2⟩;have HB:=zh b2;clear b2;go_wp2_with fail;refine (HS.out _).mono ?_;rintro e w3 ⟨rfl,b3⟩;have HB3:=zh (aa HB.out b3);clear b3;go_wp2_with fail;have hb:decide ((I:Int) <= 3)=decide (I <= 3):=(by simp only [HM.out]);refine bodyPost_ret (v:=.tuple #[.string X,.int .i64 I,.bool (decide ((I:Int) <= 3))]) (by simp [results,Tryz.results187,go_sem]) rfl ⟨by rw [hb],HB3.out⟩
theorem Cs (l:List UInt8) (c:UInt8) (k:Nat) (hk:k <= l.length) (h:∀x∈l.take k,x=c) (h2:∀x,l[k]? =some x ->x≠c):eC l c=k:=by
 unfold eC
 conv=>lhs;rw [<- List.take_append_drop k l]
 rw [List.takeWhile_append_of_pos (fun x hx=>by rw [h x hx];simp),List.length_append,List.length_take,Nat.min_eq_left hk];cases hd:l.drop k with
 |nil=>rfl
 |cons x t=>
  have hx:l[k]? =some x:=(by rw [<- List.head?_drop,hd];rfl);rw [List.takeWhile_cons_of_neg (by simpa using h2 x hx)];rfl
def AO (s:ByteArray) (c:UInt8) (w:World) (pos:Nat) (wr:World):Prop:=
 wr.heap[w.heap.size]? =some (.stringIter s pos)∧Below w.heap.size w wr∧pos <= s.size∧∀x∈s.data.toList.take pos,x=c
theorem ni (s:ByteArray) (c:UInt8) (w:World) (hs:s.size <= 1000000000) (hc:c.toNat<128):
  Calls Tryz.prog 188 #[.string s,.int .u8 c.toNat] w fun e w'=>e=.returned (.int .i64 (eC s.data.toList c))∧Below w.heap.size w w':=by
 obtain ⟨K,hK⟩:∃K,eC s.data.toList c=K:=⟨_,rfl⟩
 rw [hK];have HK:=zh hK;clear hK;go_enter Tryz.func188,Tryz.ntmps188
 go_wp2_with fail;go_loopw [5] (fun u5 wr=>∃pos:Nat,AO s c w pos wr) (fun _ wr=>s.size - wr.iterPos w.heap.size)
 case atStart=>
  refine ⟨0,?_,(Below.refl _ w).alloc (Nat.le_refl _) _,Nat.zero_le _,fun x hx=>by cases hx⟩;have:=World.iter_heap w s 0;simpa using this
 case round=>
  obtain ⟨pos,hit,hbw,hps,hal⟩:=hrel;have hsz:w.heap.size<wr.heap.size:=(Array.getElem?_eq_some_iff.1 hit).1;have HAL:=zh hal;clear hal;by_cases hp:pos<s.size
  ·have hnx:∀ty,(Instr.next (.pointer (some ⟨w.heap.size,0,none⟩)) true ty).run Tryz.prog wr=_:=fun ty=>Lib.run_next_any_at wr w.heap.size s pos ty hit hp;have hit2:=Lib.iterAt_heap wr w.heap.size s pos (pos+(Utf8.decode s pos).2) hit;have hbw2:=Lib.below_iterAt hbw (k:=w.heap.size) (by omega) s (pos+(Utf8.decode s pos).2);have hdl:=Lib.decodeL_drop s pos;have hda:=cZ s pos hp;obtain ⟨b,hb⟩:∃b,s[pos]=b:=⟨_,rfl⟩
   rw [hb]at hda;have hget:s.data.toList[pos]? =some b:=(by rw [<- List.head?_drop,hda];rfl);obtain ⟨r,n,hrn⟩:∃r n,Lib.decodeL (s.data.toList.drop pos)=(r,n):=⟨_,_,rfl⟩
   have hposI:(pos:Int)<(s.size:Int):=(by omega);rw [<- hdl,hrn]at hnx hit2 hbw2;simp only at hnx hit2 hbw2;by_cases hbc:b=c
   ·have hn:n=1:=by
     have:=Lib.decodeL_ascii b (s.data.toList.drop (pos+1)) (by rw [hbc];exact hc);rw [<- hda,hrn]at this;exact congrArg (·.2) this
    subst hn;have k1:((b.toNat:Int) !=(c.toNat:Int))=false:=(by rw [hbc];simp);have hal2:∀x∈s.data.toList.take (pos+1),x=c:=by
     rw [sF s pos hp,hb];intro x hx;rcases List.mem_append.1 hx with hx|hx
     ·exact HAL.out x hx
     ·rw [List.mem_singleton.1 hx,hbc]
    obtain ⟨wi,hwi⟩:∃wi,wr.iterAt w.heap.size s (pos+1)=wi:=⟨_,rfl⟩
    rw [hwi]at hit2 hbw2;have HR:=zh (show AO s c w (pos+1) wi from ⟨hit2,hbw2,by omega,hal2⟩);clear hdl hda hget hrn hbc hal2 hit2 hbw2 hbw;go_wp2_with fail;go_roundw;case rel=>exact ⟨pos+1,HR.out⟩
    case measure=>simp only [World.iterPos,HR.out.1,hit];omega
   ·have k1:((b.toNat:Int) !=(c.toNat:Int))=true:=by
     have:b.toNat≠c.toNat:=fun e=>hbc (UInt8.toNat.inj e);simp;omega
    have hKp:K=pos:=by
     rw [<- HK.out];exact Cs _ _ _ (by rw [<- Lib.size_eq];omega) HAL.out (fun x hx=>by rw [hget]at hx;rw [<- Option.some.inj hx];exact hbc)
    obtain ⟨wi,hwi⟩:∃wi,wr.iterAt w.heap.size s (pos+n)=wi:=⟨_,rfl⟩
    rw [hwi]at hbw2;have HB:=zh hbw2;have HKP:=zh hKp;clear hdl hda hget hrn hbc hit2 hbw2 hbw hKp;go_wp2_with fail;go_ret;exact ⟨by rw [HKP.out];rfl,HB.out⟩
  ·have hnx:∀ty,(Instr.next (.pointer (some ⟨w.heap.size,0,none⟩)) true ty).run Tryz.prog wr=_:=fun ty=>Lib.run_next_end_at wr w.heap.size s pos ty hit hp;have hKp:K=s.size:=by
    have e:pos=s.size:=(by omega);rw [<- HK.out,<- e];exact Cs _ _ _ (by rw [<- Lib.size_eq];omega) HAL.out (fun x hx=>by rw [List.getElem?_eq_none (by rw [<- Lib.size_eq];omega)]at hx;cases hx)
   have HKP:=zh hKp;have HB:=zh hbw;clear hKp hbw;go_wp2_with fail;go_ret;exact ⟨by rw [HKP.out];rfl,HB.out⟩
theorem jQ (c:UInt8):([32,9]:List UInt8).contains c=aM c:=by
 unfold aM;rw [List.contains_cons,List.contains_cons];simp
theorem rv:(fun c=>([32,9]:List UInt8).contains c)=aM:=funext jQ
theorem sH (l:List UInt8):Lib.trimLeftS l [32,9]=ak l:=by
 unfold Lib.trimLeftS ak;rw [rv]
theorem sI (l:List UInt8):Lib.trimRightS l [32,9]=aD aM l:=by
 unfold Lib.trimRightS aD;rw [rv]
theorem oT (p:UInt8 ->Bool) (c:UInt8) (t:List UInt8):aD p (c::t)=if aD p t=[]∧p c=true then []else c::aD p t:=by
 unfold aD;rw [List.reverse_cons,List.dropWhile_append];cases h:t.reverse.dropWhile p with
 |nil=>
  by_cases hc:p c=true
  ·simp [hc,List.dropWhile]
  ·simp [hc,List.dropWhile]
 |cons x y=>simp
theorem jr {c:UInt8} {t:List UInt8} (h:aM c=true):ak (c::t)=ak t:=by
 unfold ak;rw [List.dropWhile_cons_of_pos h]
theorem oS:∀l:List UInt8,ak (aD aM l)=aD aM (ak l)
 |[]=>rfl
 |c::t=>by
  have ih:=oS t;rw [oT];by_cases hc:aM c=true
  ·rw [jr hc,<- ih];by_cases h:aD aM t=[]
   ·rw [if_pos ⟨h,hc⟩,h]
   ·rw [if_neg (fun e=>h e.1),jr hc]
  ·have hc':aM c=false:=(by simpa using hc);rw [if_neg (fun e=>hc e.2),gV hc',gV hc',oT,if_neg (fun e=>hc e.2)]
theorem CN (l:List UInt8):Lib.trimS l [32,9]=trimB l:=by
 unfold Lib.trimS trimB;rw [sI,sH,oS]
theorem iN (p:UInt8 ->Bool) (l:List UInt8):(aD p l).length <= l.length:=by
 unfold aD;rw [List.length_reverse];have:=(List.dropWhile_sublist (l:=l.reverse) p).length_le
 rwa [List.length_reverse]at this
theorem eA (l:List UInt8):(ak l).length <= l.length:=(List.dropWhile_sublist _).length_le
theorem CM (l:List UInt8):(trimB l).length <= l.length:=Nat.le_trans (iN _ _) (eA l)
theorem nr (l:List UInt8) (c:UInt8):eC l c <= l.length:=(List.takeWhile_sublist _).length_le
theorem nE (s:ByteArray) (w:World) (hs:s.size <= 1000000000):
  Calls Tryz.prog 89 #[.string s,.string ⟨#[32,9]⟩] w fun e w'=>e=.returned (.string ⟨(aD aM s.data.toList).toArray⟩)∧Below w.heap.size w w':=by
 rw [<- sI];exact Any.strings_TrimRight_laid Tryz.lays162 (by kernel_rfl) s ⟨#[32,9]⟩ w (by omega) (by decide) (ascii_of_all (by decide))
theorem DV (s:ByteArray) (w:World):
  Calls Tryz.prog 105 #[.string s,.string ⟨#[32,9]⟩] w fun e w'=>e=.returned (.string ⟨(ak s.data.toList).toArray⟩)∧Below w.heap.size w w':=by
 rw [<- sH];exact Any.strings_TrimLeft_laid Tryz.lays161 (by kernel_rfl) s ⟨#[32,9]⟩ w (by decide) (ascii_of_all (by decide))
theorem vy (s:ByteArray) (w:World) (hs:s.size <= 1000000000):
  Calls Tryz.prog 189 #[.string s,.string ⟨#[32,9]⟩] w fun e w'=>e=.returned (.string ⟨(trimB s.data.toList).toArray⟩)∧Below w.heap.size w w':=by
 rw [<- CN];exact sG s w hs
theorem qM (s:ByteArray) (c:UInt8) (hc:c.toNat<128) (w:World) (hs:s.size <= 1000000000):
  Calls Tryz.prog 89 #[.string s,.string ⟨#[c]⟩] w fun e w'=>e=.returned (.string ⟨(aD (·==c) s.data.toList).toArray⟩)∧w'=w:=
 Tryz.strings_TrimRight_one s c hc w (by omega)
theorem mC (c:UInt8):∀S:List UInt8,S.any (fun b=>b.toNat==c.toNat)=S.contains c
 |[]=>rfl
 |a::S=>by
  rw [List.any_cons,List.contains_cons,mC c S];congr 1;rw [Bool.eq_iff_iff,beq_iff_eq,beq_iff_eq,UInt8.toNat_inj];exact eq_comm
theorem o8 (c:UInt8):wrap32 (c.toNat:Int)=(c.toNat:Int):=by
 have:=c.toNat_lt;unfold wrap32;omega
theorem sX (S:ByteArray) (hS:cQ S.data.toList) (hz:S.size <= 1000000000) (c:UInt8) (w:World):
  Calls Tryz.prog 118 #[.string S,.int .i32 (wrap32 (c.toNat:Int))] w fun e w'=>e=.returned (.bool (S.data.toList.contains c))∧Below w.heap.size w w':=by
 rw [o8];refine (cT S c.toNat w hS hz (by have:=c.toNat_lt;omega)).mono ?_;rintro e w' ⟨rfl,hb⟩;rw [mC];exact ⟨rfl,hb⟩
theorem sV (c:UInt8) (w:World):
  Calls Tryz.prog 118 #[.string ⟨#[32,9]⟩,.int .i32 (wrap32 (c.toNat:Int))] w fun e w'=>e=.returned (.bool (aM c))∧Below w.heap.size w w':=by
 rw [<- jQ];exact sX ⟨#[32,9]⟩ (by unfold cQ;decide) (by decide) c w
theorem jY (l:List UInt8) (c:UInt8):decide (0 <= Lib.indexByte l c)=l.contains c:=(Lib.contains_iff_indexByte l c).symm
theorem dm {B:Nat} {w W:World} (h:Below B w W) (n:Nat):Below B w (W.drewN n):=h.trans ⟨rfl,rfl,rfl,Nat.le_refl _,fun _ _=>rfl⟩
theorem gA (R:ByteArray) (h:0<R.size):R.data.toList.head? =some R[0]:=by
 have:=cZ R 0 h;rw [List.drop_zero]at this;rw [this];rfl
theorem ef (R:ByteArray) (h:R.size=0):R.data.toList=[]:=List.eq_nil_of_length_eq_zero (by rw [<- Lib.size_eq];exact h)
theorem uw (U:ByteArray) (h:0<U.size):U.data.toList.getLast? =some (U[U.size - 1]):=by
 rw [List.getLast?_eq_getElem?,<- Lib.size_eq,Lib.data_getElem? U (U.size - 1) (by omega)]
theorem ke {c d:UInt8} (h:c=d):((c.toNat:Int) !=(d.toNat:Int))=false:=by rw [h];simp
theorem gD {c d:UInt8} (h:c≠d):((c.toNat:Int) !=(d.toNat:Int))=true:=by
 have:c.toNat≠d.toNat:=fun e=>h (UInt8.toNat.inj e);simp;omega
end Go.Proofs.YtcannffahjbjnaaGreatDoor
