import Derived.Test.YtkphljggkajlkaaGreatDoorVwBG
import Derived.Lib.IndexAny
import Derived.Lib.ItoaNum
import Derived.Deep.Grids
import Derived.Laws.IdiomStrings
import Derived.OpenShut
import Derived.Below
import Derived.OwnWalk
import Derived.Laws.AppendOwnNone
import Derived.Lib.SplitLaws
import Derived.Shelf.Strings.SplitShaped
import Derived.Deep.RegionLaw
import Derived.Deep.AppendLies
import Derived.Deep.Slices
import Derived.ChangeArms
import Derived.Deep.QuietTactic
import Derived.BigQuiet
set_option linter.unusedVariables false
set_option linter.unusedSimpArgs false
namespace Go.Proofs.YtkphljggkajlkaaGreatDoor
open Go.RowKit
set_option maxRecDepth 100000
set_option linter.unusedVariables false
set_option linter.unusedSimpArgs false
def defV (n u t x:List UInt8) (b:Bool):Value:=.agg #[.string ⟨n.toArray⟩,.string ⟨u.toArray⟩,.string ⟨t.toArray⟩,.string ⟨x.toArray⟩,.bool b]
def linkL (l:List UInt8):List UInt8×List UInt8×Bool:=
 if (dest l).2.2=false then ([],[],false)
 else if (behindL (l.drop (dest l).2.1)).1=[]then ((dest l).1,[],true)
 else if (title (behindL (l.drop (dest l).2.1)).1).2.2=true∧(behindL (l.drop (dest l).2.1)).2=true∧plainL ((behindL (l.drop (dest l).2.1)).1.drop (title (behindL (l.drop (dest l).2.1)).1).2.1)=[]then ((dest l).1,(title (behindL (l.drop (dest l).2.1)).1).1,true)
 else ([],[],false)
theorem ret_def {p:List UInt8×List UInt8×Bool} {u t:ByteArray} {b:Bool} (h:p=(u.data.toList,t.data.toList,b)):Ending.returned (.tuple #[.agg #[.string ⟨#[]⟩,.string u,.string t,.string ⟨#[]⟩,.bool false],.bool b])=.returned (.tuple #[defV [] p.1 p.2.1 [] false,.bool p.2.2]):=by
 rw [h];unfold defV;rw [Lib.mk_data,Lib.mk_data]
theorem zero_def {w w2:World} {n:Nat} (hb:Below n (w.alloc (.cells #[.string ⟨#[]⟩,.string ⟨#[]⟩,.string ⟨#[]⟩,.string ⟨#[]⟩,.bool false] 42)) w2) (hn:n=w.heap.size+1:=by simp):
  w2.cell? ⟨w.heap.size,0,none⟩=some (.string ⟨#[]⟩)∧w2.cell? ⟨w.heap.size,1,none⟩=some (.string ⟨#[]⟩)∧w2.cell? ⟨w.heap.size,2,none⟩=some (.string ⟨#[]⟩)∧w2.cell? ⟨w.heap.size,3,none⟩=some (.string ⟨#[]⟩)∧w2.cell? ⟨w.heap.size,4,none⟩=some (.bool false)∧
  w2.frozen? ⟨w.heap.size,0,none⟩=false∧w2.frozen? ⟨w.heap.size,1,none⟩=false∧w2.frozen? ⟨w.heap.size,2,none⟩=false∧w2.frozen? ⟨w.heap.size,3,none⟩=false∧w2.frozen? ⟨w.heap.size,4,none⟩=false∧w.heap.size<w2.heap.size:=by
 subst hn;refine ⟨(hb.cell (p:=⟨w.heap.size,0,none⟩) (by simp)).trans (by simp),(hb.cell (p:=⟨w.heap.size,1,none⟩) (by simp)).trans (by simp),(hb.cell (p:=⟨w.heap.size,2,none⟩) (by simp)).trans (by simp),(hb.cell (p:=⟨w.heap.size,3,none⟩) (by simp)).trans (by simp),(hb.cell (p:=⟨w.heap.size,4,none⟩) (by simp)).trans (by simp),(hb.frozen (p:=⟨w.heap.size,0,none⟩) (by simp)).trans (by simp),(hb.frozen (p:=⟨w.heap.size,1,none⟩) (by simp)).trans (by simp),(hb.frozen (p:=⟨w.heap.size,2,none⟩) (by simp)).trans (by simp),(hb.frozen (p:=⟨w.heap.size,3,none⟩) (by simp)).trans (by simp),(hb.frozen (p:=⟨w.heap.size,4,none⟩) (by simp)).trans (by simp),?_⟩;have:=hb.size;simp at this;omega
theorem below_def {w w2:World} {u0 u1 u2 u3 u4:Value} (h:Below w.heap.size w w2):Below w.heap.size w (((((w2.setCell ⟨w.heap.size,0,none⟩ u0).setCell ⟨w.heap.size,1,none⟩ u1).setCell ⟨w.heap.size,2,none⟩ u2).setCell ⟨w.heap.size,3,none⟩ u3).setCell ⟨w.heap.size,4,none⟩ u4):=
 ((((h.setCell (by simp) _).setCell (by simp) _).setCell (by simp) _).setCell (by simp) _).setCell (by simp) _
theorem behind_le (l:List UInt8):(behindL l).1.length≤l.length:=(List.dropWhile_sublist _).length_le
set_option maxHeartbeats 4000000 in
theorem link_any (s:ByteArray) (w:World) (hE:Env w) (hs:s.size≤1000000000):
  Calls Tryz.prog 116 #[.string s] w fun e w'=>e=.returned (.tuple #[defV [] (linkL s.data.toList).1 (linkL s.data.toList).2.1 [] false,.bool (linkL s.data.toList).2.2])∧Below w.heap.size w w':=by
 have hle:=dest_le s.data.toList;rw [←Lib.size_eq]at hle;have hd:=fun W hW=>dest_any s W hW hs;have HL:∃x,linkL s.data.toList=x:=⟨_,rfl⟩
 obtain ⟨L,HL⟩:=HL;have HLD:=Lib.hid HL;have HL2:=HL;unfold linkL at HL2;obtain ⟨d1,d2,d3,hdd⟩:∃a b c,dest s.data.toList=(a,b,c):=⟨_,_,_,rfl⟩
 rw [hdd]at hd hle HL2;simp only at hd hle HL2;obtain ⟨D,hD⟩:∃D:ByteArray,D=⟨d1.toArray⟩:=⟨_,rfl⟩
 have hDl:d1=D.data.toList:=(by rw [hD]);rw [←hD]at hd;rw [hDl]at HL2;have HE:=Lib.hid hE;have HD:=Lib.hid hd;have HQ:=Lib.hid HL2;clear hE hd hdd HL HL2 hD hDl;rw [HLD.out];clear HLD;have hb1:Below w.heap.size w (w.alloc (.cells #[.string ⟨#[]⟩,.string ⟨#[]⟩,.string ⟨#[]⟩,.string ⟨#[]⟩,.bool false] 42)):=(Below.refl _ w).alloc (Nat.le_refl _) _;cases d3
 ·go_enter Tryz.func116,Tryz.ntmps116
  go_wp2_with fail;refine (HD.out _ (HE.out.below hb1)).mono ?_;rintro e w2 ⟨rfl,b2⟩;obtain ⟨c0,c1,c2,c3,c4,f0,f1,f2,f3,f4,hsz⟩:=zero_def b2;have hb2:=below_step hb1 b2;clear hb1 b2;go_wp2_with fail;refine bodyPost_ret (v:=.tuple #[.agg #[.string ⟨#[]⟩,.string ⟨#[]⟩,.string ⟨#[]⟩,.string ⟨#[]⟩,.bool false],.bool false]) (by simp [results,Tryz.results116,go_sem,c0,c1,c2,c3,c4,f0,f1,f2,f3,f4]) rfl ⟨?_,below_def hb2⟩;exact ret_def (t:=⟨#[]⟩) (u:=⟨#[]⟩) HQ.out.symm
 ·obtain ⟨S,hS⟩:∃S:ByteArray,s.extract d2 s.size=S:=⟨_,rfl⟩
  have hSl:S.data.toList=s.data.toList.drop d2:=(by rw [←hS,Lib.extract_to_end]);have hSz:S.size≤s.size:=(by rw [Lib.size_eq,hSl,Lib.size_eq];simp);have hbh:=fun W=>behind_any S W;have hxl:=behind_le (s.data.toList.drop d2);obtain ⟨x,g,hx⟩:∃a b,behindL (s.data.toList.drop d2)=(a,b):=⟨_,_,rfl⟩
  rw [hSl,hx]at hbh;have hq:=HQ.out;rw [hx]at hq hxl;simp only [Bool.true_eq_false,if_false]at hbh hq hxl;obtain ⟨X,hX⟩:∃X:ByteArray,X=⟨x.toArray⟩:=⟨_,rfl⟩
  have hXl:x=X.data.toList:=(by rw [hX]);rw [←hX]at hbh;rw [hXl]at hq hxl;rw [←hSl,←Lib.size_eq,←Lib.size_eq]at hxl;have HB:=Lib.hid hbh;clear hbh hx hX hXl hSl HQ;by_cases hX0:0<X.size
  ·have he:=empty_no hX0;have hne:X.data.toList≠[]:=(by intro h;rw [Lib.size_eq,h]at hX0;exact absurd hX0 (by simp));rw [if_neg hne]at hq;have ht:=fun W hW=>title_any X W hW (by omega);have htl:=title_le X.data.toList;obtain ⟨t1,n,is,htt⟩:∃a b c,title X.data.toList=(a,b,c):=⟨_,_,_,rfl⟩
   rw [htt]at ht hq htl;simp only at ht hq htl;rw [←Lib.size_eq]at htl;obtain ⟨T,hT⟩:∃T:ByteArray,T=⟨t1.toArray⟩:=⟨_,rfl⟩
   have hTl:t1=T.data.toList:=(by rw [hT]);rw [←hT]at ht;rw [hTl]at hq;have HT:=Lib.hid ht;clear ht htt hT hTl hne;cases is
   ·rw [if_neg (by simp)]at hq;have HQ:=Lib.hid hq;clear hq;go_enter Tryz.func116,Tryz.ntmps116
    go_wp2_with fail;refine (HD.out _ (HE.out.below hb1)).mono ?_;rintro e w2 ⟨rfl,b2⟩;have hb2:=below_step hb1 b2;go_wp2_with fail;refine (HB.out _).mono ?_;rintro e w3 ⟨rfl,b3⟩;have hb3:=below_step hb2 b3;go_wp2_with fail;refine (HT.out _ (HE.out.below hb3)).mono ?_;rintro e w4 ⟨rfl,b4⟩;have hb4:=below_step hb3 b4;obtain ⟨c0,c1,c2,c3,c4,f0,f1,f2,f3,f4,hsz⟩:=zero_def (below_step (below_step b2 b3) b4);clear hb1 hb2 hb3 b2 b3 b4;go_wp2_with fail;refine bodyPost_ret (v:=.tuple #[.agg #[.string ⟨#[]⟩,.string ⟨#[]⟩,.string ⟨#[]⟩,.string ⟨#[]⟩,.bool false],.bool false]) (by simp [results,Tryz.results116,go_sem,c0,c1,c2,c3,c4,f0,f1,f2,f3,f4]) rfl ⟨?_,below_def hb4⟩;exact ret_def (t:=⟨#[]⟩) (u:=⟨#[]⟩) HQ.out.symm
   ·cases g
    ·rw [if_neg (by simp)]at hq;have HQ:=Lib.hid hq;clear hq;go_enter Tryz.func116,Tryz.ntmps116
     go_wp2_with fail;refine (HD.out _ (HE.out.below hb1)).mono ?_;rintro e w2 ⟨rfl,b2⟩;have hb2:=below_step hb1 b2;go_wp2_with fail;refine (HB.out _).mono ?_;rintro e w3 ⟨rfl,b3⟩;have hb3:=below_step hb2 b3;go_wp2_with fail;refine (HT.out _ (HE.out.below hb3)).mono ?_;rintro e w4 ⟨rfl,b4⟩;have hb4:=below_step hb3 b4;obtain ⟨c0,c1,c2,c3,c4,f0,f1,f2,f3,f4,hsz⟩:=zero_def (below_step (below_step b2 b3) b4);clear hb1 hb2 hb3 b2 b3 b4;go_wp2_with fail;refine bodyPost_ret (v:=.tuple #[.agg #[.string ⟨#[]⟩,.string ⟨#[]⟩,.string ⟨#[]⟩,.string ⟨#[]⟩,.bool false],.bool false]) (by simp [results,Tryz.results116,go_sem,c0,c1,c2,c3,c4,f0,f1,f2,f3,f4]) rfl ⟨?_,below_def hb4⟩;exact ret_def (t:=⟨#[]⟩) (u:=⟨#[]⟩) HQ.out.symm
    ·obtain ⟨Z,hZ⟩:∃Z:ByteArray,X.extract n X.size=Z:=⟨_,rfl⟩
     have hZl:Z.data.toList=X.data.toList.drop n:=(by rw [←hZ,Lib.extract_to_end]);have hZz:Z.size≤X.size:=(by rw [Lib.size_eq,hZl,Lib.size_eq];simp);have hp:=fun W=>plain_any Z W (by omega);obtain ⟨P,hP⟩:∃P:ByteArray,P=⟨(plainL Z.data.toList).toArray⟩:=⟨_,rfl⟩
     have hPl:plainL Z.data.toList=P.data.toList:=(by rw [hP]);rw [←hP]at hp;rw [←hZl,hPl]at hq;have HP:=Lib.hid hp;clear hp hP hPl hZl;by_cases hP0:0<P.size
     ·have he2:=empty_no hP0;have hne:P.data.toList≠[]:=(by intro h;rw [Lib.size_eq,h]at hP0;exact absurd hP0 (by simp));rw [if_neg (by rintro ⟨_,_,h⟩;exact hne h)]at hq;have HQ:=Lib.hid hq;clear hq hne;go_enter Tryz.func116,Tryz.ntmps116
      go_wp2_with fail;refine (HD.out _ (HE.out.below hb1)).mono ?_;rintro e w2 ⟨rfl,b2⟩;have hb2:=below_step hb1 b2;go_wp2_with fail;refine (HB.out _).mono ?_;rintro e w3 ⟨rfl,b3⟩;have hb3:=below_step hb2 b3;go_wp2_with fail;refine (HT.out _ (HE.out.below hb3)).mono ?_;rintro e w4 ⟨rfl,b4⟩;have hb4:=below_step hb3 b4;go_wp2_with fail;refine (HP.out _).mono ?_;rintro e w5 ⟨rfl,b5⟩;have hb5:=below_step hb4 b5;obtain ⟨c0,c1,c2,c3,c4,f0,f1,f2,f3,f4,hsz⟩:=zero_def (below_step (below_step (below_step b2 b3) b4) b5);clear hb1 hb2 hb3 hb4 b2 b3 b4 b5;go_wp2_with fail;refine bodyPost_ret (v:=.tuple #[.agg #[.string ⟨#[]⟩,.string ⟨#[]⟩,.string ⟨#[]⟩,.string ⟨#[]⟩,.bool false],.bool false]) (by simp [results,Tryz.results116,go_sem,c0,c1,c2,c3,c4,f0,f1,f2,f3,f4]) rfl ⟨?_,below_def hb5⟩;exact ret_def (t:=⟨#[]⟩) (u:=⟨#[]⟩) HQ.out.symm
     ·have he2:=empty_yes (s:=P) (by omega);have hnil:P.data.toList=[]:=List.eq_nil_of_length_eq_zero (by rw [←Lib.size_eq];omega);rw [if_pos ⟨rfl,rfl,hnil⟩]at hq;have HQ:=Lib.hid hq;clear hq hnil;go_enter Tryz.func116,Tryz.ntmps116
      go_wp2_with fail;refine (HD.out _ (HE.out.below hb1)).mono ?_;rintro e w2 ⟨rfl,b2⟩;have hb2:=below_step hb1 b2;go_wp2_with fail;refine (HB.out _).mono ?_;rintro e w3 ⟨rfl,b3⟩;have hb3:=below_step hb2 b3;go_wp2_with fail;refine (HT.out _ (HE.out.below hb3)).mono ?_;rintro e w4 ⟨rfl,b4⟩;have hb4:=below_step hb3 b4;go_wp2_with fail;refine (HP.out _).mono ?_;rintro e w5 ⟨rfl,b5⟩;have hb5:=below_step hb4 b5;obtain ⟨c0,c1,c2,c3,c4,f0,f1,f2,f3,f4,hsz⟩:=zero_def (below_step (below_step (below_step b2 b3) b4) b5);clear hb1 hb2 hb3 hb4 b2 b3 b4 b5;go_wp2_with fail;refine bodyPost_ret (v:=.tuple #[.agg #[.string ⟨#[]⟩,.string D,.string T,.string ⟨#[]⟩,.bool false],.bool true]) (by simp [results,Tryz.results116,go_sem,c0,c1,c2,c3,c4,f0,f1,f2,f3,f4]) rfl ⟨?_,below_def hb5⟩;exact ret_def HQ.out.symm
  ·have he:=empty_yes (s:=X) (by omega);have hnil:X.data.toList=[]:=List.eq_nil_of_length_eq_zero (by rw [←Lib.size_eq];omega);rw [if_pos hnil]at hq;have HQ:=Lib.hid hq;clear hq hnil;go_enter Tryz.func116,Tryz.ntmps116
   go_wp2_with fail;refine (HD.out _ (HE.out.below hb1)).mono ?_;rintro e w2 ⟨rfl,b2⟩;have hb2:=below_step hb1 b2;go_wp2_with fail;refine (HB.out _).mono ?_;rintro e w3 ⟨rfl,b3⟩;have hb3:=below_step hb2 b3;obtain ⟨c0,c1,c2,c3,c4,f0,f1,f2,f3,f4,hsz⟩:=zero_def (below_step b2 b3);clear hb1 hb2 b2 b3;go_wp2_with fail;refine bodyPost_ret (v:=.tuple #[.agg #[.string ⟨#[]⟩,.string D,.string ⟨#[]⟩,.string ⟨#[]⟩,.bool false],.bool true]) (by simp [results,Tryz.results116,go_sem,c0,c1,c2,c3,c4,f0,f1,f2,f3,f4]) rfl ⟨?_,below_def hb3⟩;exact ret_def (t:=⟨#[]⟩) HQ.out.symm
end Go.Proofs.YtkphljggkajlkaaGreatDoor
namespace Go.Proofs.YtkphljggkajlkaaGreatDoor
open Go.RowKit
set_option linter.unusedVariables false
def cutAt (c:UInt8) (l:List UInt8):List UInt8×List UInt8×Bool:=Lib.cut l [c]
def preAt (c:UInt8) (l:List UInt8):List UInt8×Bool:=(Lib.trimPrefix l [c],Lib.hasPrefix l [c])
theorem pre_any (c:UInt8) (s:ByteArray) (w:World):
  Calls Tryz.prog 79 #[.string s,.string ⟨#[c]⟩] w fun e w'=>e=.returned (.tuple #[.string ⟨(preAt c s.data.toList).1.toArray⟩,.bool (preAt c s.data.toList).2])∧w'=w:=
 Tryz.strings_CutPrefix s ⟨#[c]⟩ w
theorem cut_any (c:UInt8) (s:ByteArray) (w:World) (hE:Env w) (hs:s.size≤1000000000):
  Calls Tryz.prog 113 #[.string s,.string ⟨#[c]⟩] w fun e w'=>e=.returned (.tuple #[.string ⟨(cutAt c s.data.toList).1.toArray⟩,.string ⟨(cutAt c s.data.toList).2.1.toArray⟩,.bool (cutAt c s.data.toList).2.2])∧Below w.heap.size w w':=by
 obtain ⟨m,hm⟩:=hE.maxl;refine (Tryz.strings_Cut s ⟨#[c]⟩ m w (by omega) hm).mono ?_;rintro e w' ⟨rfl,n,rfl⟩;exact ⟨rfl,below_drewN w n⟩
structure DefL where
 name:List UInt8
 url:List UInt8
 title:List UInt8
 text:List UInt8
 note:Bool
deriving DecidableEq
def DefL.none:DefL:=⟨[],[],[],[],false⟩
def DefL.val (d:DefL):Value:=defV d.name d.url d.title d.text d.note
def lineOf (name rest:List UInt8):DefL×Bool:=
 if (preAt 94 name).2=true then
  if plainL rest≠[]∧(nameL (preAt 94 name).1).2=true then (⟨(nameL (preAt 94 name).1).1,[],[],plainL rest,true⟩,true)else (DefL.none,false)
 else if (linkL rest).2.2=true∧(nameL name).2=true then (⟨(nameL name).1,(linkL rest).1,(linkL rest).2.1,[],false⟩,true)else (DefL.none,false)
def lineL (l:List UInt8):DefL×Bool:=
 if (preAt 91 l).2=false then (DefL.none,false)
 else if (cutAt 93 (preAt 91 l).1).2.2=true∧(preAt 58 (cutAt 93 (preAt 91 l).1).2.1).2=true then
  lineOf (cutAt 93 (preAt 91 l).1).1 (behindL (preAt 58 (cutAt 93 (preAt 91 l).1).2.1).1).1
 else (DefL.none,false)
inductive Tok
 |word (l:List UInt8)
 |code (l:List UInt8)
 |tag (l:List UInt8)
 |auto (u t:List UInt8)
 |run (c:UInt8) (n:Nat)
 |mark (l:List UInt8)
 |brk (h:Bool)
 |atom (n:Nat)
deriving DecidableEq
def lettersL:List UInt8:=[97,98,99,100,101,102,103,104,105,106,107,108,109,110,111,112,113,114,115,116,117,118,119,120,121,122,65,66,67,68,69,70,71,72,73,74,75,76,77,78,79,80,81,82,83,84,85,86,87,88,89,90]
def digitsL:List UInt8:=[48,49,50,51,52,53,54,55,56,57]
def specialL:List UInt8:=[0,92,38,96,60,42,95,33,91,93,10,32]
def amongL (s set:List UInt8):Nat:=(s.takeWhile (set.contains ·)).length
def numOf (l:List UInt8):Nat:=l.foldl (fun v c=>v*10+(c.toNat - 48)) 0
def atomL (s:List UInt8):Option (Tok×Nat):=
 if amongL (s.drop 1) digitsL<1∨4<amongL (s.drop 1) digitsL then none
 else if (s.drop (1+amongL (s.drop 1) digitsL)).head? =some 0 then some (.atom (numOf ((s.drop 1).take (amongL (s.drop 1) digitsL))),amongL (s.drop 1) digitsL+2)
 else none
def behindT (s:List UInt8):Nat:=1+amongL (s.drop 1) [32,9]
def escapedL (s:List UInt8):Option (Tok×Nat):=
 match s.drop 1 with
 |[]=>none
 |c::_=>if asciiP c=true then some (.word [c],2)else if c=10 then some (.brk true,1+behindT (s.drop 1))else none
def lfBlank (l:List UInt8):List UInt8:=l.map fun c=>if c=10 then 32 else c
def codeText (l:List UInt8):List UInt8:=
 if (lfBlank l).head? =some 32∧(lfBlank l).getLast? =some 32∧(lfBlank l).any (fun c=>c !=32)=true then (lfBlank l).tail.dropLast else lfBlank l
def codeGo:Nat→List UInt8→Nat→Nat→Tok×Nat
 |0,s,n,_=>(.word (s.take n),n)
 |f+1,s,n,i=>
  if Lib.indexByte (s.drop i) 96<0 then (.word (s.take n),n)
  else if amongL (s.drop (i+(Lib.indexByte (s.drop i) 96).toNat)) [96]=n then
   (.code (codeText ((s.take (i+(Lib.indexByte (s.drop i) 96).toNat)).drop n)),i+(Lib.indexByte (s.drop i) 96).toNat+n)
  else codeGo f s n (i+(Lib.indexByte (s.drop i) 96).toNat+amongL (s.drop (i+(Lib.indexByte (s.drop i) 96).toNat)) [96])
def codeL (s:List UInt8):Tok×Nat:=codeGo (s.length+1) s (amongL s [96]) (amongL s [96])
def autoEnd:List UInt8→Nat→Option Nat
 |[],_=>none
 |c::l,i=>if c=62 then some i else if c≤32∨c=60∨c=127 then none else autoEnd l (i+1)
def autoL (s:List UInt8):Option (Tok×Nat):=
 if amongL (s.drop 1) lettersL=0 then none
 else if amongL (s.drop 2) (lettersL++digitsL++[43,46,45])<1∨31<amongL (s.drop 2) (lettersL++digitsL++[43,46,45])then none
 else if (s.drop (2+amongL (s.drop 2) (lettersL++digitsL++[43,46,45]))).head? =some 58 then
  (match autoEnd (s.drop (2+amongL (s.drop 2) (lettersL++digitsL++[43,46,45]))) (2+amongL (s.drop 2) (lettersL++digitsL++[43,46,45]))with
  |some i=>some (.auto ((s.take i).drop 1) ((s.take i).drop 1),i+1)
  |none=>none)
 else none
def mailto:List UInt8:=[109,97,105,108,116,111,58]
def mailL (s:List UInt8):Option (Tok×Nat):=
 if amongL (s.drop 1) (lettersL++digitsL++[46,45,95,43])=0 then none
 else if (s.drop (1+amongL (s.drop 1) (lettersL++digitsL++[46,45,95,43]))).head? =some 64 then
  (if amongL (s.drop (2+amongL (s.drop 1) (lettersL++digitsL++[46,45,95,43]))) (lettersL++digitsL++[45,46])=0 then none
  else if (s.drop (2+amongL (s.drop 1) (lettersL++digitsL++[46,45,95,43])+amongL (s.drop (2+amongL (s.drop 1) (lettersL++digitsL++[46,45,95,43]))) (lettersL++digitsL++[45,46]))).head? =some 62 then
   some (.auto (mailto++(s.take (2+amongL (s.drop 1) (lettersL++digitsL++[46,45,95,43])+amongL (s.drop (2+amongL (s.drop 1) (lettersL++digitsL++[46,45,95,43]))) (lettersL++digitsL++[45,46]))).drop 1)
    ((s.take (2+amongL (s.drop 1) (lettersL++digitsL++[46,45,95,43])+amongL (s.drop (2+amongL (s.drop 1) (lettersL++digitsL++[46,45,95,43]))) (lettersL++digitsL++[45,46]))).drop 1),
    2+amongL (s.drop 1) (lettersL++digitsL++[46,45,95,43])+amongL (s.drop (2+amongL (s.drop 1) (lettersL++digitsL++[46,45,95,43]))) (lettersL++digitsL++[45,46])+1)
  else none)
 else none
def tagEnd:List UInt8→Nat→Option Nat
 |[],_=>none
 |c::l,i=>if c=62 then some i else if c=60∨c=0 then none else tagEnd l (i+1)
def tagAt (s:List UInt8) (a:Nat):Option (Tok×Nat):=
 if amongL (s.drop a) lettersL=0 then none
 else
  match s.drop (a+amongL (s.drop a) (lettersL++digitsL++[45]))with
  |[]=>none
  |c::r=>
   if c≠62∧c≠32∧c≠10∧c≠47 then none
   else match tagEnd (c::r) (a+amongL (s.drop a) (lettersL++digitsL++[45]))with
    |some i=>some (.tag (s.take (i+1)),i+1)
    |none=>none
def tagL (s:List UInt8):Option (Tok×Nat):=tagAt s (if (s.drop 1).head? =some 47 then 2 else 1)
def angleL (s:List UInt8):Option (Tok×Nat):=
 match autoL s with
 |some r=>some r
 |none=>match mailL s with
  |some r=>some r
  |none=>tagL s
def beginsL:List UInt8→Option (Tok×Nat)
 |[]=>none
 |c::r=>
  if c=0 then atomL (c::r)
  else if c=92 then escapedL (c::r)
  else if c=38 then (if 0<(entAt (c::r)).2 then some (.word (entAt (c::r)).1,(entAt (c::r)).2)else none)
  else if c=96 then some (codeL (c::r))
  else if c=60 then angleL (c::r)
  else if c=42∨c=95 then some (.run c (amongL (c::r) [c]),amongL (c::r) [c])
  else if c=33 then (if r.head? =some 91 then some (.mark [33,91],2)else none)
  else if c=91∨c=93 then some (.mark [c],1)
  else if c=32∨c=10 then
   (if ((c::r).drop (amongL (c::r) [32])).head? =some 10 then some (.brk (decide (2≤amongL (c::r) [32])),amongL (c::r) [32]+behindT ((c::r).drop (amongL (c::r) [32])))
   else some (.word ((c::r).take (amongL (c::r) [32])),amongL (c::r) [32]))
  else none
def plainTo (s:List UInt8):Nat:=if 0≤Lib.indexAny (s.drop 1) specialL then 1+(Lib.indexAny (s.drop 1) specialL).toNat else s.length
def nextL (s:List UInt8):Tok×Nat:=
 match beginsL s with
 |some r=>r
 |none=>(.word (s.take (plainTo s)),plainTo s)
def Tok.val:Tok→Value
 | .word l=>.iface 198 (.string ⟨l.toArray⟩)
 | .code l=>.iface 239 (.string ⟨l.toArray⟩)
 | .tag l=>.iface 251 (.string ⟨l.toArray⟩)
 | .auto u t=>.iface 250 (.agg #[.string ⟨u.toArray⟩,.string ⟨t.toArray⟩])
 | .run c n=>.iface 218 (.agg #[.int .u8 (c.toNat:Int),.int .i64 n])
 | .mark l=>.iface 220 (.agg #[.string ⟨l.toArray⟩])
 | .brk h=>.iface 222 (.agg #[.bool h])
 | .atom n=>.iface 186 (.agg #[.int .i64 n])
def tokVal:Option (Tok×Nat)→Value
 |some r=>r.1.val
 |none=>.nilIface
def tokLen:Option (Tok×Nat)→Nat
 |some r=>r.2
 |none=>0
theorem ba_ex (l:List UInt8):∃X:ByteArray,X.data.toList=l∧X.size=l.length:=⟨⟨l.toArray⟩,rfl,by rw [Lib.size_eq]⟩
theorem among_trim (s set:List UInt8):amongL s set+(Lib.trimLeftS s set).length=s.length:=by
 unfold amongL Lib.trimLeftS;rw [←List.length_append,List.takeWhile_append_dropWhile]
theorem among_le (s set:List UInt8):amongL s set≤s.length:=by have:=among_trim s set;omega
end Go.Proofs.YtkphljggkajlkaaGreatDoor
namespace Go.Proofs.YtkphljggkajlkaaGreatDoor
open Go.RowKit
def lookL (ds:List DefL) (x:List UInt8) (note:Bool):Option DefL:=ds.find? fun d=>d.name==x&&d.note==note
end Go.Proofs.YtkphljggkajlkaaGreatDoor
namespace Go.Proofs.YtkphljggkajlkaaGreatDoor
open Go.RowKit
set_option linter.unusedVariables false
structure Inl where
 kind:Nat
 depth:Nat
 text:List UInt8
 url:List UInt8
 title:List UInt8
deriving DecidableEq
def Inl.cells (x:Inl):List Value:=[.int .i64 (x.kind:Int),.int .i64 (x.depth:Int),.string ⟨x.text.toArray⟩,.string ⟨x.url.toArray⟩,.string ⟨x.title.toArray⟩]
def Inl.val (x:Inl):Value:=.agg #[.int .i64 (x.kind:Int),.int .i64 (x.depth:Int),.string ⟨x.text.toArray⟩,.string ⟨x.url.toArray⟩,.string ⟨x.title.toArray⟩]
structure IItem where
 sign:UInt8
 n:Nat
 op:Bool
 cl:Bool
 l:List Inl
deriving DecidableEq
structure Piece where
 it:IItem
 left:Nat
 shut:Bool
deriving DecidableEq
def wordsI (l:List UInt8):Inl:=⟨1,0,l,[],[]⟩
def deep1 (x:Inl):Inl:={x with depth:=x.depth+1}
def deeperL (l:List Inl):List Inl:=l.map deep1
def Piece.nodes (p:Piece):List Inl:=
 if p.it.sign=0 then p.it.l else if 0<p.left then [wordsI (List.replicate p.left p.it.sign)]else []
def pairs (a b:Piece):Bool:=
 if a.it.sign≠b.it.sign∨a.it.op=false∨a.left<1 then false
 else !((a.it.op&&a.it.cl)||(b.it.op&&b.it.cl))|| !((a.it.n+b.it.n) % 3==0)||(a.it.n % 3==0&&b.it.n % 3==0)
def signsOf (p:List Piece):Nat:=(p.map Piece.left).sum
structure AtomT where
 label:List UInt8
 text:List UInt8
deriving DecidableEq
def restoreGo:Nat→List UInt8→List AtomT→List UInt8
 |0,_,_=>[]
 |_+1,[],_=>[]
 |f+1,c::l,ts=>
  if c=0 then
   match nextL (c::l)with
   |(.atom n,m)=>(match ts[n]? with|some a=>a.text|none=>[])++restoreGo f ((c::l).drop m) ts
   |_=>c::restoreGo f l ts
  else c::restoreGo f l ts
def restoreL (l:List UInt8) (ts:List AtomT):List UInt8:=restoreGo (l.length+1) l ts
structure Opn where
 at':Nat
 fin:Nat
 image:Bool
 shut:Bool
deriving DecidableEq
structure PSt where
 items:List IItem
 opens:List Opn
deriving DecidableEq
def PSt.put (st:PSt) (l:List Inl):PSt:={st with items:=st.items++[⟨0,0,false,false,l⟩]}
end Go.Proofs.YtkphljggkajlkaaGreatDoor
namespace Go.Proofs.YtkphljggkajlkaaGreatDoor
set_option linter.unusedVariables false
def badL:List UInt8:=[239,191,189]
def repairGo:Nat→List UInt8→Nat→List UInt8
 |0,_,_=>[]
 |f+1,s,i=>
  if s.length≤i then []
  else
   let r:=(Lib.decodeL (s.drop i)).1
   (if r=0∨r=65533 then badL else if r=13 then [10]else if r=10∧0<i∧s[i - 1]? =some 13 then []else Lib.encodeRune (r:Int))++repairGo f s (i+(Lib.decodeL (s.drop i)).2)
def repairL (s:List UInt8):List UInt8:=repairGo s.length s 0
def blankB (c:UInt8):Bool:=c==32||c==9
def linesL:List UInt8→List (List UInt8)
 |[]=>[]
 |c::t=>if c=10 then []::linesL t else match linesL t with
  |[]=>[[c]]
  |x::xs=>(c::x)::xs
def joinL (l:List (List UInt8)):List UInt8:=l.flatMap (·++[10])
def blankV (s:List UInt8):Bool:=s.all blankB
def colL:List UInt8→Nat→Nat
 |[],c=>c
 |x::t,c=>if x=32 then colL t (c+1)else if x=9 then colL t (c+(4 - c % 4))else c
def restB (s:List UInt8):List UInt8:=s.dropWhile blankB
def indentL (s:List UInt8):Nat:=colL s 0
def expandL (s:List UInt8):List UInt8:=List.replicate (indentL s) 32++restB s
def stripN (s:List UInt8) (n:Nat):List UInt8:=(expandL s).drop (min n (indentL s))
def rstripL (p:UInt8→Bool) (s:List UInt8):List UInt8:=(s.reverse.dropWhile p).reverse
def trimB (s:List UInt8):List UInt8:=rstripL blankB (restB s)
def mayIn (s:List UInt8):Bool:=decide (indentL s≤3)
def rowL (s:List UInt8) (c:UInt8):Nat:=(s.takeWhile (·==c)).length
def headL (s:List UInt8):Nat×List UInt8×Bool:=
 let x:=restB s
 let n:=rowL x 35
 let rest:=x.drop n
 if mayIn s=false∨n<1∨6<n∨(rest.head?.any fun c=> !blankB c)=true then (0,[],false)
 else
  let r:=trimB rest
  let t:=rstripL (·==35) r
  if t=[]∨(t.getLast?.any blankB)=true then (n,rstripL blankB t,true)else (n,r,true)
def ruleL (s:List UInt8):Bool:=
 let x:=restB s
 match x.head? with
 |none=>false
 |some c=>mayIn s&&[45,42,95].contains c&&decide (3≤(x.filter (·==c)).length)&&x.all fun y=>blankB y||y==c
def fenceL (s:List UInt8):UInt8×Nat×List UInt8×Bool:=
 let x:=restB s
 match x.head? with
 |none=>(0,0,[],false)
 |some c=>
  if mayIn s=false∨(c≠96∧c≠126)then (0,0,[],false)
  else
   let n:=rowL x c
   let info:=trimB (x.drop n)
   if n<3∨(c=96∧info.contains 96=true)then (0,0,[],false)else (c,n,info,true)
def closesF (s:List UInt8) (c:UInt8) (n:Nat):Bool:=
 mayIn s&&decide (max n 1≤rowL (restB s) c)&&blankV ((restB s).drop (rowL (restB s) c))
def quoteL (s:List UInt8):List UInt8×Bool:=
 if mayIn s=true∧(preAt 62 (restB s)).2=true then (Lib.trimPrefix (preAt 62 (restB s)).1 [32],true)else ([],false)
def numberGo:List UInt8→Nat→Nat→Nat×Nat
 |[],i,v=>(i,v)
 |c::t,i,v=>if c<48∨57<c∨i=9 then (i,v)else numberGo t (i+1) (v*10+(c.toNat - 48))
def itemL (s:List UInt8):UInt8×Int×Nat×List UInt8×Bool:=
 let x:=restB s
 let no:UInt8×Int×Nat×List UInt8×Bool:=(0,0,0,[],false)
 if mayIn s=false∨x=[]∨ruleL s=true then no
 else
  let n:=(numberGo x 0 0).1
  let v:Int:=if n=0 then -1 else (numberGo x 0 0).2
  match x[n]? with
  |none=>no
  |some sign=>
   if (n=0∧[45,43,42].contains sign=false)∨(0<n∧sign≠46∧sign≠41)then no
   else
    let rest:=x.drop (n+1)
    if (rest.head?.any fun c=>c !=32)=true then no
    else
     let g0:=rowL rest 32
     let gap:=if 4<g0∨g0=rest.length then 1 else g0
     (sign,v,indentL s+n+1+gap,rest.drop (min gap rest.length),true)
def underL (s:List UInt8):Nat:=
 let x:=rstripL blankB (restB s)
 if mayIn s=false∨x=[]then 0 else if x.all (·==61)then 1 else if x.all (·==45)then 2 else 0
def htmlL (s:List UInt8):Bool:=
 let x:=restB s
 if mayIn s=false∨(preAt 60 x).2=false then false
 else match (preAt 60 x).1.head? with
  |none=>false
  |some r=>(97≤(r ||| 32)&&(r ||| 32)≤122&&65≤r)||[47,33,63].contains r
def rtrimS (s:List UInt8):List UInt8:=rstripL (·==32) s
def labelL (s:List UInt8):Bool:=(s.all fun c=> !([123,125,124,58,32,9].contains c))&&s !=[]&&decide (s.length≤40)
def opensD (s:List UInt8):List UInt8×Bool:=
 let x:=rtrimS s
 if Lib.hasPrefix x [58,58,58,123]=false then ([],false)
 else
  let r:=Lib.trimPrefix x [58,58,58,123]
  if r.getLast? =some 125 then (r.dropLast,labelL r.dropLast)else (r,false)
def shutsD (s:List UInt8):Bool:=rtrimS s==[58,58,58]
structure PartL where
 depth:Nat
 div:Bool
 label:List UInt8
 opn:Bool
 lines:List (List UInt8)
deriving DecidableEq
structure FrSt where
 out:List PartL
 inn:List Nat
 run:Bool
def frameStep (st:FrSt) (s:List UInt8):FrSt:=
 if (opensD s).2=true then ⟨st.out++[⟨st.inn.length,true,(opensD s).1,true,[]⟩],st.inn++[st.out.length],false⟩
 else if shutsD s=true∧0<st.inn.length then
  ⟨st.out.modify (st.inn.getLast?.getD 0) (fun p=>{p with opn:=false}),st.inn.dropLast,false⟩
 else if st.run=true then ⟨st.out.modify (st.out.length - 1) (fun p=>{p with lines:=p.lines++[s]}),st.inn,true⟩
 else ⟨st.out++[⟨st.inn.length,false,[],false,[s]⟩],st.inn,true⟩
def frameL (l:List (List UInt8)):List PartL:=(l.foldl frameStep ⟨[],[],false⟩).out
structure PieceF where
 span:Bool
 label:List UInt8
 text:List UInt8
deriving DecidableEq
def cut2 (a b:UInt8):List UInt8→Option (List UInt8)
 |[]=>none
 |c::t=>if c=a∧t.head? =some b then some []else (cut2 a b t).map (c::·)
def spanAt (s:List UInt8):PieceF×Nat:=
 let no:PieceF×Nat:=(⟨false,[],[]⟩,0)
 if Lib.hasPrefix s [123,124]=false then no
 else
  let q:=cutAt 58 (Lib.trimPrefix s [123,124])
  if q.2.2=false∨labelL q.1=false then no
  else match cut2 124 125 q.2.1 with
   |none=>no
   |some text=>(⟨true,q.1,text⟩,q.1.length+text.length+5)
def spansGo:Nat→List UInt8→List UInt8→List PieceF
 |0,_,_=>[]
 |f+1,s,acc=>
  let gap:List PieceF:=if acc=[]then []else [⟨false,[],acc⟩]
  match s with
  |[]=>gap
  |c::t=>if (spanAt s).2=0 then spansGo f t (acc++[c])else gap++(spanAt s).1::spansGo f (s.drop (spanAt s).2) []
def spansL (s:List UInt8):List PieceF:=spansGo (s.length+1) s []
def last2 (a b:UInt8):List UInt8→Option Nat
 |[]=>none
 |c::t=>match last2 a b t with
  |some k=>some (k+1)
  |none=>if c=a∧t.head? =some b then some 0 else none
def headingL (s:List UInt8):List UInt8×List UInt8×Bool:=
 let no:List UInt8×List UInt8×Bool:=([],[],false)
 let y:=rtrimS s
 if y.getLast? ≠some 125 then no
 else
  let rest:=y.dropLast
  match last2 123 61 rest with
  |none=>no
  |some at'=>
   if labelL (rest.drop (at'+2))=false then no
   else
    let ahead:=rest.take at'
    let x:=ahead.dropWhile (·==32)
    let y2:=x.dropWhile (·==35)
    if 3<ahead.length - x.length∨x.length - y2.length<1∨6<x.length - y2.length∨y2.head? ≠some 32 then no
    else (ahead,rest.drop (at'+2),true)
structure BlkL where
 kind:Nat
 depth:Nat
 n:Int
 tight:Bool
 text:List UInt8
 info:List UInt8
deriving DecidableEq
def lineAt (l:List (List UInt8)) (i:Nat):List UInt8:=l[i]?.getD []
def indentedEnd:List (List UInt8)→Nat→Nat→Nat
 |[],_,e=>e
 |s::t,i,e=>if blankV s then indentedEnd t (i+1) e else if 4≤indentL s then indentedEnd t (i+1) (i+1)else e
def codeB (d:Nat) (info:List UInt8) (l:List (List UInt8)) (n:Nat):BlkL:=⟨6,d,0,false,joinL (l.map (stripN · n)),info⟩
def quoteLines:List (List UInt8)→List (List UInt8)
 |[]=>[]
 |s::t=>if (quoteL s).2 then (quoteL s).1::quoteLines t else []
def itemGo (columns:Nat):List (List UInt8)→Nat→Nat→List (List UInt8)×Nat
 |[],_,many=>([],many)
 |s::t,i,many=>
  if blankV s||decide (columns≤indentL s)then
   let q:=itemGo columns t (i+1) (if blankV s then many else i+1)
   (stripN s columns::q.1,q.2)
  else ([],many)
def quotesP (d:Nat) (s:List UInt8):Bool:=(quoteL s).2&&decide (d<12)
def listsP (d:Nat) (s:List UInt8):Bool:=(itemL s).2.2.2.2&&decide (d<11)
def endsP (d:Nat) (s:List UInt8):Bool:=
 blankV s||(fenceL s).2.2.2||(headL s).2.2||ruleL s||quotesP d s||
  (listsP d s&& !blankV (itemL s).2.2.2.1&&((itemL s).2.1== -1||(itemL s).2.1==1))
def paraGo (d:Nat):List (List UInt8)→List (List UInt8)→Nat→List (List UInt8)×Nat×Nat
 |[],acc,k=>(acc,0,k)
 |s::t,acc,k=>
  if acc≠[]∧0<underL s then (acc,underL s,k+1)
  else if acc≠[]∧endsP d s=true then (acc,0,k)
  else paraGo d t (acc++[restB s]) (k+1)
def joinLf:List (List UInt8)→List UInt8
 |[]=>[]
 |[x]=>x
 |x::y::t=>x++10::joinLf (y::t)
def itemsGo (W:Nat→List (List UInt8)→List BlkL) (d:Nat) (sign:UInt8) (l:List (List UInt8)):Nat→Nat→Nat→List BlkL×Nat
 |0,_,e=>([],e)
 |f+1,a,e=>
  match l[a]? with
  |none=>([],e)
  |some s=>
   if (itemL s).2.2.2.2=false∨(itemL s).1≠sign then ([],e)
   else
    let q:=itemGo (itemL s).2.2.1 (l.drop (a+1)) 1 1
    let e2:=a+q.2
    let z:=itemsGo W d sign l f (e2+((l.drop e2).takeWhile blankV).length) e2
    (⟨5,d+1,0,false,[],[]⟩::(W (d+2) (((itemL s).2.2.2.1::q.1).take q.2)++z.1),z.2)
def nextB (W:Nat→List (List UInt8)→List BlkL) (d:Nat) (l:List (List UInt8)):List BlkL×Nat:=
 let s:=lineAt l 0
 if blankV s then ([],1)
 else if 4≤indentL s then ([codeB d [] (l.take (indentedEnd l 0 0)) 4],indentedEnd l 0 0)
 else if (fenceL s).2.2.2 then
  let n:=((l.drop 1).takeWhile fun x=> !closesF x (fenceL s).1 (fenceL s).2.1).length
  ([codeB d (fenceL s).2.2.1 ((l.drop 1).take n) (indentL s)],n+2)
 else if (headL s).2.2 then ([⟨2,d,(headL s).1,false,(headL s).2.1,[]⟩],1)
 else if ruleL s then ([⟨7,d,0,false,[],[]⟩],1)
 else if quotesP d s then (⟨3,d,0,false,[],[]⟩::W (d+1) (quoteLines l),(quoteLines l).length)
 else if listsP d s then
  let q:=itemsGo W d (itemL s).1 l (l.length+1) 0 0
  (⟨4,d,(itemL s).2.1,(l.take q.2).all (fun x=> !blankV x),[],[(itemL s).1]⟩::q.1,q.2)
 else if htmlL s then
  let n:=(l.takeWhile fun x=> !blankV x).length
  ([⟨8,d,0,false,joinL (l.take n),[]⟩],n)
 else
  let q:=paraGo d l [] 0
  let text:=rstripL blankB (joinLf q.1)
  ([if 0<q.2.1 then ⟨2,d,q.2.1,false,text,[]⟩else ⟨1,d,0,false,text,[]⟩],q.2.2)
def allGoB (W:Nat→List (List UInt8)→List BlkL):Nat→Nat→List (List UInt8)→List BlkL
 |0,_,_=>[]
 |f+1,d,l=>if l=[]then []else (nextB W d l).1++allGoB W f d (l.drop (nextB W d l).2)
def blocksK:Nat→Nat→List (List UInt8)→List BlkL
 |0,_,_=>[]
 |k+1,d,l=>allGoB (blocksK k) (l.length+1) d l
def blocksL (l:List (List UInt8)):List BlkL:=blocksK 14 0 l
structure SeerL where
 see1:List UInt8→Bool
 unk:List UInt8→Bool
def SeerL.sees (z:SeerL) (l:List (List UInt8)):Bool:=l.all z.see1
structure DiagL where
 kind:Nat
 text:List UInt8
deriving DecidableEq
structure VwSt where
 blocks:List BlkL
 atoms:List AtomT
 defs:List DefL
 diags:List DiagL
 tab:List DefL
def VwSt.none:VwSt:=⟨[],[],[],[],[]⟩
def VwSt.diag (b:VwSt) (kind:Nat) (text:List UInt8):VwSt:={b with diags:=b.diags++[⟨kind,text⟩]}
def VwSt.label (b:VwSt) (z:SeerL) (x:List UInt8):VwSt:=if z.unk x then b.diag 1 x else b
def pieceV (z:SeerL) (under:List (List UInt8)) (q:List UInt8×VwSt) (p:PieceF):List UInt8×VwSt:=
 if p.span=false then (q.1++p.text,q.2)
 else if z.sees (under++[p.label])then
  let b:=q.2.label z p.label
  (q.1++0::(Lib.decDigits b.atoms.length++[0]),{b with atoms:=b.atoms++[⟨p.label,p.text⟩]})
 else q
def lineV (z:SeerL) (b:VwSt) (s:List UInt8) (under:List (List UInt8)):List UInt8×VwSt:=
 if (headingL s).2.2 then
  if z.sees (under++[(headingL s).2.1])then
   (spansL (headingL s).1).foldl (pieceV z (under++[(headingL s).2.1])) ([],b.label z (headingL s).2.1)
  else ([],b)
 else (spansL s).foldl (pieceV z under) ([],b)
def linesV (z:SeerL) (under:List (List UInt8)):List (List UInt8)→VwSt→List (List UInt8)×VwSt
 |[],b=>([],b)
 |s::t,b=>
  let q:=lineV z b s under
  let r:=linesV z under t q.2
  (q.1::r.1,r.2)
def runV (z:SeerL) (b:VwSt) (p:PartL) (under:List (List UInt8)):VwSt:=
 let q:=linesV z under p.lines b
 {q.2 with blocks:=q.2.blocks++(blocksL q.1).map fun x=>{x with depth:=x.depth+p.depth}}
def paraV:Nat→VwSt→List UInt8→List UInt8×VwSt
 |0,b,t=>(t,b)
 |f+1,b,t=>
  if t=[]then (t,b)
  else
   let d:=lineL (restoreL (cutAt 10 t).1 b.atoms)
   if d.2=false then (t,b)
   else if (lookL b.tab d.1.name d.1.note).isSome then
    paraV f (b.diag 4 ((if d.1.note then [94]else [])++d.1.name)) (cutAt 10 t).2.1
   else paraV f {b with tab:=b.tab++[d.1],defs:=b.defs++[d.1]} (cutAt 10 t).2.1
def tidyStep (b:VwSt) (x:BlkL):VwSt:=
 if x.kind=1 then
  let q:=paraV (x.text.length+1) b x.text
  if q.1=[]then q.2 else {q.2 with blocks:=q.2.blocks++[{x with text:=q.1}]}
 else if x.kind=6∨x.kind=8 then {b with blocks:=b.blocks++[{x with text:=restoreL x.text b.atoms,info:=restoreL x.info b.atoms}]}
 else {b with blocks:=b.blocks++[x]}
def tidyV (b:VwSt):VwSt:=b.blocks.foldl tidyStep {b with blocks:=[]}
def partV (z:SeerL) (q:VwSt×List (List UInt8)×Option Nat) (p:PartL):VwSt×List (List UInt8)×Option Nat:=
 if (q.2.2.any fun h=>decide (h<p.depth))=true then q
 else
  let under:=q.2.1.take p.depth
  if p.div=false then (runV z q.1 p under,under,none)
  else
   let under:=under++[p.label]
   if z.sees under=false then (q.1,under,some p.depth)
   else
    let b:=q.1.label z p.label
    let b:=if p.opn then b.diag 2 p.label else b
    ({b with blocks:=b.blocks++[⟨9,p.depth,0,false,[],p.label⟩]},under,none)
def buildL (z:SeerL) (doc:List UInt8):VwSt:=
 tidyV ((frameL (linesL (repairL doc))).foldl (partV z) (VwSt.none,[],none)).1
def diaNames:List (List UInt8):=["low".toUTF8.data.toList, "left".toUTF8.data.toList, "right".toUTF8.data.toList, "high".toUTF8.data.toList]
def diaIdx (x:List UInt8):Nat:=if diaNames.contains x then diaNames.idxOf x else 3
def diaSeer (k:Nat):SeerL:=⟨fun x=>(diaIdx x ||| k)==k,fun x=> !diaNames.contains x⟩
end Go.Proofs.YtkphljggkajlkaaGreatDoor
namespace Go.Proofs.YtkphljggkajlkaaGreatDoor
open Go.RowKit Go.Deep
set_option linter.unusedVariables false
set_option linter.unusedSimpArgs false
theorem add_at (x:Addr) (hx:x.spot=none) (j:Nat):x.add j=⟨x.block,x.off+j,none⟩:=by
 obtain ⟨b,o,s⟩:=x;simp only at hx;subst hx;unfold Addr.add;split<;>simp_all
theorem cells_new (w:World) (xs:List Value) (t:TypeId) (b:Nat) (hb:b=w.heap.size):∀j u,xs[j]? =some u→(w.alloc (.cells xs.toArray t)).cell? ((⟨b,0,none⟩:Addr).add j)=some u:=by
 subst hb;intro j u hj;rw [add_at _ rfl];simp [hj]
theorem own_below {w w':World} {base:Nat} {e:TypeId} {size:Nat} {v:Value} {n:Nat} {xs:List Value} (h:w.ownsRow base e size v n xs) (hb:Below w.heap.size w w'):w'.ownsRow base e size v n xs:=
 h.kept (row:=none) ⟨hb.os,hb.tape,hb.output,hb.size,fun k hk _=>hb.block k hk⟩ (Classical.em _)
end Go.Proofs.YtkphljggkajlkaaGreatDoor
namespace Go.Proofs.YtkphljggkajlkaaGreatDoor
open Go.RowKit
set_option linter.unusedVariables false
set_option linter.unusedSimpArgs false
structure RowR (w:World) (size:Nat) (ao:Option Addr) (n:Nat) (xs:List Value):Prop where
 len:xs.length=n*size
 non:ao=none→n=0
 at':∀ad,ao=some ad→ad.spot=none∧∀j u,xs[j]? =some u→w.cell? (ad.add j)=some u
theorem own_rowR {w:World} {base:Nat} {e:TypeId} {size:Nat} {ao:Option Addr} {n m c:Nat} {xs:List Value} (h:w.ownsRow base e size (.slice ao m c) n xs):m=n∧RowR w size ao n xs∧(ao=none→c=0):=by
 obtain ⟨hl,h2⟩:=h;rcases h2 with ⟨h2,h3⟩|⟨g,cap,cur,h2,hb,hg,hnc,hcm,hcs,htake⟩
 ·simp only [Value.slice.injEq]at h2;obtain ⟨rfl,rfl,rfl⟩:=h2;exact ⟨h3.symm,⟨hl,fun _=>h3,fun ad had=>by cases had⟩,fun _=>rfl⟩
 ·simp only [Value.slice.injEq]at h2;obtain ⟨rfl,rfl,rfl⟩:=h2;refine ⟨rfl,⟨hl,(fun h=>by cases h),fun ad had=>?_⟩,fun h=>by cases h⟩;obtain rfl:=Option.some.inj had;refine ⟨rfl,fun j u hu=>?_⟩;exact World.ownsRow.cells (w:=w) (base:=base) (e:=e) (size:=size) (v:=.slice (some ⟨g,0,none⟩) m c) (n:=m) (xs:=xs) ⟨hl,.inr ⟨g,c,cur,rfl,hb,hg,hnc,hcm,hcs,htake⟩⟩ rfl j u hu
theorem RowR.below {w w':World} {size:Nat} {ao:Option Addr} {n:Nat} {xs:List Value} (h:RowR w size ao n xs) (hb:Below w.heap.size w w'):RowR w' size ao n xs:=
 ⟨h.len,h.non,fun ad had=>⟨(h.at' ad had).1,fun j u hu=>by
  have hc:=(h.at' ad had).2 j u hu;exact (hb.cell (World.block_lt_of_cell? _ _ hc)).trans hc⟩⟩
theorem wpList_append_row {P:Program} (w:World) {ops:Array Oper} {rest:List Oper} {o:Oper} {a:Act} {Q:Exit→Act→World→Prop} (hgd:o.guard=none) (s x:Operand) (t:TypeId)
  (ho:o.op=.call {callee:=.builtin .append,args:=#[s,x],argTypes:=#[t,t]})
  (base:Nat) (e:TypeId) (i:TypeInfo) (z:Value) (size bytes:Nat) (ht:P.underlying t=some (.slice e)) (hi:P.info? e=some i) (hz:i.zero=some z)
  (hsize:i.size=size) (hby:i.bytes=bytes) (hzs:z.cells.size=size) (hsz:0<size)
  (v:Value) (n:Nat) (xs:List Value) (hs:a.eval s=v) (hown:w.ownsRow base e size v n xs)
  (ao:Option Addr) (m c:Nat) (news:List Value) (hx:a.eval x=.slice ao m c) (hr:RowR w size ao m news) (hc:ao=none→c=0) (h1:∀u∈news,u.oneCell'=true)
  (h63:n+m≤maxLen) (hbytes:(n+m)*bytes≤140737488355328) (hbase:base≤w.heap.size)
  (h:∀v' w',w'.ownsRow base e size v' (n+m) (xs++news)→w.grownBy w' v.ownBlock→wpList P ops Q rest (a.put o.dst v') w'):wpList P ops Q (o::rest) a w:=by
 cases ao with
 |some ad=>exact wpList_append_own w hgd s x t ho base e i z size bytes ht hi hz hsize hby hzs hsz v n xs hs hown ad m c news hx hr.len (hr.at' ad rfl).2 h1 h63 hbytes hbase fun v' w' h2 h3 _=>h v' w' h2 h3
 |none=>
  obtain rfl:=hr.non rfl;obtain rfl:=hc rfl;have hn:news=[]:=List.eq_nil_of_length_eq_zero (by simpa using hr.len);subst hn;exact wpList_append_own_none hgd s x t ho base e i size ht hi v n xs hs hown hx (h v w (by simpa using hown) (World.grownBy.refl w _))
theorem own_apart {w:World} {b1 b2:Nat} {e1 e2:TypeId} {z1 z2 n1 n2:Nat} {v1 v2:Value} {x1 x2:List Value} (h1:w.ownsRow b1 e1 z1 v1 n1 x1) (h2:w.ownsRow b2 e2 z2 v2 n2 x2) (he:e1≠e2):v1.ownBlock=none∨v1.ownBlock≠v2.ownBlock:=by
 rcases h1.2 with ⟨rfl,_⟩|⟨g,cap,cur,rfl,_,hg,_⟩
 ·exact Or.inl rfl
 ·refine Or.inr fun h=>?_;rcases h2.2 with ⟨rfl,_⟩|⟨g',cap',cur',rfl,_,hg',_⟩
  ·simp [Value.ownBlock]at h
  ·simp [Value.ownBlock]at h;subst h;rw [hg]at hg';simp at hg';exact he hg'.2
theorem own_take {w:World} {base:Nat} {e:TypeId} {size:Nat} {v:Value} {n:Nat} {xs:List Value} (h:w.ownsRow base e size v n xs) (k:Nat) (hk:k≤n):
  ∀ao m c,v=.slice ao m c→w.ownsRow base e size (.slice ao k c) k (xs.take (k*size)):=by
 rintro ao m c rfl;obtain ⟨hl,h2⟩:=h;have hle:k*size≤n*size:=Nat.mul_le_mul_right _ hk;refine ⟨by rw [List.length_take,hl];omega,?_⟩;rcases h2 with ⟨h2,h3⟩|⟨g,cap,cur,h2,hb,hg,hnc,hcm,hcs,htake⟩
 ·simp only [Value.slice.injEq]at h2;obtain ⟨rfl,rfl,rfl⟩:=h2;obtain rfl:k=0:=(by omega);exact .inl ⟨rfl,rfl⟩
 ·simp only [Value.slice.injEq]at h2;obtain ⟨rfl,rfl,rfl⟩:=h2;refine .inr ⟨g,c,cur,rfl,hb,hg,by omega,hcm,hcs,?_⟩;rw [←htake,List.take_take,Nat.min_eq_left hle]
theorem own_mono {w:World} {base base':Nat} {e:TypeId} {size:Nat} {v:Value} {n:Nat} {xs:List Value} (h:w.ownsRow base e size v n xs) (hb:base'≤base):w.ownsRow base' e size v n xs:=by
 refine ⟨h.1,?_⟩;rcases h.2 with h2|⟨g,cap,cur,hv,hg,r⟩
 ·exact .inl h2
 ·exact .inr ⟨g,cap,cur,hv,by omega,r⟩
theorem own_slice {w:World} {base:Nat} {e:TypeId} {size:Nat} {v:Value} {n:Nat} {xs:List Value} (h:w.ownsRow base e size v n xs):∃ao c,v=.slice ao n c∧RowR w size ao n xs∧(ao=none→c=0)∧n≤c:=by
 have h':=h;rcases h.2 with ⟨rfl,rfl⟩|⟨g,cap,cur,rfl,hb,hg,hnc,_⟩
 ·exact ⟨none,0,rfl,(own_rowR h').2.1,fun _=>rfl,Nat.le_refl _⟩
 ·exact ⟨some ⟨g,0,none⟩,cap,rfl,(own_rowR h').2.1,(fun h=>by cases h),hnc⟩
theorem flat_at {α:Type} (f:α→List Value) (k:Nat) (hf:∀x,(f x).length=k):∀(l:List α) (i j:Nat) (x:α),l[i]? =some x→j<k→(l.flatMap f)[i*k+j]? =(f x)[j]?
 |[],i,j,x,h,_=>by simp at h
 |y::l,0,j,x,h,hj=>by
  simp at h;subst h;rw [List.flatMap_cons,List.getElem?_append_left (by rw [hf];omega)];congr 1;omega
 |y::l,i+1,j,x,h,hj=>by
  rw [List.flatMap_cons,List.getElem?_append_right (by rw [hf,Nat.add_mul];omega),←flat_at f k hf l i j x (by simpa using h) hj];congr 1;rw [hf,Nat.add_mul];omega
theorem RowR.cell {α:Type} {w:World} {f:α→List Value} {k:Nat} {b o:Nat} {n:Nat} {l:List α} (h:RowR w k (some ⟨b,o,none⟩) n (l.flatMap f)) (hf:∀x,(f x).length=k) (i j:Nat) (x:α) (u:Value) (hi:l[i]? =some x) (hj:j<k) (hu:(f x)[j]? =some u):w.cell? ⟨b,o+(i*k+j),none⟩=some u:=by
 have hc:=(h.at' _ rfl).2 (i*k+j) u (by rw [flat_at f k hf l i j x hi hj,hu])
 rwa [add_at _ rfl]at hc
theorem RowR.addr {w:World} {size n:Nat} {ao:Option Addr} {xs:List Value} (h:RowR w size ao n xs) (hn:0<n):∃g o,ao=some ⟨g,o,none⟩:=by
 cases ao with
 |none=>have:=h.non rfl;omega
 |some ad=>
  obtain ⟨g,o,sp⟩:=ad;obtain rfl:sp=none:=(h.at' _ rfl).1;exact ⟨g,o,rfl⟩
theorem own_setCell {w:World} {base:Nat} {e e':TypeId} {size:Nat} {v:Value} {n:Nat} {xs:List Value} (h:w.ownsRow base e size v n xs) {a:Addr} {cs:Array Value} {fr:Nat×Nat} (hg:w.heap[a.block]? =some (.cells cs e' fr)) (he:e≠e') (u:Value):(w.setCell a u).ownsRow base e size v n xs:=by
 obtain ⟨h1,h2⟩:=h;refine ⟨h1,?_⟩;rcases h2 with h2|⟨g,cap,cur,hv,hb,hh,r⟩
 ·exact Or.inl h2
 ·refine Or.inr ⟨g,cap,cur,hv,hb,?_,r⟩;rw [Below.heap_setCell _ _ _ _ (fun e0=>by subst e0;rw [hh]at hg;simp at hg;exact he hg.2.1),hh]
end Go.Proofs.YtkphljggkajlkaaGreatDoor
namespace Go.Proofs.YtkphljggkajlkaaGreatDoor
open Go.RowKit
set_option maxRecDepth 100000
set_option linter.unusedVariables false
set_option linter.unusedSimpArgs false
def strV (x:List UInt8):Value:=.string ⟨x.toArray⟩
def StrR (w:World) (ao:Option Addr) (l:List (List UInt8)):Prop:=RowR w 1 ao l.length (l.map strV)
theorem StrR.below {w w':World} {ao:Option Addr} {l:List (List UInt8)} (h:StrR w ao l) (hb:Below w.heap.size w w'):StrR w' ao l:=RowR.below h hb
theorem StrR.at' {w:World} {g o:Nat} {l:List (List UInt8)} (h:StrR w (some ⟨g,o,none⟩) l) (i:Nat) (x:List UInt8) (hx:l[i]? =some x):w.cell? ⟨g,o+i,none⟩=some (.string ⟨x.toArray⟩):=by
 have:=(RowR.at' h _ rfl).2 i (strV x) (by rw [List.getElem?_map,hx];rfl)
 rwa [add_at _ rfl]at this
theorem StrR.addr {w:World} {ao:Option Addr} {l:List (List UInt8)} (h:StrR w ao l) (hn:0<l.length):∃g o,ao=some ⟨g,o,none⟩:=RowR.addr h hn
theorem StrR.nil (w:World) (ao:Option Addr) (h:∀a,ao=some a→a.spot=none):StrR w ao []:=⟨rfl,fun _=>rfl,fun ad had=>⟨h ad had,fun j u hu=>by cases hu⟩⟩
theorem StrR.sub {w:World} {g o:Nat} {l:List (List UInt8)} (h:StrR w (some ⟨g,o,none⟩) l) (a b:Nat) (hb:b≤l.length) (hab:a≤b):StrR w (some ⟨g,o+a,none⟩) ((l.drop a).take (b - a)):=by
 refine ⟨by simp,(fun h=>by cases h),fun ad had=>?_⟩;obtain rfl:=Option.some.inj had;refine ⟨rfl,fun j u hu=>?_⟩;rw [List.getElem?_map]at hu;obtain ⟨x,hx,rfl⟩:=Option.map_eq_some_iff.1 hu;rw [List.getElem?_take]at hx;split at hx
 ·rw [List.getElem?_drop]at hx;have:=h.at' (a+j) x hx;rw [add_at _ rfl];simp only [Nat.add_assoc]at this⊢;exact this
 ·cases hx
def StrOwn (B:Nat) (w:World) (v:Value) (l:List (List UInt8)):Prop:=w.ownsRow B 9 1 v l.length (l.map strV)
theorem strV_one (l:List (List UInt8)):∀u∈l.map strV,u.oneCell'=true:=by
 intro u hu;obtain ⟨x,_,rfl⟩:=List.mem_map.1 hu;rfl
theorem head_nilB (R:ByteArray) (h:R.size=0):R.data.toList=[]:=List.eq_nil_of_length_eq_zero (by rw [←Lib.size_eq];exact h)
theorem infoStr:(Tryz.prog.info? 9).map (fun i=>(i.zero,i.size,i.bytes))=some (some (.string ⟨#[]⟩),1,16):=by kernel_rfl
def piecesL:List UInt8→List (List UInt8)
 |[]=>[[]]
 |c::t=>if c=10 then []::piecesL t else match piecesL t with
  |[]=>[[c]]
  |x::xs=>(c::x)::xs
theorem pieces_ne:∀l,piecesL l≠[]
 |[]=>by simp [piecesL]
 |c::t=>by
  rw [piecesL];split
  ·simp
  ·split<;>simp
theorem pieces_app:∀(x:List UInt8) (t:List UInt8),(10:UInt8)∉x→piecesL (x++10::t)=x::piecesL t
 |[],t,_=>by rw [List.nil_append,piecesL,if_pos rfl]
 |c::x,t,h=>by
  rw [List.cons_append,piecesL,if_neg (fun e=>h (by rw [e];exact List.mem_cons_self ..)),pieces_app x t (fun m=>h (List.mem_cons_of_mem _ m))]
theorem pieces_one:∀(x:List UInt8),(10:UInt8)∉x→piecesL x=[x]
 |[],_=>rfl
 |c::x,h=>by
  rw [piecesL,if_neg (fun e=>h (by rw [e];exact List.mem_cons_self ..)),pieces_one x (fun m=>h (List.mem_cons_of_mem _ m))]
theorem splitK_pieces:∀(k:Nat) (s:List UInt8),Lib.count s [10]=k→Lib.splitK [10] 0 k s=piecesL s
 |0,s,h=>by
  rw [Lib.count_one]at h;have:(10:UInt8)∉s:=List.count_eq_zero.1 h;rw [pieces_one s this];rfl
 |k+1,s,h=>by
  by_cases hm:Lib.index s [10]= -1
  ·rw [Lib.count_miss hm]at h;omega
  ·have hix:=Lib.index_one s 10;rw [hix]at hm;have hge:=Lib.indexByte_ge s 10;obtain ⟨i,hi⟩:∃i:Nat,Lib.indexByte s 10=i:=⟨(Lib.indexByte s 10).toNat,by omega⟩
   obtain ⟨h1,h2⟩:=Lib.indexByte_some hi;have hi2:Lib.index s [10]=(i:Int):=(by rw [hix,hi]);have hc:=Lib.count_hit (sub:=[10]) (by simp) hi2;rw [Lib.splitK,hi2,if_neg (by simp only [beq_iff_eq];omega)];have e0:((i:Nat):Int).toNat=i:=(by omega);rw [e0];simp only [List.length_cons,List.length_nil,Nat.add_zero,Nat.zero_add]at hc⊢;have hil:i<s.length:=(List.getElem?_eq_some_iff.1 h1).1;have hs:s=s.take i++10::s.drop (i+1):=by
    conv=>lhs;rw [←List.take_append_drop i s]
    rw [List.drop_eq_getElem_cons hil,(List.getElem?_eq_some_iff.1 h1).2]
   rw [splitK_pieces k (s.drop (i+1)) (by omega)]
   conv=>rhs;rw [hs]
   rw [pieces_app];intro hm2;obtain ⟨j,hj⟩:=List.mem_iff_getElem?.1 hm2;rw [List.getElem?_take]at hj;split at hj
   ·exact h2 j (by assumption) hj
   ·cases hj
theorem lines_pieces:∀s:List UInt8,linesL s=if (piecesL s).getLast? =some []then (piecesL s).dropLast else piecesL s
 |[]=>rfl
 |c::t=>by
  have ih:=lines_pieces t;rw [linesL,piecesL];have hne:=pieces_ne t;by_cases hc:c=10
  ·rw [if_pos hc,if_pos hc,ih];cases hp:piecesL t with
   |nil=>exact absurd hp hne
   |cons x xs=>
    rw [List.getLast?_cons_cons,List.dropLast_cons_cons];split<;>rfl
  ·rw [if_neg hc,if_neg hc,ih];cases hp:piecesL t with
   |nil=>exact absurd hp hne
   |cons x xs=>
    cases xs with
    |nil=>
     cases x with
     |nil=>rfl
     |cons d x=>rfl
    |cons y ys=>
     rw [List.getLast?_cons_cons,List.dropLast_cons_cons];simp only [List.getLast?_cons_cons,List.dropLast_cons_cons];by_cases h:(y::ys).getLast? =some []
     ·simp only [if_pos h]
     ·simp only [if_neg h]
set_option maxHeartbeats 4000000 in
theorem split_any (s:ByteArray) (w:World) (hE:Env w) (hs:s.size≤1000000000):
  Calls Tryz.prog 21 #[.string s] w fun e w'=>∃c,e=.returned (.slice (some ⟨w.heap.size,0,none⟩) (linesL s.data.toList).length c)∧(linesL s.data.toList).length≤c∧StrR w' (some ⟨w.heap.size,0,none⟩) (linesL s.data.toList)∧Below w.heap.size w w':=by
 obtain ⟨m,hm⟩:=hE.maxl;have hsp:=Tryz.strings_Split s ⟨#[10]⟩ m w (by omega) hm (by decide);have hpd:=Lib.splitB_data ⟨#[10]⟩ 0 (Lib.countB s ⟨#[10]⟩) s;have hcb:Lib.countB s ⟨#[10]⟩=Lib.count s.data.toList [10]:=rfl;rw [show (ByteArray.mk #[10]).data.toList=[10]from rfl,splitK_pieces _ _ hcb.symm]at hpd;have hle:=Lib.countB_le ⟨#[10]⟩ (by decide) s.size s (Nat.le_refl _);have hla:=Lib.splitB_all ⟨#[10]⟩ (by decide) 0 _ s rfl;have hln:=lines_pieces s.data.toList;obtain ⟨k,hk⟩:∃k,Lib.countB s ⟨#[10]⟩=k:=⟨_,rfl⟩
 rw [hk]at hsp hpd hle hla;obtain ⟨zs,hzs⟩:∃zs,Lib.splitB ⟨#[10]⟩ 0 k s=zs:=⟨_,rfl⟩
 rw [hzs]at hsp hpd hla;obtain ⟨z,hz⟩:∃z,zs[k]? =some z:=⟨_,List.getElem?_eq_getElem (by omega)⟩
 have hcells:∀i x,zs[i]? =some x→(w.alloc (.cells (zs.map Value.string).toArray 9)).cell? ⟨w.heap.size,i,none⟩=some (.string x):=fun i x hx=>by
  have:=cells_new w (zs.map Value.string) 9 w.heap.size rfl i (.string x) (by rw [List.getElem?_map,hx];rfl)
  rwa [add_at _ rfl,Nat.zero_add]at this
 have hck:=hcells k z hz;have hlast:(piecesL s.data.toList).getLast? =some z.data.toList:=by
  rw [←hpd,List.getLast?_eq_getElem?,List.length_map,hla,Nat.add_sub_cancel,List.getElem?_map,hz];rfl
 rw [hlast]at hln;have hB:Below w.heap.size w (w.alloc (.cells (zs.map Value.string).toArray 9)):=(Below.refl _ w).alloc (Nat.le_refl _) _;have hrow:∀l,(∀i x,l[i]? =some x→(piecesL s.data.toList)[i]? =some x)→StrR (w.alloc (.cells (zs.map Value.string).toArray 9)) (some ⟨w.heap.size,0,none⟩) l:=fun l hl=>by
  refine ⟨by simp,(fun h=>by cases h),fun ad had=>?_⟩;obtain rfl:=Option.some.inj had;refine ⟨rfl,fun j u hu=>?_⟩;rw [List.getElem?_map]at hu;obtain ⟨x,hx,rfl⟩:=Option.map_eq_some_iff.1 hu;have h2:=hl j x hx;rw [←hpd,List.getElem?_map]at h2;obtain ⟨y,hy,rfl⟩:=Option.map_eq_some_iff.1 h2;rw [add_at _ rfl,Nat.zero_add,hcells j y hy];unfold strV;rw [Lib.mk_data]
 have hpl:(piecesL s.data.toList).length=k+1:=(by rw [←hpd,List.length_map,hla]);have HSP:=Lib.hid hsp;have HROW:=Lib.hid hrow;obtain ⟨W,hW⟩:∃W,w.alloc (.cells (zs.map Value.string).toArray 9)=W:=⟨_,rfl⟩
 rw [hW]at hck hB HROW;have HSP2:Hid (Calls Tryz.prog 52 #[.string s,.string ⟨#[10]⟩] w fun e w'=>e=.returned (.slice (some ⟨w.heap.size,0,none⟩) (k+1) (k+1))∧w'=W):=by
  rw [hW]at HSP;exact HSP
 by_cases hz0:0<z.size
 ·have hez:=empty_no hz0;have hl:linesL s.data.toList=piecesL s.data.toList:=by
   rw [hln,if_neg];intro h;have h2:=Option.some.inj h;rw [Lib.size_eq,h2]at hz0;exact absurd hz0 (by simp)
  have HF:=Lib.hid (And.intro (show (linesL s.data.toList).length=k+1 by rw [hl,hpl]) (show StrR W (some ⟨w.heap.size,0,none⟩) (linesL s.data.toList) by rw [hl];exact HROW.out _ fun i x h=>h));have HB:=Lib.hid hB;clear hsp hpd hla hln hk hzs hz hcells hlast hB hrow hpl HSP HROW hW hl hcb;go_enter Tryz.func21,Tryz.ntmps21
  go_wp2_with fail;refine HSP2.out.mono ?_;rintro e w2 ⟨rfl,rfl⟩;go_wp2_with fail;go_ret;exact ⟨k+1,by rw [HF.out.1];rfl,by rw [HF.out.1];exact Nat.le_refl _,HF.out.2,HB.out⟩
 ·have hez:=empty_yes (s:=z) (by omega);have hl:linesL s.data.toList=(piecesL s.data.toList).dropLast:=by
   rw [hln,if_pos];rw [head_nilB z (by omega)]
  have HF:=Lib.hid (And.intro (show (linesL s.data.toList).length=k by rw [hl,List.length_dropLast,hpl];omega) (show StrR W (some ⟨w.heap.size,0,none⟩) (linesL s.data.toList) by
   rw [hl];refine HROW.out _ fun i x h=>?_;rw [List.getElem?_dropLast]at h;split at h
   ·exact h
   ·cases h))
  have HB:=Lib.hid hB;clear hsp hpd hla hln hk hzs hz hcells hlast hB hrow hpl HSP HROW hW hl hcb;go_enter Tryz.func21,Tryz.ntmps21
  go_wp2_with fail;refine HSP2.out.mono ?_;rintro e w2 ⟨rfl,rfl⟩;go_wp2_with fail;go_ret;exact ⟨k+1,by rw [HF.out.1];rfl,by rw [HF.out.1];omega,HF.out.2,HB.out⟩
theorem join_snoc (l:List (List UInt8)) (x:List UInt8):joinL (l++[x])=joinL l++(x++[10]):=by unfold joinL;simp
theorem join_take_le:∀(l:List (List UInt8)) (i:Nat),(joinL (l.take i)).length≤(joinL l).length
 |[],i=>by simp
 |x::l,0=>by simp [joinL]
 |x::l,i+1=>by
  have:=join_take_le l i;unfold joinL at this⊢;rw [List.take_succ_cons,List.flatMap_cons,List.flatMap_cons];simp only [List.length_append]at this⊢;omega
theorem take_snoc {α:Type} (l:List α) (i:Nat) (x:α) (h:l[i]? =some x):l.take (i+1)=l.take i++[x]:=by
 obtain ⟨hi,rfl⟩:=List.getElem?_eq_some_iff.1 h;rw [List.take_succ_eq_append_getElem hi]
set_option maxHeartbeats 4000000 in
theorem join_any (ao:Option Addr) (cap:Nat) (l:List (List UInt8)) (w:World) (hR:StrR w ao l) (hl:(joinL l).length≤1000000000000) (hn:l.length≤1000000000):
  Calls Tryz.prog 180 #[.slice ao l.length cap] w fun e w'=>e=.returned (.string ⟨(joinL l).toArray⟩)∧Below w.heap.size w w':=by
 have HR:=Lib.hid hR;clear hR;go_enter Tryz.func180,Tryz.ntmps180
 go_wp2_with fail;go_loopw [8] (fun u2 wr=>∃i:Nat,u2=.int .i64 i∧i≤l.length∧Lib.IsBuilderF 115 5 w.heap.size w.heap.size (Lib.byteCells (joinL (l.take i))) wr∧Below w.heap.size w wr) (fun u2 _=>l.length - (intOf u2).toNat)
 case atStart=>exact ⟨0,rfl,Nat.zero_le _,Lib.IsBuilderF.of (Lib.fresh_isBuilder 115 5 w),(Below.refl _ _).alloc (Nat.le_refl _) _⟩
 case round=>
  obtain ⟨i,rfl,hi,hI,hB⟩:=hrel;have hjl:=join_take_le l i;by_cases hlt:i<l.length
  ·obtain ⟨x,hx⟩:∃x,l[i]? =some x:=⟨_,List.getElem?_eq_getElem hlt⟩
   obtain ⟨g,o,rfl⟩:=StrR.addr HR.out (by omega);have hc:=StrR.at' (HR.out.below hB) i x hx;have hjs:=join_snoc (l.take i) x;have hj2:=join_take_le l (i+1);rw [←take_snoc l i x hx]at hjs;rw [hjs,List.length_append,List.length_append]at hj2;obtain ⟨X,hX⟩:∃X:ByteArray,(⟨x.toArray⟩:ByteArray)=X:=⟨_,rfl⟩
   have hXl:x=X.data.toList:=(by rw [←hX]);rw [hX]at hc;have hXz:x.length=X.size:=(by rw [hXl,Lib.size_eq]);rw [hXz]at hj2;have hXb:X.size≤1000000000000:=(by omega);obtain ⟨Y,hY⟩:∃Y:ByteArray,X++(⟨#[10]⟩:ByteArray)=Y:=⟨_,rfl⟩
   have hYl:Y.data.toList=x++[10]:=(by rw [←hY,hXl];simp);have hYz:Y.size=X.size+1:=(by rw [Lib.size_eq,hYl,List.length_append,hXz];rfl);have HJ:=Lib.hid (show joinL (l.take i)++Y.data.toList=joinL (l.take (i+1)) by rw [hjs,hYl]);have hcat:¬(9223372036854775807:Int)<(X.size:Int)+((⟨#[10]⟩:ByteArray).size:Int):=by
    have:(⟨#[10]⟩:ByteArray).size=1:=rfl;omega
   have HJL:=Lib.hid hj2;clear hX hXl hXz hYl hjs hj2 hx;go_wp2_with fail;refine (bld_string w.heap.size w.heap.size _ Y _ hI (by rw [Lib.byteCells_length];have:=HJL.out;omega) hB.size).mono ?_;rintro e w6 ⟨rfl,h6,b6,k6⟩;go_wp2_with fail;go_roundw;case rel=>exact ⟨i+1,by go_num,by omega,by rw [←HJ.out,Lib.byteCells_append];exact Or.inr h6,hB.trans b6⟩
   case measure=>simp [intOf];omega
  ·obtain rfl:i=l.length:=(by omega);rw [List.take_length]at hI hjl;have HI:=Lib.hid hI;clear hI;go_wp2_with fail;refine (Tryz.Builder_String_any_k w.heap.size w.heap.size _ wr HI.out hB.size).mono ?_;rintro e w2 ⟨rfl,_,hb2,_⟩;go_wp2_with fail;go_ret;exact ⟨rfl,hB.trans hb2⟩
theorem ret_line {p:DefL×Bool} {n u t x:ByteArray} {nt b:Bool} (h:p=(⟨n.data.toList,u.data.toList,t.data.toList,x.data.toList,nt⟩,b)):Ending.returned (.tuple #[.agg #[.string n,.string u,.string t,.string x,.bool nt],.bool b])=.returned (.tuple #[p.1.val,.bool p.2]):=by
 rw [h];unfold DefL.val defV;simp only [Lib.mk_data]
set_option maxHeartbeats 4000000 in
theorem line_none (s:ByteArray) (w:World) (hE:Env w) (hs:s.size≤1000000000) (hno:(preAt 91 s.data.toList).2=false):
  Calls Tryz.prog 91 #[.string s] w fun e w'=>e=.returned (.tuple #[(lineL s.data.toList).1.val,.bool (lineL s.data.toList).2])∧Below w.heap.size w w':=by
 have HL:=Lib.hid (show lineL s.data.toList=(DefL.none,false) by unfold lineL;rw [if_pos hno]);have hp:=fun W=>pre_any 91 s W;rw [hno]at hp;obtain ⟨C,hC⟩:∃C:ByteArray,C=⟨(preAt 91 s.data.toList).1.toArray⟩:=⟨_,rfl⟩
 rw [←hC]at hp;have HP:=Lib.hid hp;clear hp hC hno;have hb1:Below w.heap.size w (w.alloc (.cells #[.string ⟨#[]⟩,.string ⟨#[]⟩,.string ⟨#[]⟩,.string ⟨#[]⟩,.bool false] 42)):=(Below.refl _ w).alloc (Nat.le_refl _) _;go_enter Tryz.func91,Tryz.ntmps91
 go_wp2_with fail;have hz:=zero_def (Below.refl (w.heap.size+1) (w.alloc (.cells #[.string ⟨#[]⟩,.string ⟨#[]⟩,.string ⟨#[]⟩,.string ⟨#[]⟩,.bool false] 42))) rfl;obtain ⟨W1,hW1⟩:∃W1,w.alloc (.cells #[.string ⟨#[]⟩,.string ⟨#[]⟩,.string ⟨#[]⟩,.string ⟨#[]⟩,.bool false] 42)=W1:=⟨_,rfl⟩
 rw [hW1]at hz hb1;rw [hW1];clear hW1;obtain ⟨c0,c1,c2,c3,c4,f0,f1,f2,f3,f4,hsz⟩:=hz;refine (HP.out _).mono ?_;rintro e w2 ⟨rfl,rfl⟩;go_wp2_with fail;refine bodyPost_ret (v:=.tuple #[.agg #[.string ⟨#[]⟩,.string ⟨#[]⟩,.string ⟨#[]⟩,.string ⟨#[]⟩,.bool false],.bool false]) (by simp [results,Tryz.results91,go_sem,c0,c1,c2,c3,c4,f0,f1,f2,f3,f4]) rfl ⟨?_,below_def hb1⟩;exact ret_line (n:=⟨#[]⟩) (u:=⟨#[]⟩) (t:=⟨#[]⟩) (x:=⟨#[]⟩) HL.out
set_option maxHeartbeats 4000000 in
theorem line_none2 (s C N R R2:ByteArray) (is colon:Bool) (w:World) (hE:Env w) (hs:s.size≤1000000000)
  (h1:preAt 91 s.data.toList=(C.data.toList,true)) (hCz:C.size≤s.size) (h2:cutAt 93 C.data.toList=(N.data.toList,R.data.toList,is))
  (h3:preAt 58 R.data.toList=(R2.data.toList,colon)) (h4:is=false∨(is=true∧colon=false)):
  Calls Tryz.prog 91 #[.string s] w fun e w'=>e=.returned (.tuple #[(lineL s.data.toList).1.val,.bool (lineL s.data.toList).2])∧Below w.heap.size w w':=by
 have HL:=Lib.hid (show lineL s.data.toList=(DefL.none,false) by
  unfold lineL;rw [h1];simp only;rw [h2];simp only;rw [h3];simp only;rw [if_neg (by simp),if_neg (by rcases h4 with h|⟨_,h⟩<;>simp [h])])
 have hp:=fun W=>pre_any 91 s W;rw [h1]at hp;have hq:=fun W hW=>cut_any 93 C W hW (by omega);rw [h2]at hq;have hr:=fun W=>pre_any 58 R W;rw [h3]at hr;simp only [Lib.mk_data]at hp hq hr;have HE:=Lib.hid hE;have HP:=Lib.hid hp;have HQ:=Lib.hid hq;have HR:=Lib.hid hr;clear hp hq hr h1 h2 h3 hE;have hb1:Below w.heap.size w (w.alloc (.cells #[.string ⟨#[]⟩,.string ⟨#[]⟩,.string ⟨#[]⟩,.string ⟨#[]⟩,.bool false] 42)):=(Below.refl _ w).alloc (Nat.le_refl _) _;rcases h4 with rfl|⟨rfl,rfl⟩
 all_goals
  go_enter Tryz.func91,Tryz.ntmps91
  go_wp2_with fail;refine (HP.out _).mono ?_;rintro e w2 ⟨rfl,rfl⟩;go_wp2_with fail;refine (HQ.out _ (HE.out.below hb1)).mono ?_;rintro e w3 ⟨rfl,b3⟩;obtain ⟨c0,c1,c2,c3,c4,f0,f1,f2,f3,f4,hsz⟩:=zero_def b3;have hb3:=below_step hb1 b3;clear hb1 b3;go_wp2_with fail;refine (HR.out _).mono ?_;rintro e w4 ⟨rfl,rfl⟩;go_wp2_with fail;refine bodyPost_ret (v:=.tuple #[.agg #[.string ⟨#[]⟩,.string ⟨#[]⟩,.string ⟨#[]⟩,.string ⟨#[]⟩,.bool false],.bool false]) (by simp [results,Tryz.results91,go_sem,c0,c1,c2,c3,c4,f0,f1,f2,f3,f4]) rfl ⟨?_,below_def hb3⟩;exact ret_line (n:=⟨#[]⟩) (u:=⟨#[]⟩) (t:=⟨#[]⟩) (x:=⟨#[]⟩) HL.out
end Go.Proofs.YtkphljggkajlkaaGreatDoor
namespace Go.Proofs.YtkphljggkajlkaaGreatDoor
open Go.RowKit
set_option linter.unusedVariables false
set_option linter.unusedSimpArgs false
def DefAt (w:World) (k:Nat) (u0 u1 u2 u3 u4:Value):Prop:=
 w.cell? ⟨k,0,none⟩=some u0∧w.cell? ⟨k,1,none⟩=some u1∧w.cell? ⟨k,2,none⟩=some u2∧w.cell? ⟨k,3,none⟩=some u3∧w.cell? ⟨k,4,none⟩=some u4∧
  w.frozen? ⟨k,0,none⟩=false∧w.frozen? ⟨k,1,none⟩=false∧w.frozen? ⟨k,2,none⟩=false∧w.frozen? ⟨k,3,none⟩=false∧w.frozen? ⟨k,4,none⟩=false
theorem DefAt.below {w w':World} {k n:Nat} {u0 u1 u2 u3 u4:Value} (h:DefAt w k u0 u1 u2 u3 u4) (hb:Below n w w') (hk:k<n):DefAt w' k u0 u1 u2 u3 u4:=by
 obtain ⟨c0,c1,c2,c3,c4,f0,f1,f2,f3,f4⟩:=h
 exact ⟨(hb.cell (p:=⟨k,0,none⟩) hk).trans c0,(hb.cell (p:=⟨k,1,none⟩) hk).trans c1,(hb.cell (p:=⟨k,2,none⟩) hk).trans c2,(hb.cell (p:=⟨k,3,none⟩) hk).trans c3,(hb.cell (p:=⟨k,4,none⟩) hk).trans c4,
  (hb.frozen (p:=⟨k,0,none⟩) hk).trans f0,(hb.frozen (p:=⟨k,1,none⟩) hk).trans f1,(hb.frozen (p:=⟨k,2,none⟩) hk).trans f2,(hb.frozen (p:=⟨k,3,none⟩) hk).trans f3,(hb.frozen (p:=⟨k,4,none⟩) hk).trans f4⟩
def World.setDef (w:World) (k:Nat) (u0 u1 u2 u3 u4:Value):World:=((((w.setCell ⟨k,0,none⟩ u0).setCell ⟨k,1,none⟩ u1).setCell ⟨k,2,none⟩ u2).setCell ⟨k,3,none⟩ u3).setCell ⟨k,4,none⟩ u4
theorem setDef_at {w:World} {k:Nat} {v0 v1 v2 v3 v4:Value} (h:DefAt w k v0 v1 v2 v3 v4) (u0 u1 u2 u3 u4:Value):DefAt (World.setDef w k u0 u1 u2 u3 u4) k u0 u1 u2 u3 u4:=by
 obtain ⟨c0,c1,c2,c3,c4,f0,f1,f2,f3,f4⟩:=h;unfold World.setDef DefAt;simp [go_sem,c0,c1,c2,c3,c4,f0,f1,f2,f3,f4]
theorem setDef_below (w:World) (k:Nat) (u0 u1 u2 u3 u4:Value):Below k w (World.setDef w k u0 u1 u2 u3 u4):=by
 unfold World.setDef;have h0:k≤k:=Nat.le_refl k;have b1:Below k w (w.setCell ⟨k,0,none⟩ u0):=(Below.refl k w).setCell h0 u0;have b2:=b1.setCell (p:=⟨k,1,none⟩) h0 u1;have b3:=b2.setCell (p:=⟨k,2,none⟩) h0 u2;have b4:=b3.setCell (p:=⟨k,3,none⟩) h0 u3;exact b4.setCell (p:=⟨k,4,none⟩) h0 u4
theorem setDef_other {w:World} {k j:Nat} {v0 v1 v2 v3 v4:Value} (h:DefAt w j v0 v1 v2 v3 v4) (hk:j<k) (u0 u1 u2 u3 u4:Value):DefAt (World.setDef w k u0 u1 u2 u3 u4) j v0 v1 v2 v3 v4:=
 h.below (setDef_below w k u0 u1 u2 u3 u4) hk
end Go.Proofs.YtkphljggkajlkaaGreatDoor
namespace Go.Proofs.YtkphljggkajlkaaGreatDoor
open Go.RowKit
set_option maxRecDepth 100000
set_option linter.unusedVariables false
set_option linter.unusedSimpArgs false
theorem setDef_size (w:World) (k:Nat) (u0 u1 u2 u3 u4:Value):(World.setDef w k u0 u1 u2 u3 u4).heap.size=w.heap.size:=by
 unfold World.setDef;simp only [World.size_setCell]
theorem zeroAt (w:World):DefAt (w.alloc (.cells #[.string ⟨#[]⟩,.string ⟨#[]⟩,.string ⟨#[]⟩,.string ⟨#[]⟩,.bool false] 42)) w.heap.size (.string ⟨#[]⟩) (.string ⟨#[]⟩) (.string ⟨#[]⟩) (.string ⟨#[]⟩) (.bool false):=by
 unfold DefAt;simp
theorem setDef_belowAt {w W:World} {n k:Nat} (h:Below n w W) (hk:n≤k) (u0 u1 u2 u3 u4:Value):Below n w (World.setDef W k u0 u1 u2 u3 u4):=
 h.trans ((setDef_below W k u0 u1 u2 u3 u4).mono hk)
set_option maxHeartbeats 4000000 in
theorem line_note (s C N X R R2 R3 T F:ByteArray) (may:Bool) (w:World) (hE:Env w) (hs:s.size≤1000000000)
  (h1:preAt 91 s.data.toList=(C.data.toList,true)) (hCz:C.size≤s.size) (h2:cutAt 93 C.data.toList=(N.data.toList,R.data.toList,true))
  (h3:preAt 58 R.data.toList=(R2.data.toList,true)) (g:Bool) (h4:behindL R2.data.toList=(R3.data.toList,g)) (h5:preAt 94 N.data.toList=(X.data.toList,true))
  (hXz:X.size≤s.size) (hRz:R3.size≤s.size) (h6:plainL R3.data.toList=T.data.toList) (h7:nameL X.data.toList=(F.data.toList,may)):
  Calls Tryz.prog 91 #[.string s] w fun e w'=>e=.returned (.tuple #[(lineL s.data.toList).1.val,.bool (lineL s.data.toList).2])∧Below w.heap.size w w':=by
 have HL:=Lib.hid (show lineL s.data.toList=if T.data.toList≠[]∧may=true then (⟨F.data.toList,[],[],T.data.toList,true⟩,true)else (DefL.none,false) by
  unfold lineL;rw [h1];simp only;rw [h2];simp only;rw [h3];simp only;rw [if_neg (by simp),if_pos (by simp)];rw [h4];simp only;unfold lineOf;rw [h5];simp only;rw [h6,h7];simp only;rw [if_pos trivial])
 have hp:=fun W=>pre_any 91 s W;rw [h1]at hp;have hq:=fun W hW=>cut_any 93 C W hW (by omega);rw [h2]at hq;have hr:=fun W=>pre_any 58 R W;rw [h3]at hr;have hb:=fun W=>behind_any R2 W;rw [h4]at hb;have hc:=fun W=>pre_any 94 N W;rw [h5]at hc;have ht:=fun W=>plain_any R3 W (by omega);rw [h6]at ht;have hn:=fun W hW=>name_any X W hW (by omega);rw [h7]at hn;simp only [Lib.mk_data]at hp hq hr hb hc ht hn;have HE:=Lib.hid hE;have HP:=Lib.hid hp;have HQ:=Lib.hid hq;have HR:=Lib.hid hr;have HB:=Lib.hid hb;have HC:=Lib.hid hc;have HT:=Lib.hid ht;have HN:=Lib.hid hn;clear hp hq hr hb hc ht hn h1 h2 h3 h4 h5 h6 h7 hE;have hb1:Below w.heap.size w (w.alloc (.cells #[.string ⟨#[]⟩,.string ⟨#[]⟩,.string ⟨#[]⟩,.string ⟨#[]⟩,.bool false] 42)):=(Below.refl _ w).alloc (Nat.le_refl _) _;have hz0:=zeroAt w;go_enter Tryz.func91,Tryz.ntmps91
 go_wp2_with fail;obtain ⟨W1,hW1⟩:∃W1,w.alloc (.cells #[.string ⟨#[]⟩,.string ⟨#[]⟩,.string ⟨#[]⟩,.string ⟨#[]⟩,.bool false] 42)=W1:=⟨_,rfl⟩
 have hsz1:w.heap.size<W1.heap.size:=(by rw [←hW1,World.size_alloc];omega);rw [hW1]at hz0 hb1⊢;clear hW1;refine (HP.out _).mono ?_;rintro e _ ⟨rfl,rfl⟩;go_wp2_with fail;refine (HQ.out _ (HE.out.below hb1)).mono ?_;rintro e w3 ⟨rfl,b3⟩;have hz3:=hz0.below b3 hsz1;have hsz3:w.heap.size<w3.heap.size:=(by have:=b3.size;omega);have hb3:=below_step hb1 b3;clear hb1 b3 hz0 hsz1;go_wp2_with fail;refine (HR.out _).mono ?_;rintro e _ ⟨rfl,rfl⟩;go_wp2_with fail;refine (HB.out _).mono ?_;rintro e w4 ⟨rfl,b4⟩;have hz4:=hz3.below b4 hsz3;have hsz4:w.heap.size<w4.heap.size:=(by have:=b4.size;omega);have hb4:=below_step hb3 b4;clear hb3 b4 hz3 hsz3;go_wp2_with fail;have hd5:=zeroAt w4;have hz5:=hz4.below ((Below.refl w4.heap.size w4).alloc (Nat.le_refl _) (.cells #[.string ⟨#[]⟩,.string ⟨#[]⟩,.string ⟨#[]⟩,.string ⟨#[]⟩,.bool false] 42)) hsz4;have hb5:=hb4.alloc hb4.size (.cells #[.string ⟨#[]⟩,.string ⟨#[]⟩,.string ⟨#[]⟩,.string ⟨#[]⟩,.bool false] 42);obtain ⟨W5,hW5⟩:∃W5,w4.alloc (.cells #[.string ⟨#[]⟩,.string ⟨#[]⟩,.string ⟨#[]⟩,.string ⟨#[]⟩,.bool false] 42)=W5:=⟨_,rfl⟩
 have hsz5:w4.heap.size<W5.heap.size:=(by rw [←hW5,World.size_alloc];omega);rw [hW5]at hd5 hz5 hb5⊢;clear hW5 hz4 hb4;obtain ⟨D,hD⟩:∃D,w4.heap.size=D:=⟨_,rfl⟩
 rw [hD]at hd5 hsz5 hsz4⊢;clear hD;refine (HC.out _).mono ?_;rintro e _ ⟨rfl,rfl⟩;go_wp2_with fail;refine (HT.out _).mono ?_;rintro e w6 ⟨rfl,b6⟩;have hd6:=hd5.below b6 hsz5;have hz6:=hz5.below b6 (by omega);have hsz6:D<w6.heap.size:=(by have:=b6.size;omega);have hb6:=below_step hb5 b6;clear hb5 b6 hd5 hz5 hsz5;have HZ6:=Lib.hid hz6;have HD6:=Lib.hid hd6;obtain ⟨c0,c1,c2,c3,c4,f0,f1,f2,f3,f4⟩:=hd6;go_wp2_with fail;clear c0 c1 c2 c3 c4 f0 f1 f2 f3 f4;obtain ⟨W7,hW7⟩:∃W7,World.setDef w6 D (.string ⟨#[]⟩) (.string ⟨#[]⟩) (.string ⟨#[]⟩) (.string T) (.bool true)=W7:=⟨_,rfl⟩
 have hd7:=setDef_at HD6.out (.string ⟨#[]⟩) (.string ⟨#[]⟩) (.string ⟨#[]⟩) (.string T) (.bool true);have hz7:=setDef_other HZ6.out hsz4 (.string ⟨#[]⟩) (.string ⟨#[]⟩) (.string ⟨#[]⟩) (.string T) (.bool true);have hb7:=setDef_belowAt hb6 (Nat.le_of_lt hsz4) (.string ⟨#[]⟩) (.string ⟨#[]⟩) (.string ⟨#[]⟩) (.string T) (.bool true);have hsz7:=setDef_size w6 D (.string ⟨#[]⟩) (.string ⟨#[]⟩) (.string ⟨#[]⟩) (.string T) (.bool true);rw [hW7]at hd7 hz7 hb7 hsz7;unfold World.setDef at hW7;rw [hW7];clear hW7 HZ6 HD6 hb6;refine (HN.out _ (HE.out.below hb7)).mono ?_;rintro e w8 ⟨rfl,b8⟩;have hd8:=hd7.below b8 (by omega);have hz8:=hz7.below b8 (by omega);have hb8:=below_step hb7 b8;clear hd7 hz7 hb7 b8 hsz7 hsz6;by_cases hT0:0<T.size
 ·have he:=empty_no hT0;have hne:T.data.toList≠[]:=(by intro h;rw [Lib.size_eq,h]at hT0;exact absurd hT0 (by simp));have he2:(!T.toList.isEmpty)=true:=(by rw [he];rfl);cases may
  ·have HL2:=Lib.hid (HL.out.trans (if_neg (by simp)));clear hne;clear hd8;obtain ⟨c0,c1,c2,c3,c4,f0,f1,f2,f3,f4⟩:=hz8;go_wp2_with fail;refine bodyPost_ret (v:=.tuple #[.agg #[.string ⟨#[]⟩,.string ⟨#[]⟩,.string ⟨#[]⟩,.string ⟨#[]⟩,.bool false],.bool false]) (by simp [results,Tryz.results91,go_sem,c0,c1,c2,c3,c4,f0,f1,f2,f3,f4]) rfl ⟨?_,below_def hb8⟩;exact ret_line (n:=⟨#[]⟩) (u:=⟨#[]⟩) (t:=⟨#[]⟩) (x:=⟨#[]⟩) HL2.out
  ·have HL2:=Lib.hid (HL.out.trans (if_pos ⟨hne,rfl⟩));clear hne;obtain ⟨c0,c1,c2,c3,c4,f0,f1,f2,f3,f4⟩:=hz8;obtain ⟨d0,d1,d2,d3,d4,g0,g1,g2,g3,g4⟩:=hd8;have hne1:w.heap.size≠D:=(by omega);have hne2:D≠w.heap.size:=(by omega);go_wp2_with fail;refine bodyPost_ret (v:=.tuple #[.agg #[.string F,.string ⟨#[]⟩,.string ⟨#[]⟩,.string T,.bool true],.bool true]) (by simp [results,Tryz.results91,go_sem,c0,c1,c2,c3,c4,f0,f1,f2,f3,f4,d0,d1,d2,d3,d4,g0,g1,g2,g3,g4,hne1,hne2]) rfl ⟨?_,?_⟩
   ·exact ret_line (n:=F) (u:=⟨#[]⟩) (t:=⟨#[]⟩) (x:=T) HL2.out
   ·exact below_def (hb8.setCell (p:=⟨D,0,none⟩) (by simp;omega) _)
 ·have he:=empty_yes (s:=T) (by omega);have hnil:T.data.toList=[]:=List.eq_nil_of_length_eq_zero (by rw [←Lib.size_eq];omega);have he2:(!T.toList.isEmpty)=false:=(by rw [he];rfl);have HL2:=Lib.hid (HL.out.trans (if_neg (by simp [hnil])));clear hnil;clear hd8;obtain ⟨c0,c1,c2,c3,c4,f0,f1,f2,f3,f4⟩:=hz8;go_wp2_with fail;refine bodyPost_ret (v:=.tuple #[.agg #[.string ⟨#[]⟩,.string ⟨#[]⟩,.string ⟨#[]⟩,.string ⟨#[]⟩,.bool false],.bool false]) (by simp [results,Tryz.results91,go_sem,c0,c1,c2,c3,c4,f0,f1,f2,f3,f4]) rfl ⟨?_,below_def hb8⟩;exact ret_line (n:=⟨#[]⟩) (u:=⟨#[]⟩) (t:=⟨#[]⟩) (x:=⟨#[]⟩) HL2.out
set_option maxHeartbeats 4000000 in
theorem line_link (s C N R R2 R3 U V F:ByteArray) (is may:Bool) (w:World) (hE:Env w) (hs:s.size≤1000000000)
  (h1:preAt 91 s.data.toList=(C.data.toList,true)) (hCz:C.size≤s.size) (h2:cutAt 93 C.data.toList=(N.data.toList,R.data.toList,true))
  (h3:preAt 58 R.data.toList=(R2.data.toList,true)) (g:Bool) (h4:behindL R2.data.toList=(R3.data.toList,g)) (h5:preAt 94 N.data.toList=(N.data.toList,false))
  (hNz:N.size≤s.size) (hRz:R3.size≤s.size) (h6:linkL R3.data.toList=(U.data.toList,V.data.toList,is)) (h7:nameL N.data.toList=(F.data.toList,may)):
  Calls Tryz.prog 91 #[.string s] w fun e w'=>e=.returned (.tuple #[(lineL s.data.toList).1.val,.bool (lineL s.data.toList).2])∧Below w.heap.size w w':=by
 have HL:=Lib.hid (show lineL s.data.toList=if is=true∧may=true then (⟨F.data.toList,U.data.toList,V.data.toList,[],false⟩,true)else (DefL.none,false) by
  unfold lineL;rw [h1];simp only;rw [h2];simp only;rw [h3];simp only;rw [if_neg (by simp),if_pos (by simp)];rw [h4];simp only;unfold lineOf;rw [h5];simp only;rw [h6,h7];simp only;rw [if_neg (by simp)])
 have hp:=fun W=>pre_any 91 s W;rw [h1]at hp;have hq:=fun W hW=>cut_any 93 C W hW (by omega);rw [h2]at hq;have hr:=fun W=>pre_any 58 R W;rw [h3]at hr;have hb:=fun W=>behind_any R2 W;rw [h4]at hb;have hc:=fun W=>pre_any 94 N W;rw [h5]at hc;have ht:=fun W hW=>link_any R3 W hW (by omega);rw [h6]at ht;have hn:=fun W hW=>name_any N W hW (by omega);rw [h7]at hn;simp only [Lib.mk_data,defV]at hp hq hr hb hc ht hn;have HE:=Lib.hid hE;have HP:=Lib.hid hp;have HQ:=Lib.hid hq;have HR:=Lib.hid hr;have HB:=Lib.hid hb;have HC:=Lib.hid hc;have HT:=Lib.hid ht;have HN:=Lib.hid hn;clear hp hq hr hb hc ht hn h1 h2 h3 h4 h5 h6 h7 hE;have hb1:Below w.heap.size w (w.alloc (.cells #[.string ⟨#[]⟩,.string ⟨#[]⟩,.string ⟨#[]⟩,.string ⟨#[]⟩,.bool false] 42)):=(Below.refl _ w).alloc (Nat.le_refl _) _;have hz0:=zeroAt w;go_enter Tryz.func91,Tryz.ntmps91
 go_wp2_with fail;obtain ⟨W1,hW1⟩:∃W1,w.alloc (.cells #[.string ⟨#[]⟩,.string ⟨#[]⟩,.string ⟨#[]⟩,.string ⟨#[]⟩,.bool false] 42)=W1:=⟨_,rfl⟩
 have hsz1:w.heap.size<W1.heap.size:=(by rw [←hW1,World.size_alloc];omega);rw [hW1]at hz0 hb1⊢;clear hW1;refine (HP.out _).mono ?_;rintro e _ ⟨rfl,rfl⟩;go_wp2_with fail;refine (HQ.out _ (HE.out.below hb1)).mono ?_;rintro e w3 ⟨rfl,b3⟩;have hz3:=hz0.below b3 hsz1;have hsz3:w.heap.size<w3.heap.size:=(by have:=b3.size;omega);have hb3:=below_step hb1 b3;clear hb1 b3 hz0 hsz1;go_wp2_with fail;refine (HR.out _).mono ?_;rintro e _ ⟨rfl,rfl⟩;go_wp2_with fail;refine (HB.out _).mono ?_;rintro e w4 ⟨rfl,b4⟩;have hz4:=hz3.below b4 hsz3;have hsz4:w.heap.size<w4.heap.size:=(by have:=b4.size;omega);have hb4:=below_step hb3 b4;clear hb3 b4 hz3 hsz3;go_wp2_with fail;have hd5:=zeroAt w4;have hz5:=hz4.below ((Below.refl w4.heap.size w4).alloc (Nat.le_refl _) (.cells #[.string ⟨#[]⟩,.string ⟨#[]⟩,.string ⟨#[]⟩,.string ⟨#[]⟩,.bool false] 42)) hsz4;have hb5:=hb4.alloc hb4.size (.cells #[.string ⟨#[]⟩,.string ⟨#[]⟩,.string ⟨#[]⟩,.string ⟨#[]⟩,.bool false] 42);obtain ⟨W5,hW5⟩:∃W5,w4.alloc (.cells #[.string ⟨#[]⟩,.string ⟨#[]⟩,.string ⟨#[]⟩,.string ⟨#[]⟩,.bool false] 42)=W5:=⟨_,rfl⟩
 have hsz5:w4.heap.size<W5.heap.size:=(by rw [←hW5,World.size_alloc];omega);rw [hW5]at hd5 hz5 hb5⊢;clear hW5 hz4 hb4;obtain ⟨D,hD⟩:∃D,w4.heap.size=D:=⟨_,rfl⟩
 rw [hD]at hd5 hsz5 hsz4⊢;clear hD;refine (HC.out _).mono ?_;rintro e _ ⟨rfl,rfl⟩;go_wp2_with fail;refine (HT.out _ (HE.out.below hb5)).mono ?_;rintro e w6 ⟨rfl,b6⟩;have hd6:=hd5.below b6 hsz5;have hz6:=hz5.below b6 (by omega);have hsz6:D<w6.heap.size:=(by have:=b6.size;omega);have hb6:=below_step hb5 b6;clear hb5 b6 hd5 hz5 hsz5;have HZ6:=Lib.hid hz6;have HD6:=Lib.hid hd6;obtain ⟨c0,c1,c2,c3,c4,f0,f1,f2,f3,f4⟩:=hd6;go_wp2_with fail;clear c0 c1 c2 c3 c4 f0 f1 f2 f3 f4;obtain ⟨W7,hW7⟩:∃W7,World.setDef w6 D (.string ⟨#[]⟩) (.string U) (.string V) (.string ⟨#[]⟩) (.bool false)=W7:=⟨_,rfl⟩
 have hd7:=setDef_at HD6.out (.string ⟨#[]⟩) (.string U) (.string V) (.string ⟨#[]⟩) (.bool false);have hz7:=setDef_other HZ6.out hsz4 (.string ⟨#[]⟩) (.string U) (.string V) (.string ⟨#[]⟩) (.bool false);have hb7:=setDef_belowAt hb6 (Nat.le_of_lt hsz4) (.string ⟨#[]⟩) (.string U) (.string V) (.string ⟨#[]⟩) (.bool false);have hsz7:=setDef_size w6 D (.string ⟨#[]⟩) (.string U) (.string V) (.string ⟨#[]⟩) (.bool false);rw [hW7]at hd7 hz7 hb7 hsz7;unfold World.setDef at hW7;rw [hW7];clear hW7 HZ6 HD6 hb6;refine (HN.out _ (HE.out.below hb7)).mono ?_;rintro e w8 ⟨rfl,b8⟩;have hd8:=hd7.below b8 (by omega);have hz8:=hz7.below b8 (by omega);have hb8:=below_step hb7 b8;clear hd7 hz7 hb7 b8 hsz7 hsz6;cases is
 ·have HL2:=Lib.hid (HL.out.trans (if_neg (by simp)));clear hd8;obtain ⟨c0,c1,c2,c3,c4,f0,f1,f2,f3,f4⟩:=hz8;go_wp2_with fail;refine bodyPost_ret (v:=.tuple #[.agg #[.string ⟨#[]⟩,.string ⟨#[]⟩,.string ⟨#[]⟩,.string ⟨#[]⟩,.bool false],.bool false]) (by simp [results,Tryz.results91,go_sem,c0,c1,c2,c3,c4,f0,f1,f2,f3,f4]) rfl ⟨?_,below_def hb8⟩;exact ret_line (n:=⟨#[]⟩) (u:=⟨#[]⟩) (t:=⟨#[]⟩) (x:=⟨#[]⟩) HL2.out
 ·cases may
  ·have HL2:=Lib.hid (HL.out.trans (if_neg (by simp)));clear hd8;obtain ⟨c0,c1,c2,c3,c4,f0,f1,f2,f3,f4⟩:=hz8;go_wp2_with fail;refine bodyPost_ret (v:=.tuple #[.agg #[.string ⟨#[]⟩,.string ⟨#[]⟩,.string ⟨#[]⟩,.string ⟨#[]⟩,.bool false],.bool false]) (by simp [results,Tryz.results91,go_sem,c0,c1,c2,c3,c4,f0,f1,f2,f3,f4]) rfl ⟨?_,below_def hb8⟩;exact ret_line (n:=⟨#[]⟩) (u:=⟨#[]⟩) (t:=⟨#[]⟩) (x:=⟨#[]⟩) HL2.out
  ·have HL2:=Lib.hid (HL.out.trans (if_pos ⟨rfl,rfl⟩));obtain ⟨c0,c1,c2,c3,c4,f0,f1,f2,f3,f4⟩:=hz8;obtain ⟨d0,d1,d2,d3,d4,g0,g1,g2,g3,g4⟩:=hd8;have hne1:w.heap.size≠D:=(by omega);have hne2:D≠w.heap.size:=(by omega);go_wp2_with fail;refine bodyPost_ret (v:=.tuple #[.agg #[.string F,.string U,.string V,.string ⟨#[]⟩,.bool false],.bool true]) (by simp [results,Tryz.results91,go_sem,c0,c1,c2,c3,c4,f0,f1,f2,f3,f4,d0,d1,d2,d3,d4,g0,g1,g2,g3,g4,hne1,hne2]) rfl ⟨?_,?_⟩
   ·exact ret_line (n:=F) (u:=U) (t:=V) (x:=⟨#[]⟩) HL2.out
   ·exact below_def (hb8.setCell (p:=⟨D,0,none⟩) (by simp;omega) _)
theorem cut_len (c:UInt8) (l:List UInt8):(cutAt c l).1.length≤l.length∧(cutAt c l).2.1.length≤l.length:=by
 unfold cutAt Lib.cut;split
 ·simp only [List.length_take,List.length_drop];omega
 ·simp
theorem preAt_len (c:UInt8) (l:List UInt8):(preAt c l).1.length≤l.length:=by
 unfold preAt Lib.trimPrefix;simp only;split<;>simp
theorem ba_at (l:List UInt8):∃X:ByteArray,X.data.toList=l∧X.size=l.length:=⟨⟨l.toArray⟩,rfl,by rw [Lib.size_eq]⟩
theorem preAt_false {c:UInt8} {l:List UInt8} (h:(preAt c l).2=false):(preAt c l).1=l:=by
 unfold preAt at h⊢;simp only at h⊢;unfold Lib.trimPrefix;rw [h,if_neg (by simp)]
theorem line_any (s:ByteArray) (w:World) (hE:Env w) (hs:s.size≤1000000000):
  Calls Tryz.prog 91 #[.string s] w fun e w'=>e=.returned (.tuple #[(lineL s.data.toList).1.val,.bool (lineL s.data.toList).2])∧Below w.heap.size w w':=by
 cases hb:(preAt 91 s.data.toList).2 with
 |false=>exact line_none s w hE hs hb
 |true=>
  obtain ⟨C,hC,hCz⟩:=ba_at (preAt 91 s.data.toList).1;have hCl:=preAt_len 91 s.data.toList;rw [←hCz,←Lib.size_eq]at hCl;obtain ⟨N,hN,hNz⟩:=ba_at (cutAt 93 C.data.toList).1;obtain ⟨R,hR,hRz⟩:=ba_at (cutAt 93 C.data.toList).2.1;have hcl:=cut_len 93 C.data.toList;rw [←hNz,←hRz,←Lib.size_eq]at hcl;obtain ⟨R2,hR2,hR2z⟩:=ba_at (preAt 58 R.data.toList).1;have hR2l:=preAt_len 58 R.data.toList;rw [←hR2z,←Lib.size_eq]at hR2l;have e1:preAt 91 s.data.toList=(C.data.toList,true):=(by rw [hC,←hb]);have e2:cutAt 93 C.data.toList=(N.data.toList,R.data.toList,(cutAt 93 C.data.toList).2.2):=(by rw [hN,hR]);have e3:preAt 58 R.data.toList=(R2.data.toList,(preAt 58 R.data.toList).2):=(by rw [hR2]);cases h2:(cutAt 93 C.data.toList).2.2 with
  |false=>exact line_none2 s C N R R2 false _ w hE hs e1 hCl (by rw [←h2];exact e2) e3 (Or.inl rfl)
  |true=>
   cases h3:(preAt 58 R.data.toList).2 with
   |false=>exact line_none2 s C N R R2 true false w hE hs e1 hCl (by rw [←h2];exact e2) (by rw [←h3];exact e3) (Or.inr ⟨rfl,rfl⟩)
   |true=>
    rw [h2]at e2;rw [h3]at e3;obtain ⟨R3,hR3,hR3z⟩:=ba_at (behindL R2.data.toList).1;have hR3l:=behind_le R2.data.toList;rw [←hR3z,←Lib.size_eq]at hR3l;have e4:behindL R2.data.toList=(R3.data.toList,(behindL R2.data.toList).2):=(by rw [hR3]);cases h5:(preAt 94 N.data.toList).2 with
    |true=>
     obtain ⟨X,hX,hXz⟩:=ba_at (preAt 94 N.data.toList).1;have hXl:=preAt_len 94 N.data.toList;rw [←hXz,←Lib.size_eq]at hXl;obtain ⟨T,hT,_⟩:=ba_at (plainL R3.data.toList);obtain ⟨F,hF,_⟩:=ba_at (nameL X.data.toList).1;exact line_note s C N X R R2 R3 T F (nameL X.data.toList).2 w hE hs e1 hCl e2 e3 _ e4 (by rw [hX,←h5]) (by omega) (by omega) hT.symm (by rw [hF])
    |false=>
     have e5:=preAt_false h5;obtain ⟨U,hU,_⟩:=ba_at (linkL R3.data.toList).1;obtain ⟨V,hV,_⟩:=ba_at (linkL R3.data.toList).2.1;obtain ⟨F,hF,_⟩:=ba_at (nameL N.data.toList).1;exact line_link s C N R R2 R3 U V F (linkL R3.data.toList).2.2 (nameL N.data.toList).2 w hE hs e1 hCl e2 e3 _ e4 (Prod.ext e5 h5) (by omega) (by omega) (by rw [hU,hV]) (by rw [hF])
theorem index_hit (c:UInt8):∀(a b:List UInt8),c∉a→Lib.index (a++c::b) [c]=(a.length:Int)
 |[],b,_=>by simp [Lib.index]
 |x::a,b,h=>by
  have hx:c≠x:=fun e=>h (by rw [e];exact List.mem_cons_self ..);have ih:=index_hit c a b (fun e=>h (List.mem_cons_of_mem _ e));show (if ([c]:List UInt8).isPrefixOf (x::(a++c::b))then (0:Int)else if Lib.index (a++c::b) [c]== -1 then -1 else Lib.index (a++c::b) [c]+1)=_;rw [ih,if_neg (by simp [List.isPrefixOf,hx]),if_neg (by simp),List.length_cons];omega
theorem index_miss (c:UInt8):∀(a:List UInt8),c∉a→Lib.index a [c]= -1
 |[],_=>rfl
 |x::a,h=>by
  have hx:c≠x:=fun e=>h (by rw [e];exact List.mem_cons_self ..);have ih:=index_miss c a (fun e=>h (List.mem_cons_of_mem _ e));show (if ([c]:List UInt8).isPrefixOf (x::a)then (0:Int)else if Lib.index a [c]== -1 then -1 else Lib.index a [c]+1)=_;rw [ih,if_neg (by simp [List.isPrefixOf,hx])];rfl
theorem Letters.cons {c:UInt8} {l:List UInt8} (hc:97≤c.toNat∧c.toNat≤122) (h:Letters l):Letters (c::l):=fun b hb=>by
 rcases List.mem_cons.1 hb with e|e
 ·rw [e];exact hc
 ·exact h b e
theorem Letters.nil:Letters []:=fun b hb=>by cases hb
theorem infoDef:(Tryz.prog.info? 42).map (fun i=>(i.zero,i.size,i.bytes))=some (some (.agg #[.string ⟨#[]⟩,.string ⟨#[]⟩,.string ⟨#[]⟩,.string ⟨#[]⟩,.bool false]),5,72):=by kernel_rfl
def strSize:Value→Nat
 | .string s=>s.size
 |_=>0
def DefL.cells (d:DefL):List Value:=[.string ⟨d.name.toArray⟩,.string ⟨d.url.toArray⟩,.string ⟨d.title.toArray⟩,.string ⟨d.text.toArray⟩,.bool d.note]
def defCells (l:List DefL):List Value:=l.flatMap DefL.cells
theorem defCells_snoc (l:List DefL) (d:DefL):defCells (l++[d])=defCells l++d.cells:=by simp [defCells]
def TabAt (w:World) (tv:Value):Option (List DefL)→Prop
 |none=>tv=.pointer none
 |some ds=>∃b sv,tv=.pointer (some ⟨b,0,none⟩)∧w.heap[b]? =some (.cells #[sv] 66 (0,0))∧w.ownsRow 0 42 5 sv ds.length (defCells ds)
theorem TabAt.below {w w':World} {tv:Value} {t:Option (List DefL)} (h:TabAt w tv t) (hb:Below w.heap.size w w'):TabAt w' tv t:=by
 cases t with
 |none=>exact h
 |some ds=>
  obtain ⟨b,sv,h1,h2,h3⟩:=h;exact ⟨b,sv,h1,(hb.block b (Array.getElem?_eq_some_iff.1 h2).1).trans h2,own_below h3 hb⟩
theorem TabAt.cell {w:World} {b:Nat} {sv:Value} {T:TypeId} (h:w.heap[b]? =some (.cells #[sv] T (0,0))):w.cell? ⟨b,0,none⟩=some sv:=by
 rw [cell_of_row w b 0 _ _ _ h];rfl
theorem def_len (d:DefL):(DefL.cells d).length=5:=rfl
theorem RowR.dfn {w:World} {g o n:Nat} {l:List DefL} (h:RowR w 5 (some ⟨g,o,none⟩) n (defCells l)) (k:Nat) (d:DefL) (hk:l[k]? =some d):
  w.cell? ⟨g,o+k*5,none⟩=some (.string ⟨d.name.toArray⟩)∧w.cell? ⟨g,o+k*5+1,none⟩=some (.string ⟨d.url.toArray⟩)∧w.cell? ⟨g,o+k*5+2,none⟩=some (.string ⟨d.title.toArray⟩)∧w.cell? ⟨g,o+k*5+3,none⟩=some (.string ⟨d.text.toArray⟩)∧w.cell? ⟨g,o+k*5+4,none⟩=some (.bool d.note):=
 ⟨h.cell def_len k 0 d _ hk (by omega) rfl,h.cell def_len k 1 d _ hk (by omega) rfl,h.cell def_len k 2 d _ hk (by omega) rfl,h.cell def_len k 3 d _ hk (by omega) rfl,h.cell def_len k 4 d _ hk (by omega) rfl⟩
def FindPost (ds:List DefL) (x:List UInt8) (note:Bool) (n:Int):Prop:=(n=(-1:Int)∧lookL ds x note=none)∨∃(k:Nat) (d:DefL),n=(k:Int)∧k<ds.length∧ds[k]? =some d∧lookL ds x note=some d
theorem look_cons (d:DefL) (ds:List DefL) (x:List UInt8) (note:Bool):lookL (d::ds) x note=if (d.name==x&&d.note==note)=true then some d else lookL ds x note:=by
 unfold lookL;rw [List.find?_cons];cases (d.name==x&&d.note==note)<;>rfl
set_option maxHeartbeats 4000000 in
theorem find_at (b:Nat) (sv:Value) (ds:List DefL) (x:List UInt8) (note:Bool) (w:World) (hb:w.heap[b]? =some (.cells #[sv] 66 (0,0))) (ho:w.ownsRow 0 42 5 sv ds.length (defCells ds)) (hl:ds.length≤1000000000):
  Calls Tryz.prog 118 #[.pointer (some ⟨b,0,none⟩),.string ⟨x.toArray⟩,.bool note] w fun e w'=>∃n,e=.returned (.int .i64 n)∧FindPost ds x note n∧Below w.heap.size w w':=by
 have hc:=TabAt.cell hb;obtain ⟨ao,c,hsv,hR,_⟩:=own_slice ho;subst hsv;have HR:=Lib.hid hR;clear hR ho hb;go_enter Tryz.func118,Tryz.ntmps118
 go_wp2_with fail;go_loopw [14] (fun u14 wr=>∃k:Nat,k≤ds.length∧u14=.int .i64 k∧Below w.heap.size w wr∧lookL (ds.drop k) x note=lookL ds x note) (fun u14 _=>ds.length - (intOf u14).toNat)
 case atStart=>exact ⟨0,Nat.zero_le _,rfl,Below.refl _ _,rfl⟩
 case round=>
  obtain ⟨k,hk,rfl,hB,hlk⟩:=hrel;by_cases hlt:k<ds.length
  ·obtain ⟨d,hd⟩:∃d,ds[k]? =some d:=⟨ds[k],by simp [hlt]⟩
   obtain ⟨g,o,rfl⟩:∃g o,ao=some ⟨g,o,none⟩:=by
    cases hao:ao with
    |none=>have:=HR.out.non hao;omega
    |some ad=>
     obtain ⟨g,o,sp⟩:=ad;obtain rfl:sp=none:=(HR.out.at' _ hao).1;exact ⟨g,o,rfl⟩
   obtain ⟨c0,c1,c2,c3,c4⟩:=(HR.out.below hB).dfn k d hd;have hdr:ds.drop k=d::ds.drop (k+1):=by
    obtain ⟨h1,h2⟩:=List.getElem?_eq_some_iff.1 hd;rw [←h2,List.getElem_cons_drop]
   rw [hdr,look_cons]at hlk;have HLK:=Lib.hid hlk;have HD:=Lib.hid hd;clear hlk hd hdr;have hB2:=hB.alloc hB.size (.cells #[.string ⟨d.name.toArray⟩,.string ⟨d.url.toArray⟩,.string ⟨d.title.toArray⟩,.string ⟨d.text.toArray⟩,.bool d.note] 42);by_cases hq:d.name=x
   ·subst hq;cases hnn:(d.note==note)
    ·have HN:=Lib.hid (show lookL (ds.drop (k+1)) d.name note=lookL ds d.name note by have:=HLK.out;rwa [hnn,Bool.and_false,if_neg (by simp)]at this);go_wp2_with fail;go_roundw;case rel=>exact ⟨k+1,by omega,by go_num,hB2,HN.out⟩
     case measure=>simp [intOf];omega
    ·have HN:=Lib.hid (show lookL ds d.name note=some d by have:=HLK.out;rw [hnn,Bool.and_true,if_pos (by simp)]at this;exact this.symm);go_wp2_with fail;go_ret;exact ⟨k,rfl,Or.inr ⟨k,d,rfl,hlt,HD.out,HN.out⟩,hB2⟩
   ·have HN:=Lib.hid (show lookL (ds.drop (k+1)) x note=lookL ds x note by have:=HLK.out;rwa [show (d.name==x)=false by simpa using hq,Bool.false_and,if_neg (by simp)]at this);go_wp2_with fail;go_roundw;case rel=>exact ⟨k+1,by omega,by go_num,hB2,HN.out⟩
    case measure=>simp [intOf];omega
  ·obtain rfl:k=ds.length:=(by omega);have HN:=Lib.hid (show lookL ds x note=none by rw [←hlk,List.drop_length];rfl);clear hlk;go_wp2_with fail;go_ret;exact ⟨-1,rfl,Or.inl ⟨rfl,HN.out⟩,hB⟩
def TabOwn (B:Nat) (w:World) (b:Nat) (ds:List DefL):Prop:=B≤b∧∃sv,w.heap[b]? =some (.cells #[sv] 66 (0,0))∧w.ownsRow B 42 5 sv ds.length (defCells ds)
theorem TabOwn.below {B:Nat} {w w':World} {b:Nat} {ds:List DefL} (h:TabOwn B w b ds) (hb:Below w.heap.size w w'):TabOwn B w' b ds:=by
 obtain ⟨h0,sv,h1,h2⟩:=h;exact ⟨h0,sv,(hb.block b (Array.getElem?_eq_some_iff.1 h1).1).trans h1,own_below h2 hb⟩
theorem TabOwn.at' {B:Nat} {w:World} {b:Nat} {ds:List DefL} (h:TabOwn B w b ds):TabAt w (.pointer (some ⟨b,0,none⟩)) (some ds):=by
 obtain ⟨h0,sv,h1,h2⟩:=h;exact ⟨b,sv,rfl,h1,own_mono h2 (Nat.zero_le _)⟩
def addL (ds:List DefL) (d:DefL):List DefL×Bool:=if (lookL ds d.name d.note).isSome then (ds,false)else (ds++[d],true)
theorem def_oneCell (d:DefL):∀u∈[Value.string ⟨d.name.toArray⟩,.string ⟨d.url.toArray⟩,.string ⟨d.title.toArray⟩,.string ⟨d.text.toArray⟩,.bool d.note],u.oneCell'=true:=by
 intro u hu;simp at hu;rcases hu with rfl|rfl|rfl|rfl|rfl<;>rfl
theorem own_other {w:World} {base:Nat} {e T:TypeId} {size n P:Nat} {v:Value} {xs:List Value} {cs:Array Value} (h:w.ownsRow base e size v n xs) (hP:w.heap[P]? =some (.cells cs T (0,0))) (he:e≠T):some P≠v.ownBlock:=by
 intro h0;rcases h.2 with ⟨rfl,_⟩|⟨g,cap,cur,rfl,_,hg,_⟩
 ·simp [Value.ownBlock]at h0
 ·simp [Value.ownBlock]at h0;subst h0;rw [hg]at hP;simp at hP;exact he hP.2
theorem heap_cell {w w':World} {k j:Nat} {u:Value} (h:w.cell? ⟨k,j,none⟩=some u) (hk:w'.heap[k]? =w.heap[k]?):w'.cell? ⟨k,j,none⟩=some u:=by
 rw [←h];unfold World.cell?;rw [hk]
theorem infoBlk:(Tryz.prog.info? 37).map (fun i=>(i.zero,i.size,i.bytes))=some (some (.agg #[.int .i64 0,.int .i64 0,.int .i64 0,.bool false,.string ⟨#[]⟩,.string ⟨#[]⟩]),6,64):=by kernel_rfl
def blkCells (x:BlkL):List Value:=[.int .i64 (x.kind:Int),.int .i64 (x.depth:Int),.int .i64 x.n,.bool x.tight,.string ⟨x.text.toArray⟩,.string ⟨x.info.toArray⟩]
def blkV (x:BlkL):Value:=.agg #[.int .i64 (x.kind:Int),.int .i64 (x.depth:Int),.int .i64 x.n,.bool x.tight,.string ⟨x.text.toArray⟩,.string ⟨x.info.toArray⟩]
theorem blk_len (x:BlkL):(blkCells x).length=6:=rfl
theorem blk_one (x:BlkL):∀u∈[Value.int .i64 (x.kind:Int),.int .i64 (x.depth:Int),.int .i64 x.n,.bool x.tight,.string ⟨x.text.toArray⟩,.string ⟨x.info.toArray⟩],u.oneCell'=true:=by
 intro u hu;simp at hu;rcases hu with rfl|rfl|rfl|rfl|rfl|rfl<;>rfl
def BlksOwn (B:Nat) (w:World) (v:Value) (l:List BlkL):Prop:=w.ownsRow B 37 6 v l.length (l.flatMap blkCells)
structure BpAt (B b:Nat) (w:World) (lv:Value) (pos d:Nat) (ov:Value) (out:List BlkL):Prop where
 heap:w.heap[b]? =some (.cells #[lv,.int .i64 (pos:Int),.int .i64 (d:Int),ov] 155 (0,0))
 own:BlksOwn B w ov out
 base:B≤b
theorem BpAt.lt {B b:Nat} {w:World} {lv:Value} {pos d:Nat} {ov:Value} {out:List BlkL} (h:BpAt B b w lv pos d ov out):b<w.heap.size:=(Array.getElem?_eq_some_iff.1 h.heap).1
theorem BpAt.below {B b:Nat} {w w':World} {lv:Value} {pos d:Nat} {ov:Value} {out:List BlkL} (h:BpAt B b w lv pos d ov out) (hb:Below w.heap.size w w'):BpAt B b w' lv pos d ov out:=
 ⟨(hb.block b h.lt).trans h.heap,own_below h.own hb,h.base⟩
theorem BpAt.cells {B b:Nat} {w:World} {lv:Value} {pos d:Nat} {ov:Value} {out:List BlkL} (h:BpAt B b w lv pos d ov out):
  w.cell? ⟨b,0,none⟩=some lv∧w.cell? ⟨b,1,none⟩=some (.int .i64 (pos:Int))∧w.cell? ⟨b,2,none⟩=some (.int .i64 (d:Int))∧w.cell? ⟨b,3,none⟩=some ov:=
 ⟨by rw [cell_of_row w b _ _ _ _ h.heap];rfl,by rw [cell_of_row w b _ _ _ _ h.heap];rfl,by rw [cell_of_row w b _ _ _ _ h.heap];rfl,by rw [cell_of_row w b _ _ _ _ h.heap];rfl⟩
theorem BpAt.frozen {B b:Nat} {w:World} {lv:Value} {pos d:Nat} {ov:Value} {out:List BlkL} (h:BpAt B b w lv pos d ov out) (j:Nat):w.frozen? ⟨b,j,none⟩=false:=frozen_of_row w b j _ _ h.heap
structure Kp (B b:Nat) (ov:Value) (w w':World):Prop where
 below:Below B w w'
 keep:∀k,k<w.heap.size→k≠b→some k≠ov.ownBlock→w'.heap[k]? =w.heap[k]?
def PPost (B b:Nat) (w:World) (lv:Value) (d:Nat) (ov:Value) (pos':Nat) (out':List BlkL) (w':World):Prop:=
 ∃ov',BpAt B b w' lv pos' d ov' out'∧Kp B b ov w w'∧(ov'.ownBlock=ov.ownBlock∨∃g,ov'.ownBlock=some g∧w.heap.size≤g)
theorem Kp.refl (B b:Nat) (ov:Value) (w:World):Kp B b ov w w:=⟨Below.refl _ _,fun _ _ _ _=>rfl⟩
theorem Kp.of_below {B b:Nat} {ov:Value} {w w':World} (h:Below w.heap.size w w') (hB:B≤w.heap.size):Kp B b ov w w':=⟨h.mono hB,fun k hk _ _=>h.block k hk⟩
theorem Kp.trans {B b:Nat} {ov ov1:Value} {w w1 w2:World} (h:Kp B b ov w w1) (ho:ov1.ownBlock=ov.ownBlock∨∃g,ov1.ownBlock=some g∧w.heap.size≤g) (h2:Kp B b ov1 w1 w2):Kp B b ov w w2:=
 ⟨h.below.trans h2.below,fun k hk hb hne=>(h2.keep k (Nat.lt_of_lt_of_le hk h.below.size) hb (by
  rcases ho with e|⟨g,e,hg⟩
  ·rw [e];exact hne
  ·rw [e];intro h0;have:=Option.some.inj h0;omega)).trans (h.keep k hk hb hne)⟩
theorem PPost.trans {B b:Nat} {w w1 w2:World} {lv:Value} {d:Nat} {ov ov1:Value} {p2:Nat} {o2:List BlkL} (hk:Kp B b ov w w1) (ho:ov1.ownBlock=ov.ownBlock∨∃g,ov1.ownBlock=some g∧w.heap.size≤g)
  (h2:PPost B b w1 lv d ov1 p2 o2 w2):PPost B b w lv d ov p2 o2 w2:=by
 obtain ⟨ov2,g1,g2,g3⟩:=h2;refine ⟨ov2,g1,hk.trans ho g2,?_⟩;rcases g3 with e|⟨g,e,hg⟩
 ·rcases ho with e2|⟨g,e2,hg⟩
  ·exact Or.inl (e.trans e2)
  ·exact Or.inr ⟨g,e.trans e2,hg⟩
 ·exact Or.inr ⟨g,e,Nat.le_trans hk.below.size hg⟩
theorem own_heap {w w':World} {base:Nat} {e:TypeId} {size:Nat} {v:Value} {n:Nat} {xs:List Value} (h:w.ownsRow base e size v n xs) (hk:∀g,v.ownBlock=some g→w'.heap[g]? =w.heap[g]?):w'.ownsRow base e size v n xs:=by
 obtain ⟨h1,h2⟩:=h;refine ⟨h1,?_⟩;rcases h2 with h2|⟨g,cap,cur,hv,hb,hh,r⟩
 ·exact Or.inl h2
 ·refine Or.inr ⟨g,cap,cur,hv,hb,?_,r⟩;rw [hk g (by rw [hv];rfl)];exact hh
theorem Kp.own {B b B2:Nat} {w w':World} {lv:Value} {pos d:Nat} {ov:Value} {out:List BlkL} {e:TypeId} {size:Nat} {v:Value} {n:Nat} {xs:List Value} (hk:Kp B b ov w w') (h:BpAt B b w lv pos d ov out) (hr:w.ownsRow B2 e size v n xs) (h1:e≠155) (h2:e≠37):w'.ownsRow B2 e size v n xs:=by
 refine own_heap hr fun g hg=>hk.keep g (World.ownsRow.lt hr g hg).2 (fun e0=>?_) (fun e0=>?_)
 ·have:=own_other hr h.heap h1;rw [hg,e0]at this;exact this rfl
 ·rcases own_apart hr h.own h2 with h0|h0
  ·rw [hg]at h0;cases h0
  ·exact h0 (by rw [hg];exact e0)
theorem StrR.belowB {B:Nat} {w w':World} {lao:Option Addr} {ls:List (List UInt8)} (h:StrR w lao ls) (hb:Below B w w') (hl:∀ad,lao=some ad→ad.block<B):StrR w' lao ls:=
 ⟨h.len,h.non,fun ad had=>⟨(RowR.at' h ad had).1,fun j u hu=>by
  have hc:=(RowR.at' h ad had).2 j u hu;have hbl:(ad.add j).block=ad.block:=(by rw [add_at _ (RowR.at' h ad had).1]);exact (hb.cell (by rw [hbl];exact hl ad had)).trans hc⟩⟩
theorem blks_snoc {B:Nat} {w:World} {v:Value} {l:List BlkL} {p:BlkL} {cs:List Value} (h:w.ownsRow B 37 6 v (l.length+1) (l.flatMap blkCells++cs)) (hc:cs=blkCells p):BlksOwn B w v (l++[p]):=by
 unfold BlksOwn;rw [List.length_append,List.flatMap_append,List.flatMap_cons,List.flatMap_nil,List.append_nil,←hc];exact h
set_option maxHeartbeats 8000000 in
theorem bput (B b:Nat) (lv ov:Value) (pos d:Nat) (out:List BlkL) (x:BlkL) (w:World) (h:BpAt B b w lv pos d ov out) (hl:out.length≤1000000000):
  Calls Tryz.prog 141 #[.pointer (some ⟨b,0,none⟩),blkV x] w fun e w'=>e=.returned (.tuple #[])∧PPost B b w lv d ov pos (out++[{x with depth:=d}]) w':=by
 obtain ⟨i0,hi,hz0,hz1,hz2⟩:=info_parts infoBlk;have hbl:=h.lt;have hBb:=h.base;have hb1:Below w.heap.size w (w.alloc (.cells #[.int .i64 (x.kind:Int),.int .i64 (x.depth:Int),.int .i64 x.n,.bool x.tight,.string ⟨x.text.toArray⟩,.string ⟨x.info.toArray⟩] 37)):=(Below.refl _ w).alloc (Nat.le_refl _) _;have hk1:(w.alloc (.cells #[.int .i64 (x.kind:Int),.int .i64 (x.depth:Int),.int .i64 x.n,.bool x.tight,.string ⟨x.text.toArray⟩,.string ⟨x.info.toArray⟩] 37)).heap[w.heap.size]? =some (.cells #[.int .i64 (x.kind:Int),.int .i64 (x.depth:Int),.int .i64 x.n,.bool x.tight,.string ⟨x.text.toArray⟩,.string ⟨x.info.toArray⟩] 37 (0,0)):=heap_alloc_new w _;have h1:=h.below hb1;obtain ⟨W1,hW1⟩:∃W1,w.alloc (.cells #[.int .i64 (x.kind:Int),.int .i64 (x.depth:Int),.int .i64 x.n,.bool x.tight,.string ⟨x.text.toArray⟩,.string ⟨x.info.toArray⟩] 37)=W1:=⟨_,rfl⟩
 rw [hW1]at hb1 hk1 h1;have hk2:(W1.setCell ⟨w.heap.size,1,none⟩ (.int .i64 (d:Int))).heap[w.heap.size]? =some (.cells #[.int .i64 (x.kind:Int),.int .i64 (d:Int),.int .i64 x.n,.bool x.tight,.string ⟨x.text.toArray⟩,.string ⟨x.info.toArray⟩] 37 (0,0)):=heap_setCell_same W1 w.heap.size 1 _ _ _ hk1;have hb2:=hb1.setCell (p:=⟨w.heap.size,1,none⟩) (Nat.le_refl _) (.int .i64 (d:Int));have h2:=h.below hb2;have hc1:W1.cell? ⟨w.heap.size,1,none⟩=some (.int .i64 (x.depth:Int)):=(by rw [cell_of_row W1 w.heap.size _ _ _ _ hk1];rfl);have hf1:W1.frozen? ⟨w.heap.size,1,none⟩=false:=frozen_of_row W1 w.heap.size 1 _ _ hk1;have p2:=h1.cells.2.2.1;have HX:=Lib.hid (And.intro hb2 (And.intro h2 hk2));have HNR:=Lib.hid (show (some w.heap.size:Option Nat)≠ov.ownBlock from fun e=>by have:=(World.ownsRow.lt h.own w.heap.size e.symm).2;omega);clear hb1 hk1 h1 hk2 hb2 h2 h;unfold blkV;go_enter Tryz.func141,Tryz.ntmps141
 go_wp2_with fail;obtain ⟨w2,hw2⟩:∃W,W1.setCell ⟨w.heap.size,1,none⟩ (.int .i64 (d:Int))=W:=⟨_,rfl⟩
 obtain ⟨hB2,h2,hk2⟩:=HX.out;rw [hw2]at hB2 h2 hk2⊢;clear HX hw2 hc1 hf1 p2 hW1 W1;obtain ⟨sao,scap,hsv,_⟩:=own_slice h2.own;have hovb:=hsv;subst hsv;obtain ⟨_,_,_,p0⟩:=h2.cells;have hbl2:b<w2.heap.size:=h2.lt;have hdl2:w.heap.size<w2.heap.size:=(Array.getElem?_eq_some_iff.1 hk2).1;obtain ⟨c0,c1,c2,c3,c4,c5⟩:w2.cell? ⟨w.heap.size,0,none⟩=some (.int .i64 (x.kind:Int))∧w2.cell? ⟨w.heap.size,1,none⟩=some (.int .i64 (d:Int))∧w2.cell? ⟨w.heap.size,2,none⟩=some (.int .i64 x.n)∧w2.cell? ⟨w.heap.size,3,none⟩=some (.bool x.tight)∧w2.cell? ⟨w.heap.size,4,none⟩=some (.string ⟨x.text.toArray⟩)∧w2.cell? ⟨w.heap.size,5,none⟩=some (.string ⟨x.info.toArray⟩):=by
  refine ⟨?_,?_,?_,?_,?_,?_⟩<;>(rw [cell_of_row w2 w.heap.size _ _ _ _ hk2];rfl)
 have b2a:=(Below.refl w2.heap.size w2).alloc (Nat.le_refl _) (.cells #[.int .i64 (x.kind:Int),.int .i64 (d:Int),.int .i64 x.n,.bool x.tight,.string ⟨x.text.toArray⟩,.string ⟨x.info.toArray⟩] 37);have p0a:=(b2a.cell (p:=⟨b,3,none⟩) hbl2).trans p0;have a0:=(b2a.cell (p:=⟨w.heap.size,0,none⟩) hdl2).trans c0;have a1:=(b2a.cell (p:=⟨w.heap.size,1,none⟩) hdl2).trans c1;have a2:=(b2a.cell (p:=⟨w.heap.size,2,none⟩) hdl2).trans c2;have a3:=(b2a.cell (p:=⟨w.heap.size,3,none⟩) hdl2).trans c3;have a4:=(b2a.cell (p:=⟨w.heap.size,4,none⟩) hdl2).trans c4;have a5:=(b2a.cell (p:=⟨w.heap.size,5,none⟩) hdl2).trans c5;have hAA:=h2.below b2a;have hkA:=(b2a.block w.heap.size hdl2).trans hk2;have hBA:=hB2.trans (b2a.mono hB2.size);have hlA:w2.heap.size<(w2.alloc (.cells #[.int .i64 (x.kind:Int),.int .i64 (d:Int),.int .i64 x.n,.bool x.tight,.string ⟨x.text.toArray⟩,.string ⟨x.info.toArray⟩] 37)).heap.size:=(by simp);have hsA:(w2.alloc (.cells #[.int .i64 (x.kind:Int),.int .i64 (d:Int),.int .i64 x.n,.bool x.tight,.string ⟨x.text.toArray⟩,.string ⟨x.info.toArray⟩] 37)).heap.size=w2.heap.size+1:=(by simp);have hnews:=cells_new w2 [.int .i64 (x.kind:Int),.int .i64 (d:Int),.int .i64 x.n,.bool x.tight,.string ⟨x.text.toArray⟩,.string ⟨x.info.toArray⟩] 37 w2.heap.size rfl;have hob:(some b:Option Nat)≠(Value.slice sao out.length scap).ownBlock:=own_other hAA.own hAA.heap (by decide);have hbne:¬w.heap.size=b:=(by omega);have hbA:∀k,k<w2.heap.size→(w2.alloc (.cells #[.int .i64 (x.kind:Int),.int .i64 (d:Int),.int .i64 x.n,.bool x.tight,.string ⟨x.text.toArray⟩,.string ⟨x.info.toArray⟩] 37)).heap[k]? =w2.heap[k]? :=fun k hk=>b2a.block k hk;have hnr:(some w.heap.size:Option Nat)≠(Value.slice sao out.length scap).ownBlock:=HNR.out;have hB0:B≤w.heap.size:=(by omega);obtain ⟨WA,hWA⟩:∃W,w2.alloc (.cells #[.int .i64 (x.kind:Int),.int .i64 (d:Int),.int .i64 x.n,.bool x.tight,.string ⟨x.text.toArray⟩,.string ⟨x.info.toArray⟩] 37)=W:=⟨_,rfl⟩
 have HA2:=Lib.hid (And.intro hAA.own (And.intro hAA.heap (And.intro hkA (And.intro hBA (And.intro hnews (And.intro hob (And.intro hbA hsA)))))));have HS2:=Lib.hid hB2;clear hAA hkA hBA hnews hob hbA hsA hWA WA b2a h2 hk2 hB2
 go_region_law
  ((
   refine step_append_lies _ rfl (.tmp 13) (.tmp 15) 29 rfl B 37 i0 (.agg #[.int .i64 0,.int .i64 0,.int .i64 0,.bool false,.string ⟨#[]⟩,.string ⟨#[]⟩]) 6 64 Tryz.underlying29 hi hz0 hz1 hz2 rfl (by decide) (.slice sao out.length scap) out.length (out.flatMap blkCells) rfl HA2.out.1 ⟨w2.heap.size,0,none⟩ 1 1 [.int .i64 (x.kind:Int),.int .i64 (d:Int),.int .i64 x.n,.bool x.tight,.string ⟨x.text.toArray⟩,.string ⟨x.info.toArray⟩] rfl rfl HA2.out.2.2.2.2.1 (blk_one {x with depth:=d}) (by decide) (by unfold maxLen;omega) (by omega) ?_ _ rfl ?_
   ·exact Nat.le_of_lt (Nat.lt_of_le_of_lt (show B≤w2.heap.size by omega) hlA)
   intro g cap w5 hown5 hgrow5 hat5 hlt5;have hk5:=(hgrow5.block w.heap.size (Nat.lt_trans hdl2 hlA) hnr).trans HA2.out.2.2.1;have hh5:=(hgrow5.block b (Nat.lt_trans hbl2 hlA) HA2.out.2.2.2.2.2.1).trans HA2.out.2.1;have g0:=heap_cell a0 (hk5.trans HA2.out.2.2.1.symm);have g1:=heap_cell a1 (hk5.trans HA2.out.2.2.1.symm);have g2:=heap_cell a2 (hk5.trans HA2.out.2.2.1.symm);have g3:=heap_cell a3 (hk5.trans HA2.out.2.2.1.symm);have g4:=heap_cell a4 (hk5.trans HA2.out.2.2.1.symm);have g5:=heap_cell a5 (hk5.trans HA2.out.2.2.1.symm);have p5:w5.cell? ⟨b,3,none⟩=some (.slice sao out.length scap):=(by rw [cell_of_row w5 b _ _ _ _ hh5];rfl);have f5:=frozen_of_row w5 b 3 _ _ hh5;have kk:=Below.heap_setCell w5 ⟨b,3,none⟩ (.slice (some ⟨g,0,none⟩) (out.length+1) cap) w.heap.size hbne;have k0:=heap_cell g0 kk;have k1:=heap_cell g1 kk;have k2:=heap_cell g2 kk;have k3:=heap_cell g3 kk;have k4:=heap_cell g4 kk;have k5:=heap_cell g5 kk))
 all_goals
  go_wp2_with fail
  go_end0
  have hbw:Below B w ((w5.setCell ⟨b,3,none⟩ (.slice (some ⟨g,0,none⟩) (out.length+1) cap))):=((HA2.out.2.2.2.1.mono hB0).drew.grown hgrow5 (Nat.le_of_lt (Nat.lt_of_le_of_lt (show B≤w2.heap.size by omega) hlA)) (fun j hj=>(HA2.out.1.lt j hj).1)).setCell (p:=⟨b,3,none⟩) hBb _;refine ⟨rfl,.slice (some ⟨g,0,none⟩) (out.length+1) cap,⟨heap_setCell_same w5 b 3 _ _ _ hh5,?_,hBb⟩,⟨hbw,fun k hk hkb hks=>?_⟩,?_⟩
  ·exact blks_snoc (p:={x with depth:=d}) (own_setCell (a:=⟨b,3,none⟩) hown5 hh5 (by decide) _) rfl
  ·have hk2:k<w2.heap.size:=Nat.lt_of_lt_of_le hk HS2.out.size;rw [Below.heap_setCell _ _ _ _ hkb,hgrow5.block k (Nat.lt_trans hk2 hlA) hks];exact (HA2.out.2.2.2.2.2.2.1 k hk2).trans (HS2.out.block k hk)
  ·rcases hat5 with h|h
   ·exact Or.inl (by rw [h];rfl)
   ·refine Or.inr ⟨g,rfl,?_⟩;have:=HS2.out.size;have h3:(w2.alloc (.cells #[.int .i64 (x.kind:Int),.int .i64 (d:Int),.int .i64 x.n,.bool x.tight,.string ⟨x.text.toArray⟩,.string ⟨x.info.toArray⟩] 37)).drew.heap.size=g:=h.symm;have h4:(w2.alloc (.cells #[.int .i64 (x.kind:Int),.int .i64 (d:Int),.int .i64 x.n,.bool x.tight,.string ⟨x.text.toArray⟩,.string ⟨x.info.toArray⟩] 37)).drew.heap.size=w2.heap.size+1:=(by simp);omega
def isCont (b:UInt8):Bool:=b.toNat / 64==2
theorem width_conts (b:UInt8) (z:List UInt8):(∀x∈z.take ((Lib.decodeL (b::z)).2 - 1),isCont x=true)∧(2≤(Lib.decodeL (b::z)).2→isCont b=false):=by
 have hw:=Lib.decodeL_N (b::z);have hc:=Lib.decodeN_conts (b::z).length ((b::z).getD 0 0).toNat ((b::z).getD 1 0).toNat ((b::z).getD 2 0).toNat ((b::z).getD 3 0).toNat;rw [←hw]at hc;simp only [List.getD_cons_zero,List.getD_cons_succ,List.length_cons]at hc;obtain ⟨c1,c2,c3,c4⟩:=hc;have h1:=Lib.decodeL_width (b::z);refine ⟨fun x hx=>?_,fun h=>?_⟩
 ·obtain ⟨i,hi,rfl⟩:=List.mem_iff_getElem.1 hx;rw [List.length_take]at hi;have hd:z.getD i 0=(z.take ((Lib.decodeL (b::z)).2 - 1))[i]:=by
   rw [List.getElem_take,List.getD_eq_getElem?_getD,List.getElem?_eq_getElem (by omega)];rfl
  rw [←hd];have:i=0∨i=1∨i=2:=(by omega);unfold isCont;rcases this with rfl|rfl|rfl
  ·rw [(c1 (by omega)).1];rfl
  ·rw [(c2 (by omega)).1];rfl
  ·rw [(c3 (by omega)).1];rfl
 ·unfold isCont;rw [beq_eq_false_iff_ne];intro e;rw [hw]at h;simp only [List.getD_cons_zero]at h;rw [Lib.decodeN_cont _ _ _ _ _ e]at h;simp at h
end Go.Proofs.YtkphljggkajlkaaGreatDoor
namespace Go.Proofs.YtkphljggkajlkaaGreatDoor
open Go.RowKit
set_option linter.unusedVariables false
set_option linter.unusedSimpArgs false
def hasRune (S:List UInt8):Nat→List UInt8→Bool
 |0,_=>false
 |n+1,l=>if l=[]then false else (S.any (fun b=>b.toNat==(Lib.decodeL l).1))||hasRune S n (l.drop (Lib.decodeL l).2)
theorem decodeL_big (b:UInt8) (z:List UInt8) (h:128≤b.toNat):128≤(Lib.decodeL (b::z)).1:=by
 rw [Lib.decodeL_N];simp only [List.getD_cons_zero];unfold Lib.decodeN
 repeat' split
 all_goals first|omega|(simp only;omega)
theorem isCont_big {b:UInt8} (h:isCont b=true):128≤b.toNat:=by unfold isCont at h;simp at h;omega
theorem any_skip (S:List UInt8) (hS:∀b∈S,b.toNat<128):∀(l:List UInt8) (k:Nat),(∀x∈l.take k,128≤x.toNat)→l.any (S.contains ·)=(l.drop k).any (S.contains ·)
 |l,0,_=>by simp
 |[],k+1,_=>by simp
 |c::l,k+1,h=>by
  have hc:S.contains c=false:=by
   cases hx:S.contains c with
   |false=>rfl
   |true=>have h1:=hS c (List.contains_iff_mem.1 hx);have h2:=h c (by simp);omega
  rw [List.any_cons,hc,Bool.false_or,any_skip S hS l k (fun x hx=>h x (by rw [List.take_succ_cons];exact List.mem_cons_of_mem _ hx))];rfl
theorem hasRune_any (S:List UInt8) (hS:∀b∈S,b.toNat<128):∀(n:Nat) (l:List UInt8),l.length≤n→hasRune S n l=l.any (S.contains ·)
 |n,[],_=>by cases n<;>simp [hasRune]
 |0,b::z,h=>by simp at h
 |n+1,b::z,h=>by
  have hw:=Lib.decodeL_width (b::z);rw [hasRune,if_neg (by simp),hasRune_any S hS n _ (by rw [List.length_drop];simp only [List.length_cons]at*;omega)];by_cases hb:b.toNat<128
  ·rw [Lib.decodeL_ascii b z hb,List.any_cons];simp only [List.drop_succ_cons,List.drop_zero];congr 1;rw [Bool.eq_iff_iff,List.any_eq_true,List.contains_iff_mem];constructor
   ·rintro ⟨x,hx,he⟩;have:x=b:=by rw [←UInt8.toNat_inj];simpa using he
    rwa [this]at hx
   ·intro hx;exact ⟨b,hx,by simp⟩
  ·have hbig:=decodeL_big b z (by omega);have hno:(S.any fun x=>x.toNat==(Lib.decodeL (b::z)).1)=false:=by
    rw [List.any_eq_false];intro x hx;have:=hS x hx;simp;omega
   rw [hno,Bool.false_or];refine (any_skip S hS _ _ ?_).symm;intro x hx;obtain ⟨m,hm⟩:∃m,(Lib.decodeL (b::z)).2=m+1:=⟨(Lib.decodeL (b::z)).2 - 1,by omega⟩
   have hc:=(width_conts b z).1;rw [hm]at hx hc;rw [List.take_succ_cons]at hx;rcases List.mem_cons.1 hx with rfl|hx
   ·omega
   ·exact isCont_big (hc x (by simpa using hx))
end Go.Proofs.YtkphljggkajlkaaGreatDoor
namespace Go.Proofs.YtkphljggkajlkaaGreatDoor
open Go.RowKit
set_option maxRecDepth 100000
set_option linter.unusedVariables false
set_option linter.unusedSimpArgs false
theorem mem_drop {α:Type} (p:α→Bool):∀(l:List α) (x:α),x∈l→p x=false→x∈l.dropWhile p
 |c::l,x,hx,hp=>by
  by_cases hc:p c=true
  ·rw [List.dropWhile_cons_of_pos hc];rcases List.mem_cons.1 hx with rfl|hx
   ·rw [hp]at hc;cases hc
   ·exact mem_drop p l x hx hp
  ·rw [List.dropWhile_cons_of_neg hc];exact hx
theorem drop_all {α:Type} (p:α→Bool):∀(l:List α),(∀x∈l,p x=true)→l.dropWhile p=[]
 |[],_=>rfl
 |c::l,h=>by rw [List.dropWhile_cons_of_pos (h c (List.mem_cons_self ..)),drop_all p l (fun x hx=>h x (List.mem_cons_of_mem _ hx))]
theorem trimS_empty (l cs:List UInt8):(Lib.trimS l cs).isEmpty=l.all (fun c=>cs.contains c):=by
 unfold Lib.trimS Lib.trimLeftS Lib.trimRightS;by_cases h:l.all (fun c=>cs.contains c)=true
 ·have:l.reverse.dropWhile (fun c=>cs.contains c)=[]:=drop_all _ _ fun x hx=>List.all_eq_true.1 h x (List.mem_reverse.1 hx);rw [this,h];rfl
 ·have h':l.all (fun c=>cs.contains c)=false:=(by simpa using h);obtain ⟨x,hx,hp⟩:=List.all_eq_false.1 h';have hp':cs.contains x=false:=(by simpa using hp);rw [h',List.isEmpty_eq_false_iff];have a:=mem_drop (fun c=>cs.contains c) _ x (List.mem_reverse.2 hx) hp';exact List.ne_nil_of_mem (mem_drop (fun c=>cs.contains c) _ x (List.mem_reverse.2 a) hp')
theorem trimB_any (s:ByteArray) (w:World) (hs:s.size≤1000000000):
  Calls Tryz.prog 171 #[.string s,.string ⟨#[32,9]⟩] w fun e w'=>e=.returned (.string ⟨(Lib.trimS s.data.toList [32,9]).toArray⟩)∧Below w.heap.size w w':=
 Any.strings_Trim_laid Tryz.lays160 (by kernel_rfl) s ⟨#[32,9]⟩ w (by omega) (by decide) (ascii_of_all (by decide))
theorem blankV_eq (l:List UInt8):l.all (fun c=>[32,9].contains c)=blankV l:=by
 unfold blankV;congr 1;funext c;unfold blankB;rw [List.contains_cons,List.contains_cons];simp
theorem blank_any (s:ByteArray) (w:World) (hs:s.size≤1000000000):
  Calls Tryz.prog 137 #[.string s] w fun e w'=>e=.returned (.bool (blankV s.data.toList))∧Below w.heap.size w w':=by
 have HT:=Lib.hid (trimB_any s w hs);have he:=trimS_empty s.data.toList [32,9];rw [blankV_eq]at he;go_enter Tryz.func137,Tryz.ntmps137
 go_wp2_with fail;refine HT.out.mono ?_;rintro e w2 ⟨rfl,hb⟩;have HB:=Lib.hid hb;clear hb;go_wp2_with fail;go_ret;exact ⟨rfl,HB.out⟩
theorem rep_eq:∀(n:Nat),Lib.repeatL [32] n=List.replicate n 32
 |0=>rfl
 |n+1=>by rw [Lib.repeatL,rep_eq n];rfl
theorem restB_black {c:UInt8} {t:List UInt8} (h:blankB c=false):restB (c::t)=c::t:=by
 unfold restB;rw [List.dropWhile_cons_of_neg (by rw [h];simp)]
def ExpRel (s:ByteArray) (w:World) (pos col:Nat) (wr:World):Prop:=
 wr.heap[w.heap.size]? =some (.stringIter s pos)∧Below w.heap.size w wr∧pos≤s.size∧colL (s.data.toList.drop pos) col=indentL s.data.toList∧restB (s.data.toList.drop pos)=restB s.data.toList∧col≤4*pos
set_option maxHeartbeats 4000000 in
theorem expand_any (s:ByteArray) (w:World) (hs:s.size≤1000000):
  Calls Tryz.prog 173 #[.string s] w fun e w'=>e=.returned (.string ⟨(expandL s.data.toList).toArray⟩)∧Below w.heap.size w w':=by
 go_enter Tryz.func173,Tryz.ntmps173
 go_wp2_with fail;go_loopw [3] (fun u3 wr=>∃pos col:Nat,u3=.int .i64 col∧ExpRel s w pos col wr) (fun _ wr=>s.size - wr.iterPos w.heap.size)
 case atStart=>
  refine ⟨0,0,rfl,?_,(Below.refl _ w).alloc (Nat.le_refl _) _,Nat.zero_le _,rfl,rfl,Nat.le_refl _⟩;have:=World.iter_heap w s 0;simpa using this
 case round=>
  obtain ⟨pos,col,rfl,hit,hbw,hps,hco,hre,hcp⟩:=hrel;have hsz:w.heap.size<wr.heap.size:=(Array.getElem?_eq_some_iff.1 hit).1;by_cases hp:pos<s.size
  ·have hnx:∀ty,(Instr.next (.pointer (some ⟨w.heap.size,0,none⟩)) true ty).run Tryz.prog wr=_:=fun ty=>Lib.run_next_any_at wr w.heap.size s pos ty hit hp;have hit2:=Lib.iterAt_heap wr w.heap.size s pos (pos+(Utf8.decode s pos).2) hit;have hbw2:=Lib.below_iterAt hbw (k:=w.heap.size) (by omega) s (pos+(Utf8.decode s pos).2);have hdl:=Lib.decodeL_drop s pos;have hwd:=Lib.decodeL_width (s.data.toList.drop pos);have hda:=drop_at s pos hp;obtain ⟨b,hb⟩:∃b,s[pos]=b:=⟨_,rfl⟩
   rw [hb]at hda;by_cases hbl:blankB b=true
   ·have hdec:Lib.decodeL (s.data.toList.drop pos)=(b.toNat,1):=by
     rw [hda];refine Lib.decodeL_ascii _ _ ?_;unfold blankB at hbl;simp at hbl;rcases hbl with rfl|rfl<;>decide
    rw [←hdl,hdec]at hnx hit2 hbw2;simp only at hnx hit2 hbw2;obtain ⟨wi,hwi⟩:∃wi,wr.iterAt w.heap.size s (pos+1)=wi:=⟨_,rfl⟩
    rw [hwi]at hit2 hbw2;have hre2:restB (s.data.toList.drop (pos+1))=restB s.data.toList:=by
     rw [←hre,hda];unfold restB;rw [List.dropWhile_cons_of_pos hbl]
    by_cases h32:b=32
    ·have k1:((b.toNat:Int)==32)=true:=(by rw [h32];rfl);have hco2:colL (s.data.toList.drop (pos+1)) (col+1)=indentL s.data.toList:=(by rw [←hco,hda,colL,if_pos h32]);have HR:=Lib.hid (show ExpRel s w (pos+1) (col+1) wi from ⟨hit2,hbw2,by omega,hco2,hre2,by omega⟩);clear hdl hwd hda hb hbl h32 hdec hbw hco hre hre2 hco2 hit2 hbw2;go_wp2_with fail;go_roundw;case rel=>exact ⟨pos+1,col+1,by go_num,HR.out⟩
     case measure=>simp only [World.iterPos,HR.out.1,hit];omega
    ·have h9:b=9:=(by unfold blankB at hbl;simp at hbl;rcases hbl with e|e;exact absurd e h32;exact e);have k1:((b.toNat:Int)==32)=false:=(by rw [h9];rfl);have k2:((b.toNat:Int)==9)=true:=(by rw [h9];rfl);have hco2:colL (s.data.toList.drop (pos+1)) (col+(4 - col % 4))=indentL s.data.toList:=(by rw [←hco,hda,colL,if_neg h32,if_pos h9]);have HR:=Lib.hid (show ExpRel s w (pos+1) (col+(4 - col % 4)) wi from ⟨hit2,hbw2,by omega,hco2,hre2,by omega⟩);clear hdl hwd hda hb hbl h32 h9 hdec hbw hco hre hre2 hco2 hit2 hbw2;go_wp2_with fail;go_roundw;case rel=>exact ⟨pos+1,col+(4 - col % 4),by go_num,HR.out⟩
     case measure=>simp only [World.iterPos,HR.out.1,hit];omega
   ·have hbl':blankB b=false:=(by simpa using hbl);have hwl:=Lib.decodeL_width (s.data.toList.drop pos);obtain ⟨r,n,hrn⟩:∃r n,Lib.decodeL (s.data.toList.drop pos)=(r,n):=⟨_,_,rfl⟩
    have hr:r≠32∧r≠9:=by
     by_cases hb2:b.toNat<128
     ·have:=Lib.decodeL_ascii b (s.data.toList.drop (pos+1)) hb2;rw [←hda,hrn]at this;have e:r=b.toNat:=congrArg (·.1) this;unfold blankB at hbl';simp at hbl';have e1:b.toNat≠32:=fun e=>hbl'.1 (UInt8.toNat.inj e);have e2:b.toNat≠9:=fun e=>hbl'.2 (UInt8.toNat.inj e);omega
     ·have:=decodeL_big b (s.data.toList.drop (pos+1)) (by omega);rw [←hda,hrn]at this;simp only at this;omega
    have k1:((r:Int)==32)=false:=(by simp;omega);have k2:((r:Int)==9)=false:=(by simp;omega);rw [←hdl,hrn]at hnx hit2 hbw2;simp only at hnx hit2 hbw2;obtain ⟨wi,hwi⟩:∃wi,wr.iterAt w.heap.size s (pos+n)=wi:=⟨_,rfl⟩
    rw [hwi]at hit2 hbw2;have hcol:col=indentL s.data.toList:=by
     rw [←hco,hda,colL];unfold blankB at hbl';simp at hbl';rw [if_neg hbl'.1,if_neg hbl'.2]
    have hrest:s.data.toList.drop pos=restB s.data.toList:=(by rw [←hre,hda,restB_black hbl',←hda]);obtain ⟨S,hS⟩:∃S:ByteArray,s.extract pos s.size=S:=⟨_,rfl⟩
    obtain ⟨P,hP⟩:∃P:ByteArray,(⟨(List.replicate col 32).toArray⟩:ByteArray)=P:=⟨_,rfl⟩
    have HC:=Lib.hid (show∀W,Calls Tryz.prog 206 #[.string ⟨#[32]⟩,.int .i64 col] W fun e w'=>e=.returned (.string P)∧Below W.heap.size W w' from fun W=>by
     refine (Tryz.strings_Repeat ⟨#[32]⟩ col W (by omega) (by show 1*col≤_;omega)).mono ?_;rintro e w' ⟨rfl,hb⟩;refine ⟨?_,hb⟩;rw [show (ByteArray.mk #[32]).data.toList=[32]from rfl,rep_eq,hP])
    have hV:Ending.returned (.string (P++S))=Ending.returned (.string ⟨(expandL s.data.toList).toArray⟩):=by
     congr 2;apply ByteArray.ext;rw [ByteArray.data_append,←hP,←hS];apply Array.ext';rw [Array.toList_append,Lib.extract_to_end,hrest];unfold expandL;rw [←hcol]
    have hPz:P.size=col:=(by rw [←hP,Lib.size_eq];simp);have hSz:S.size≤s.size:=(by rw [←hS];simp);have hPS:¬(9223372036854775807:Int)<(P.size:Int)+(S.size:Int):=(by omega);have HPZ:=Lib.hid hPz;clear hPz hSz;have HV:=Lib.hid (And.intro hV hbw2);have hk2:(pos:Int)≤(s.size:Int):=(by omega);have hk3:((pos:Int)).toNat=pos:=(by omega);have hk4:(0:Int)≤(pos:Int):=(by omega);clear hdl hwd hda hb hbl hbl' hwl hrn hr hbw hco hre hcol hrest hP hV hbw2 hit2;go_wp2_with fail;have hk5:¬(s.size:Int)<(pos:Int):=(by omega);have hk6:¬(pos:Int)<0:=by omega
    go_region_with (go_at_call 206;refine (HC.out _).mono ?_;rintro e w2 ⟨rfl,hb2⟩)
    all_goals
     have HB:=Lib.hid hb2;clear hb2;go_wp2_with fail;go_ret;exact ⟨HV.out.1,below_step HV.out.2.drew HB.out⟩
  ·have hnx:∀ty,(Instr.next (.pointer (some ⟨w.heap.size,0,none⟩)) true ty).run Tryz.prog wr=_:=fun ty=>Lib.run_next_end_at wr w.heap.size s pos ty hit hp;have hd:=drop_end s pos (by omega);rw [hd]at hco hre;have hV:(⟨(Lib.repeatL [32] col).toArray⟩:ByteArray)=⟨(expandL s.data.toList).toArray⟩:=by
    rw [rep_eq];unfold expandL;rw [←hco,←hre];simp [colL,restB]
   have HC:=Lib.hid (show∀W,Calls Tryz.prog 206 #[.string ⟨#[32]⟩,.int .i64 col] W fun e w'=>e=.returned (.string ⟨(expandL s.data.toList).toArray⟩)∧Below W.heap.size W w' from fun W=>by
    refine (Tryz.strings_Repeat ⟨#[32]⟩ col W (by omega) (by show 1*col≤_;omega)).mono ?_;rintro e w' ⟨rfl,hb⟩;exact ⟨by rw [show (ByteArray.mk #[32]).data.toList=[32]from rfl,hV],hb⟩)
   have HB:=Lib.hid hbw;clear hd hV hco hre hbw;go_wp2_with fail;refine (HC.out _).mono ?_;rintro e w2 ⟨rfl,hb2⟩;have HB2:=Lib.hid (below_step HB.out hb2);clear hb2;go_wp2_with fail;go_ret;exact ⟨rfl,HB2.out⟩
theorem restB_or (l:List UInt8):restB l=[]∨∃c t,restB l=c::t∧blankB c=false:=by
 unfold restB;induction l with
 |nil=>exact .inl rfl
 |cons c t ih=>
  by_cases hc:blankB c=true
  ·rw [List.dropWhile_cons_of_pos hc];exact ih
  ·rw [List.dropWhile_cons_of_neg hc];exact .inr ⟨c,t,rfl,by simpa using hc⟩
theorem trim_expand (s:List UInt8):Lib.trimLeftB (expandL s) 32=restB s:=by
 unfold Lib.trimLeftB expandL;rw [List.dropWhile_append_of_pos (fun x hx=>by rw [List.eq_of_mem_replicate hx];rfl)];rcases restB_or s with h|⟨c,t,h,hc⟩
 ·rw [h];rfl
 ·rw [h,List.dropWhile_cons_of_neg];unfold blankB at hc;simp at hc;simp [hc.1]
theorem expand_len (s:List UInt8):(expandL s).length=indentL s+(restB s).length:=by unfold expandL;simp
theorem col_le:∀(l:List UInt8) (c:Nat),colL l c≤c+4*l.length
 |[],c=>by simp [colL]
 |x::t,c=>by
  rw [colL];have h1:=col_le t (c+1);have h2:=col_le t (c+(4 - c % 4));rw [List.length_cons];split
  ·omega
  ·split
   ·omega
   ·omega
set_option maxHeartbeats 4000000 in
theorem indent_any (s:ByteArray) (w:World) (hs:s.size≤1000000):
  Calls Tryz.prog 138 #[.string s] w fun e w'=>e=.returned (.int .i64 (indentL s.data.toList))∧Below w.heap.size w w':=by
 have hx:=fun W=>expand_any s W hs;have hl:=expand_len s.data.toList;have ht:=trim_expand s.data.toList;have hc:=col_le s.data.toList 0;rw [←Lib.size_eq]at hc;change indentL s.data.toList≤_ at hc;have hrl:(restB s.data.toList).length≤s.size:=(by rw [Lib.size_eq];exact (List.dropWhile_sublist _).length_le);obtain ⟨X,hX⟩:∃X:ByteArray,X=⟨(expandL s.data.toList).toArray⟩:=⟨_,rfl⟩
 obtain ⟨Y,hY⟩:∃Y:ByteArray,Y=⟨(restB s.data.toList).toArray⟩:=⟨_,rfl⟩
 have hXl:expandL s.data.toList=X.data.toList:=(by rw [hX]);have hYl:restB s.data.toList=Y.data.toList:=(by rw [hY]);rw [←hX]at hx;rw [hXl,hYl]at ht;rw [hXl,hYl,←Lib.size_eq,←Lib.size_eq]at hl;rw [hYl,←Lib.size_eq]at hrl;obtain ⟨I,hI⟩:∃I,indentL s.data.toList=I:=⟨_,rfl⟩
 rw [hI]at hl hc⊢;have hT:∀W,Calls Tryz.prog 108 #[.string X,.string ⟨#[32]⟩] W fun e w'=>e=.returned (.string Y)∧Below W.heap.size W w':=fun W=>by
  refine (Tryz.strings_TrimLeft_one X 32 (by decide) W).mono ?_;rintro e w' ⟨rfl,rfl⟩;exact ⟨by rw [ht,←hYl,←hY],Below.refl _ _⟩
 have hw:wrap64 ((X.size:Int) - (Y.size:Int))=(I:Int):=by
  rw [IntWalk.wrap64_in _ (by omega)];omega
 have HX:=Lib.hid hx;have HT:=Lib.hid hT;have HW:=Lib.hid hw;clear hx ht hX hY hXl hYl hI hT hw hl hc hrl;go_enter Tryz.func138,Tryz.ntmps138
 go_wp2_with fail;refine (HX.out _).mono ?_;rintro e w2 ⟨rfl,b2⟩;have HB:=Lib.hid b2;clear b2;go_wp2_with fail;refine (HT.out _).mono ?_;rintro e w3 ⟨rfl,b3⟩;have HB3:=Lib.hid (below_step HB.out b3);clear b3;go_wp2_with fail;go_ret;refine ⟨?_,HB3.out⟩;show Ending.returned (Value.int IntKind.i64 (wrap64 ((X.size:Int) - (Y.size:Int))))=_;rw [HW.out]
set_option maxHeartbeats 4000000 in
theorem strip_any (s:ByteArray) (n:Nat) (w:World) (hs:s.size≤1000000) (hn:n≤1000000000):
  Calls Tryz.prog 205 #[.string s,.int .i64 n] w fun e w'=>e=.returned (.string ⟨(stripN s.data.toList n).toArray⟩)∧Below w.heap.size w w':=by
 have hx:=fun W=>expand_any s W hs;have hi:=fun W=>indent_any s W hs;have hl:=expand_len s.data.toList;obtain ⟨X,hX⟩:∃X:ByteArray,X=⟨(expandL s.data.toList).toArray⟩:=⟨_,rfl⟩
 have hXl:expandL s.data.toList=X.data.toList:=(by rw [hX]);rw [←hX]at hx;obtain ⟨I,hI⟩:∃I,indentL s.data.toList=I:=⟨_,rfl⟩
 rw [hI]at hi hl;rw [hXl,←Lib.size_eq]at hl;obtain ⟨m,hm⟩:∃m,min n I=m:=⟨_,rfl⟩
 obtain ⟨R,hR⟩:∃R:ByteArray,X.extract m X.size=R:=⟨_,rfl⟩
 have hv:(⟨(stripN s.data.toList n).toArray⟩:ByteArray)=R:=by
  apply ByteArray.ext;apply Array.ext';rw [←hR,Lib.extract_to_end];unfold stripN;rw [hI,hm,hXl]
 have hmi:min (n:Int) (I:Int)=(m:Int):=(by omega);have hmz:(m:Int)≤(X.size:Int):=(by omega);have HV:=Lib.hid hv;have HX:=Lib.hid hx;have HI:=Lib.hid hi;clear hv hx hi hl hX hXl hI hm;go_enter Tryz.func205,Tryz.ntmps205
 go_wp2_with fail;refine (HX.out _).mono ?_;rintro e w2 ⟨rfl,b2⟩;have HB:=Lib.hid b2;clear b2;go_wp2_with fail;refine (HI.out _).mono ?_;rintro e w3 ⟨rfl,b3⟩;have HB3:=Lib.hid (below_step HB.out b3);clear b3;go_wp2_with fail;go_ret;refine ⟨?_,HB3.out⟩;rw [HV.out];rfl
theorem strip_all (s:List UInt8):stripN s (indentL s)=restB s:=by
 unfold stripN expandL;rw [Nat.min_self,List.drop_left' (by simp)]
set_option maxHeartbeats 4000000 in
theorem mbehind_any (s:ByteArray) (w:World) (hs:s.size≤1000000):
  Calls Tryz.prog 169 #[.string s] w fun e w'=>e=.returned (.tuple #[.string ⟨(restB s.data.toList).toArray⟩,.int .i64 (indentL s.data.toList),.bool (mayIn s.data.toList)])∧Below w.heap.size w w':=by
 have hi:=fun W=>indent_any s W hs;have hc:=col_le s.data.toList 0;rw [←Lib.size_eq]at hc;change indentL s.data.toList≤_ at hc;have hst:=fun W=>strip_any s (indentL s.data.toList) W hs (by omega);rw [strip_all]at hst;obtain ⟨X,hX⟩:∃X:ByteArray,(⟨(restB s.data.toList).toArray⟩:ByteArray)=X:=⟨_,rfl⟩
 rw [hX]at hst;unfold mayIn;obtain ⟨I,hI⟩:∃I,indentL s.data.toList=I:=⟨_,rfl⟩
 rw [hI]at hi hst;rw [hX,hI];have hm:((I:Int)≤3)=(I≤3):=(by simp;omega);have HI:=Lib.hid hi;have HS:=Lib.hid hst;have HM:=Lib.hid hm;clear hi hst hX hI hc hm;go_enter Tryz.func169,Tryz.ntmps169
 go_wp2_with fail;refine (HI.out _).mono ?_;rintro e w2 ⟨rfl,b2⟩;have HB:=Lib.hid b2;clear b2;go_wp2_with fail;refine (HS.out _).mono ?_;rintro e w3 ⟨rfl,b3⟩;have HB3:=Lib.hid (below_step HB.out b3);clear b3;go_wp2_with fail;have hb:decide ((I:Int)≤3)=decide (I≤3):=(by simp only [HM.out]);refine bodyPost_ret (v:=.tuple #[.string X,.int .i64 I,.bool (decide ((I:Int)≤3))]) (by simp [results,Tryz.results169,go_sem]) rfl ⟨by rw [hb],HB3.out⟩
theorem row_at (l:List UInt8) (c:UInt8) (k:Nat) (hk:k≤l.length) (h:∀x∈l.take k,x=c) (h2:∀x,l[k]? =some x→x≠c):rowL l c=k:=by
 unfold rowL
 conv=>lhs;rw [←List.take_append_drop k l]
 rw [List.takeWhile_append_of_pos (fun x hx=>by rw [h x hx];simp),List.length_append,List.length_take,Nat.min_eq_left hk];cases hd:l.drop k with
 |nil=>rfl
 |cons x t=>
  have hx:l[k]? =some x:=(by rw [←List.head?_drop,hd];rfl);rw [List.takeWhile_cons_of_neg (by simpa using h2 x hx)];rfl
def RowRel (s:ByteArray) (c:UInt8) (w:World) (pos:Nat) (wr:World):Prop:=
 wr.heap[w.heap.size]? =some (.stringIter s pos)∧Below w.heap.size w wr∧pos≤s.size∧∀x∈s.data.toList.take pos,x=c
set_option maxHeartbeats 4000000 in
theorem mrow_any (s:ByteArray) (c:UInt8) (w:World) (hs:s.size≤1000000000) (hc:c.toNat<128):
  Calls Tryz.prog 170 #[.string s,.int .u8 c.toNat] w fun e w'=>e=.returned (.int .i64 (rowL s.data.toList c))∧Below w.heap.size w w':=by
 obtain ⟨K,hK⟩:∃K,rowL s.data.toList c=K:=⟨_,rfl⟩
 rw [hK];have HK:=Lib.hid hK;clear hK;go_enter Tryz.func170,Tryz.ntmps170
 go_wp2_with fail;go_loopw [5] (fun u5 wr=>∃pos:Nat,RowRel s c w pos wr) (fun _ wr=>s.size - wr.iterPos w.heap.size)
 case atStart=>
  refine ⟨0,?_,(Below.refl _ w).alloc (Nat.le_refl _) _,Nat.zero_le _,fun x hx=>by cases hx⟩;have:=World.iter_heap w s 0;simpa using this
 case round=>
  obtain ⟨pos,hit,hbw,hps,hal⟩:=hrel;have hsz:w.heap.size<wr.heap.size:=(Array.getElem?_eq_some_iff.1 hit).1;have HAL:=Lib.hid hal;clear hal;by_cases hp:pos<s.size
  ·have hnx:∀ty,(Instr.next (.pointer (some ⟨w.heap.size,0,none⟩)) true ty).run Tryz.prog wr=_:=fun ty=>Lib.run_next_any_at wr w.heap.size s pos ty hit hp;have hit2:=Lib.iterAt_heap wr w.heap.size s pos (pos+(Utf8.decode s pos).2) hit;have hbw2:=Lib.below_iterAt hbw (k:=w.heap.size) (by omega) s (pos+(Utf8.decode s pos).2);have hdl:=Lib.decodeL_drop s pos;have hda:=drop_at s pos hp;obtain ⟨b,hb⟩:∃b,s[pos]=b:=⟨_,rfl⟩
   rw [hb]at hda;have hget:s.data.toList[pos]? =some b:=(by rw [←List.head?_drop,hda];rfl);obtain ⟨r,n,hrn⟩:∃r n,Lib.decodeL (s.data.toList.drop pos)=(r,n):=⟨_,_,rfl⟩
   have hposI:(pos:Int)<(s.size:Int):=(by omega);rw [←hdl,hrn]at hnx hit2 hbw2;simp only at hnx hit2 hbw2;by_cases hbc:b=c
   ·have hn:n=1:=by
     have:=Lib.decodeL_ascii b (s.data.toList.drop (pos+1)) (by rw [hbc];exact hc);rw [←hda,hrn]at this;exact congrArg (·.2) this
    subst hn;have k1:((b.toNat:Int) !=(c.toNat:Int))=false:=(by rw [hbc];simp);have hal2:∀x∈s.data.toList.take (pos+1),x=c:=by
     rw [take_succ s pos hp,hb];intro x hx;rcases List.mem_append.1 hx with hx|hx
     ·exact HAL.out x hx
     ·rw [List.mem_singleton.1 hx,hbc]
    obtain ⟨wi,hwi⟩:∃wi,wr.iterAt w.heap.size s (pos+1)=wi:=⟨_,rfl⟩
    rw [hwi]at hit2 hbw2;have HR:=Lib.hid (show RowRel s c w (pos+1) wi from ⟨hit2,hbw2,by omega,hal2⟩);clear hdl hda hget hrn hbc hal2 hit2 hbw2 hbw;go_wp2_with fail;go_roundw;case rel=>exact ⟨pos+1,HR.out⟩
    case measure=>simp only [World.iterPos,HR.out.1,hit];omega
   ·have k1:((b.toNat:Int) !=(c.toNat:Int))=true:=by
     have:b.toNat≠c.toNat:=fun e=>hbc (UInt8.toNat.inj e);simp;omega
    have hKp:K=pos:=by
     rw [←HK.out];exact row_at _ _ _ (by rw [←Lib.size_eq];omega) HAL.out (fun x hx=>by rw [hget]at hx;rw [←Option.some.inj hx];exact hbc)
    obtain ⟨wi,hwi⟩:∃wi,wr.iterAt w.heap.size s (pos+n)=wi:=⟨_,rfl⟩
    rw [hwi]at hbw2;have HB:=Lib.hid hbw2;have HKP:=Lib.hid hKp;clear hdl hda hget hrn hbc hit2 hbw2 hbw hKp;go_wp2_with fail;go_ret;exact ⟨by rw [HKP.out];rfl,HB.out⟩
  ·have hnx:∀ty,(Instr.next (.pointer (some ⟨w.heap.size,0,none⟩)) true ty).run Tryz.prog wr=_:=fun ty=>Lib.run_next_end_at wr w.heap.size s pos ty hit hp;have hKp:K=s.size:=by
    have e:pos=s.size:=(by omega);rw [←HK.out,←e];exact row_at _ _ _ (by rw [←Lib.size_eq];omega) HAL.out (fun x hx=>by rw [List.getElem?_eq_none (by rw [←Lib.size_eq];omega)]at hx;cases hx)
   have HKP:=Lib.hid hKp;have HB:=Lib.hid hbw;clear hKp hbw;go_wp2_with fail;go_ret;exact ⟨by rw [HKP.out];rfl,HB.out⟩
theorem blank_contains (c:UInt8):([32,9]:List UInt8).contains c=blankB c:=by
 unfold blankB;rw [List.contains_cons,List.contains_cons];simp
theorem blank_fun:(fun c=>([32,9]:List UInt8).contains c)=blankB:=funext blank_contains
theorem trimLS_eq (l:List UInt8):Lib.trimLeftS l [32,9]=restB l:=by
 unfold Lib.trimLeftS restB;rw [blank_fun]
theorem trimRS_eq (l:List UInt8):Lib.trimRightS l [32,9]=rstripL blankB l:=by
 unfold Lib.trimRightS rstripL;rw [blank_fun]
theorem rstrip_cons (p:UInt8→Bool) (c:UInt8) (t:List UInt8):rstripL p (c::t)=if rstripL p t=[]∧p c=true then []else c::rstripL p t:=by
 unfold rstripL;rw [List.reverse_cons,List.dropWhile_append];cases h:t.reverse.dropWhile p with
 |nil=>
  by_cases hc:p c=true
  ·simp [hc,List.dropWhile]
  ·simp [hc,List.dropWhile]
 |cons x y=>simp
theorem rest_white {c:UInt8} {t:List UInt8} (h:blankB c=true):restB (c::t)=restB t:=by
 unfold restB;rw [List.dropWhile_cons_of_pos h]
theorem rest_rstrip:∀l:List UInt8,restB (rstripL blankB l)=rstripL blankB (restB l)
 |[]=>rfl
 |c::t=>by
  have ih:=rest_rstrip t;rw [rstrip_cons];by_cases hc:blankB c=true
  ·rw [rest_white hc,←ih];by_cases h:rstripL blankB t=[]
   ·rw [if_pos ⟨h,hc⟩,h]
   ·rw [if_neg (fun e=>h e.1),rest_white hc]
  ·have hc':blankB c=false:=(by simpa using hc);rw [if_neg (fun e=>hc e.2),restB_black hc',restB_black hc',rstrip_cons,if_neg (fun e=>hc e.2)]
theorem trimS_eq (l:List UInt8):Lib.trimS l [32,9]=trimB l:=by
 unfold Lib.trimS trimB;rw [trimRS_eq,trimLS_eq,rest_rstrip]
theorem rstrip_le (p:UInt8→Bool) (l:List UInt8):(rstripL p l).length≤l.length:=by
 unfold rstripL;rw [List.length_reverse];have:=(List.dropWhile_sublist (l:=l.reverse) p).length_le
 rwa [List.length_reverse]at this
theorem restB_le (l:List UInt8):(restB l).length≤l.length:=(List.dropWhile_sublist _).length_le
theorem trimB_le (l:List UInt8):(trimB l).length≤l.length:=Nat.le_trans (rstrip_le _ _) (restB_le l)
theorem rowL_le (l:List UInt8) (c:UInt8):rowL l c≤l.length:=(List.takeWhile_sublist _).length_le
theorem trR_any (s:ByteArray) (w:World) (hs:s.size≤1000000000):
  Calls Tryz.prog 80 #[.string s,.string ⟨#[32,9]⟩] w fun e w'=>e=.returned (.string ⟨(rstripL blankB s.data.toList).toArray⟩)∧Below w.heap.size w w':=by
 rw [←trimRS_eq];exact Any.strings_TrimRight_laid Tryz.lays162 (by kernel_rfl) s ⟨#[32,9]⟩ w (by omega) (by decide) (ascii_of_all (by decide))
theorem trL_any (s:ByteArray) (w:World):
  Calls Tryz.prog 108 #[.string s,.string ⟨#[32,9]⟩] w fun e w'=>e=.returned (.string ⟨(restB s.data.toList).toArray⟩)∧Below w.heap.size w w':=by
 rw [←trimLS_eq];exact Any.strings_TrimLeft_laid Tryz.lays161 (by kernel_rfl) s ⟨#[32,9]⟩ w (by decide) (ascii_of_all (by decide))
theorem trLR_any (s:ByteArray) (w:World) (hs:s.size≤1000000000):
  Calls Tryz.prog 171 #[.string s,.string ⟨#[32,9]⟩] w fun e w'=>e=.returned (.string ⟨(trimB s.data.toList).toArray⟩)∧Below w.heap.size w w':=by
 rw [←trimS_eq];exact trimB_any s w hs
theorem trR1_any (s:ByteArray) (c:UInt8) (hc:c.toNat<128) (w:World) (hs:s.size≤1000000000):
  Calls Tryz.prog 80 #[.string s,.string ⟨#[c]⟩] w fun e w'=>e=.returned (.string ⟨(rstripL (·==c) s.data.toList).toArray⟩)∧w'=w:=
 Tryz.strings_TrimRight_one s c hc w (by omega)
theorem any_contains (c:UInt8):∀S:List UInt8,S.any (fun b=>b.toNat==c.toNat)=S.contains c
 |[]=>rfl
 |a::S=>by
  rw [List.any_cons,List.contains_cons,any_contains c S];congr 1;rw [Bool.eq_iff_iff,beq_iff_eq,beq_iff_eq,UInt8.toNat_inj];exact eq_comm
theorem wrap32_byte (c:UInt8):wrap32 (c.toNat:Int)=(c.toNat:Int):=by
 have:=c.toNat_lt;unfold wrap32;omega
theorem cr_any (S:ByteArray) (hS:AllAscii S.data.toList) (hz:S.size≤1000000000) (c:UInt8) (w:World):
  Calls Tryz.prog 101 #[.string S,.int .i32 (wrap32 (c.toNat:Int))] w fun e w'=>e=.returned (.bool (S.data.toList.contains c))∧Below w.heap.size w w':=by
 rw [wrap32_byte];refine (containsRune_nat S c.toNat w hS hz (by have:=c.toNat_lt;omega)).mono ?_;rintro e w' ⟨rfl,hb⟩;rw [any_contains];exact ⟨rfl,hb⟩
theorem crB_any (c:UInt8) (w:World):
  Calls Tryz.prog 101 #[.string ⟨#[32,9]⟩,.int .i32 (wrap32 (c.toNat:Int))] w fun e w'=>e=.returned (.bool (blankB c))∧Below w.heap.size w w':=by
 rw [←blank_contains];exact cr_any ⟨#[32,9]⟩ (by unfold AllAscii;decide) (by decide) c w
theorem contains_index (l:List UInt8) (c:UInt8):decide (0≤Lib.indexByte l c)=l.contains c:=(Lib.contains_iff_indexByte l c).symm
theorem below_dr {B:Nat} {w W:World} (h:Below B w W) (n:Nat):Below B w (W.drewN n):=h.trans ⟨rfl,rfl,rfl,Nat.le_refl _,fun _ _=>rfl⟩
theorem head_get (R:ByteArray) (h:0<R.size):R.data.toList.head? =some R[0]:=by
 have:=drop_at R 0 h;rw [List.drop_zero]at this;rw [this];rfl
theorem head_nil (R:ByteArray) (h:R.size=0):R.data.toList=[]:=List.eq_nil_of_length_eq_zero (by rw [←Lib.size_eq];exact h)
theorem last_get (U:ByteArray) (h:0<U.size):U.data.toList.getLast? =some (U[U.size - 1]):=by
 rw [List.getLast?_eq_getElem?,←Lib.size_eq,Lib.data_getElem? U (U.size - 1) (by omega)]
theorem isn_byte {c d:UInt8} (h:c=d):((c.toNat:Int) !=(d.toNat:Int))=false:=by rw [h];simp
theorem non_byte {c d:UInt8} (h:c≠d):((c.toNat:Int) !=(d.toNat:Int))=true:=by
 have:c.toNat≠d.toNat:=fun e=>h (UInt8.toNat.inj e);simp;omega
end Go.Proofs.YtkphljggkajlkaaGreatDoor
