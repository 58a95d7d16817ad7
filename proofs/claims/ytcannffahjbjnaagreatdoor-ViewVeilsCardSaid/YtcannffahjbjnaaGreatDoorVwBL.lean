import Derived.Test.YtcannffahjbjnaaGreatDoorVwBB
import Derived.Shelf.Slices.Turned
import Derived.Test.YtcannffahjbjnaaGreatDoorVwBI
import Derived.Test.YtcannffahjbjnaaGreatDoorVwBJ
import Derived.Lib.LastIndexLaws
import Derived.Test.YtcannffahjbjnaaGreatDoorVwBK
set_option linter.unusedVariables false
set_option linter.unusedSimpArgs false
set_option maxRecDepth 100000
set_option maxHeartbeats 64000000
namespace Go.Proofs.YtcannffahjbjnaaGreatDoor
open Go.RowKit
def Ey (y:List UInt8):ByteArray:=⟨y.toArray⟩
theorem yk (z:List UInt8) (x:ByteArray):Ey z=x↔z=x.data.toList:=by
 unfold Ey;constructor
 ·intro h;rw [<- h]
 ·intro h;rw [h]
def jE (l:List (List UInt8)) (x:List UInt8):Int:=if l.contains x then ((l.idxOf x:Nat):Int)else -1
theorem mS (x:ByteArray):∀(l:List (List UInt8)) (i:Nat),Lib.idxFromS (l.map Ey) x i=if l.contains x.data.toList then ((i+l.idxOf x.data.toList:Nat):Int)else -1
 |[],i=>rfl
 |z::l,i=>by
  rw [List.map_cons,Lib.idxFromS,mS x l (i+1)];by_cases h:z=x.data.toList
  ·rw [if_pos ((yk z x).2 h),h];simp
  ·rw [if_neg (fun e=>h ((yk z x).1 e))];have h2:(x.data.toList==z)=false:=(by simpa using fun e=>h e.symm);have h3:(z==x.data.toList)=false:=(by simpa using h);rw [List.contains_cons,h2,Bool.false_or,List.idxOf_cons,h3];simp only [cond_false];split
   ·congr 1;omega
   ·rfl
theorem wI (l:List (List UInt8)) (x:ByteArray):Lib.idxOfS (l.map Ey) x=jE l x.data.toList:=by
 unfold Lib.idxOfS jE;rw [mS];simp
theorem kS {w:World} {g o cap:Nat} {l:List (List UInt8)} (bo:Option Addr) (bn bc:Nat) (x:ByteArray) (hR:bO w (some ⟨g,o,none⟩) l) (hl:l.length <= 1000):
  Calls Tryz.prog 45 #[.agg #[.slice (some ⟨g,o,none⟩) l.length cap,.slice bo bn bc],.string x] w fun e w'=>e=.returned (.int .i64 (jE l x.data.toList))∧Below w.heap.size w w':=by
 have hba:=(Below.refl w.heap.size w).alloc (Nat.le_refl _) (.cells #[.slice (some ⟨g,o,none⟩) l.length cap,.slice bo bn bc] 50);have hR2:=hR.below hba;have hx:=fun (L:List ByteArray) (hL:l.map Ey=L)=>Any.slices_Index_string Tryz.lays109 g o l.length cap L x (w.alloc (.cells #[.slice (some ⟨g,o,none⟩) l.length cap,.slice bo bn bc] 50)) (by rw [<- hL];simp) (by omega) (fun j hj=>by
  subst hL;have hj':j<l.length:=(by simpa using hj);have:=hR2.at' j l[j] (List.getElem?_eq_getElem hj');rw [this];simp [Ey,List.getD,hj'])
 have hx2:=hx _ rfl;rw [List.take_of_length_le (by simp),wI]at hx2;have HX:=zh hx2;have HB:=zh hba;clear hx hx2 hR2 hba hR;go_enter Tryz.func45,Tryz.ntmps45
 go_wp2_with fail;refine HX.out.mono ?_;rintro e w2 ⟨rfl,rfl⟩;have HB2:=HB;go_wp2_with fail;go_ret;exact ⟨rfl,HB2.out⟩
theorem gy.keep {B:Nat} {w w':World} {b n:Nat} {U D:List Nat} (h:gy B w b n U D) (hb:Below w.heap.size w w'):gy B w' b n U D:=by
 obtain ⟨h1,h2,⟨bu,u1,u2,u3⟩,⟨v,j1,j2⟩,⟨v2,m1,m2⟩,hs⟩:=h
 exact ⟨Nat.lt_of_lt_of_le h1 hb.size,h2,⟨bu,(hb.cell (p:=⟨b,0,none⟩) h1).trans u1,Nat.lt_of_lt_of_le u2 hb.size,fun i hi=>(hb.cell (p:=⟨bu,i,none⟩) u2).trans (u3 i hi)⟩,
  ⟨v,(hb.cell (p:=⟨b,2,none⟩) h1).trans j1,j2.below hb⟩,⟨v2,(hb.cell (p:=⟨b,3,none⟩) h1).trans m1,m2.below hb⟩,hs⟩
structure ig (w:World) (sb k:Nat):Prop where
 kb:k<4
 at':∃gn cap lb,w.heap[sb]? =some (.cells #[.slice (some ⟨gn,0,none⟩) aK.length cap,.slice none 0 0,.pointer (some ⟨lb,0,none⟩),.int .i64 (k:Int)] 100 (0,0))∧bO w (some ⟨gn,0,none⟩) aK∧gy 0 w lb 4 (gq 4 4 P4) (eX 4 4 P4)
theorem ig.below {w w':World} {sb k:Nat} (h:ig w sb k) (hb:Below w.heap.size w w'):ig w' sb k:=by
 obtain ⟨h1,gn,cap,lb,h2,h3,h4⟩:=h;exact ⟨h1,gn,cap,lb,(hb.block sb (Array.getElem?_eq_some_iff.1 h2).1).trans h2,h3.below hb,h4.keep hb⟩
theorem vA {w:World} {sb k:Nat} (h:ig w sb k) (x:ByteArray):
  Calls Tryz.prog 61 #[.pointer (some ⟨sb,0,none⟩),.string x] w fun e w'=>e=.returned (.bool ((dA k).unk x.data.toList))∧Below w.heap.size w w':=by
 obtain ⟨_,gn,cap,lb,h2,h3,h4⟩:=h;have c0:w.cell? ⟨sb,0,none⟩=some (.slice (some ⟨gn,0,none⟩) aK.length cap):=(by rw [cell_of_row w sb _ _ _ _ h2];rfl);have c1:w.cell? ⟨sb,1,none⟩=some (.slice none 0 0):=(by rw [cell_of_row w sb _ _ _ _ h2];rfl);have HI:=zh (kS (cap:=cap) none 0 0 x h3 (by decide));have hv:(dA k).unk x.data.toList=decide (jE aK x.data.toList<0):=by
  unfold dA jE;simp only;cases aK.contains x.data.toList
  ·rfl
  ·simp
 obtain ⟨n,hn⟩:∃n,aK.length=n:=⟨_,rfl⟩
 rw [hn]at c0 HI;obtain ⟨v,hv2⟩:∃v,jE aK x.data.toList=v:=⟨_,rfl⟩
 rw [hv2]at HI hv;have HV:=zh hv;clear hv hv2 hn h2 h3 h4;go_enter Tryz.func61,Tryz.ntmps61
 go_wp2_with fail;refine HI.out.mono ?_;rintro e w2 ⟨rfl,hb⟩;have HB:=zh hb;clear hb;go_wp2_with fail;go_ret;exact ⟨by rw [HV.out];try rfl,HB.out⟩
theorem uk:∀(l:List UInt8) (c:UInt8) (k:Nat),l[k]? =some c ->(∀j,j<k ->l[j]? ≠some c) ->Lib.indexByte l c=k
 |[],c,k,h,_=>by simp at h
 |b::t,c,0,h,_=>by
  have:b=c:=(by simpa using h);subst this;unfold Lib.indexByte;simp
 |b::t,c,k+1,h,hn=>by
  have hb:(b==c)=false:=by
   have:=hn 0 (by omega);simpa using this
  have ih:=uk t c k (by simpa using h) (fun j hj=>by have:=hn (j+1) (by omega);simpa using this);unfold Lib.indexByte;rw [hb,ih];simp;try omega
theorem rM:∀(l:List UInt8) (c:UInt8),(∀j:Nat,l[j]? ≠some c) ->Lib.indexByte l c= -1
 |[],c,_=>rfl
 |b::t,c,hn=>by
  have hb:(b==c)=false:=by
   have:=hn 0;simpa using this
  have ih:=rM t c (fun j=>by have:=hn (j+1);simpa using this);unfold Lib.indexByte;rw [hb,ih];simp
theorem zb {l:List UInt8} {c:UInt8} {k:Nat} (h:l[k]? =some c) (hn:∀j,j<k ->l[j]? ≠some c):az c l=(l.take k,l.drop (k+1),true):=by
 unfold az Lib.cut;rw [Lib.index_one,uk l c k h hn,if_pos (by omega)];rfl
theorem wk {l:List UInt8} {c:UInt8} (hn:∀j:Nat,l[j]? ≠some c):az c l=(l,[],false):=by
 unfold az Lib.cut;rw [Lib.index_one,rM l c hn,if_neg (by omega)]
theorem xu {l:List UInt8} {b:UInt8} {z:List UInt8} (hl:l=b::z) (hb:128 <= b.toNat):∀j x,j<(Lib.decodeL l).2 ->l[j]? =some x ->128 <= x.toNat:=by
 subst hl;intro j x hj hx;cases j with
 |zero=>simp at hx;subst hx;exact hb
 |succ j=>
  have hc:=(gZ b z).1 x;refine mc (hc ?_);have h1:z[j]? =some x:=(by simpa using hx);have h2:(z.take ((Lib.decodeL (b::z)).2 - 1))[j]? =some x:=(by rw [List.getElem?_take,if_pos (by omega)];exact h1);exact List.mem_of_getElem? h2
theorem CP (s:ByteArray) (w:World) (hs:s.size <= 1000000000):
  Calls Tryz.prog 100 #[.string s] w fun e w'=>e=.returned (.tuple #[.string ⟨(az 10 s.data.toList).1.toArray⟩,.string ⟨(az 10 s.data.toList).2.1.toArray⟩])∧Below w.heap.size w w':=by
 obtain ⟨cx,cy,cz,hcx⟩:∃x y z,az 10 s.data.toList=(x,y,z):=⟨_,_,_,rfl⟩
 rw [hcx];simp only;have HCX:=zh hcx;clear hcx;go_enter Tryz.func100,Tryz.ntmps100
 go_wp2_with fail;go_loopw [] (fun wr=>∃pos,wr.heap[w.heap.size]? =some (.stringIter s pos)∧Below w.heap.size w wr∧Hid (∀j,j<pos ->s.data.toList[j]? ≠some 10)) (fun wr=>s.size - wr.iterPos w.heap.size)
 case atStart=>
  refine ⟨0,?_,(Below.refl _ w).alloc (Nat.le_refl _) _,zh (fun j hj=>absurd hj (by omega))⟩;have:=World.iter_heap w s 0;simpa using this
 case round=>
  obtain ⟨pos,hit,hbw,HNO⟩:=hrel;by_cases hp:pos<s.size
  ·have hnx:∀ty,(Instr.next (.pointer (some ⟨w.heap.size,0,none⟩)) true ty).run Tryz.prog wr=_:=fun ty=>Lib.run_next_any_at wr w.heap.size s pos ty hit hp;have hit2:=Lib.iterAt_heap wr w.heap.size s pos (pos+(Utf8.decode s pos).2) hit;have hbw2:=Lib.below_iterAt hbw (k:=w.heap.size) (by omega) s (pos+(Utf8.decode s pos).2);have hdl:=Lib.decodeL_drop s pos;have hwd:=Lib.decodeL_width (s.data.toList.drop pos);have hrl:=Lib.decodeL_rune (s.data.toList.drop pos);have hpl:pos<s.data.toList.length:=(by rw [<- Lib.size_eq];exact hp);have hdr:=List.drop_eq_getElem_cons hpl;obtain ⟨b,hb⟩:∃b,s.data.toList[pos]=b:=⟨_,rfl⟩
   rw [hb]at hdr;have hbp:s.data.toList[pos]? =some b:=(by rw [<- hb];exact List.getElem?_eq_getElem hpl);have hne:s.data.toList.drop pos≠[]:=(by rw [hdr];simp);have hwl:=Lib.decodeL_le _ hne;rw [<- hdl]at hnx hit2 hbw2;have hby:(Lib.decodeL (s.data.toList.drop pos)).1=10↔b=10:=by
    by_cases h:b.toNat<128
    ·rw [hdr,Lib.decodeL_ascii b _ h];simp only;exact ⟨fun e=>UInt8.toNat_inj.1 e,fun e=>by rw [e];rfl⟩
    ·have:=gQ b (s.data.toList.drop (pos+1)) (by omega);rw [hdr];exact ⟨fun e=>by omega,fun e=>by rw [e]at h;exact absurd (by decide) h⟩
   have hstep:b≠10 ->∀j,j<pos+(Lib.decodeL (s.data.toList.drop pos)).2 ->s.data.toList[j]? ≠some 10:=fun hb10 j hj he=>by
    by_cases hjp:j<pos
    ·exact HNO.out j hjp he
    ·by_cases h:b.toNat<128
     ·rw [hdr,Lib.decodeL_ascii b _ h]at hj;have:j=pos:=(by simp only at hj;omega);rw [this,hbp]at he;exact hb10 (Option.some.inj he)
     ·have h1:=xu hdr (by omega) (j - pos) 10 (by omega) (by rw [List.getElem?_drop,show pos+(j - pos)=j by omega];exact he);exact absurd h1 (by decide)
   obtain ⟨r,n,hrn⟩:∃r n,Lib.decodeL (s.data.toList.drop pos)=(r,n):=⟨_,_,rfl⟩
   rw [hrn]at hnx hit2 hbw2 hwd hrl hwl hby hstep;simp only at hnx hit2 hbw2 hwd hrl hwl hby hstep;have hpn:pos+n <= s.size:=(by simp at hwl;omega);obtain ⟨wi,hwi⟩:∃wi,wr.iterAt w.heap.size s (pos+n)=wi:=⟨_,rfl⟩
   rw [hwi]at hit2 hbw2;have HST:=zh hstep;have HBP:=zh hbp;have HBY:=zh hby;clear hstep hbp hby hdl hdr hb hne hrn hrl hwl hpl;by_cases h10:r=10
   ·have k0:((r:Int)==10)=true:=(by rw [h10];rfl);have hc:=zb (by rw [HBP.out,HBY.out.1 h10]) HNO.out;obtain ⟨F,hF⟩:∃F:ByteArray,s.extract 0 pos=F:=⟨_,rfl⟩
    have hFl:s.data.toList.take pos=F.data.toList:=(by rw [<- hF,Lib.extract_data];simp);obtain ⟨G,hG⟩:∃G:ByteArray,s.extract (pos+1) s.size=G:=⟨_,rfl⟩
    have hGl:s.data.toList.drop (pos+1)=G.data.toList:=(by rw [<- hG,Lib.extract_to_end]);rw [HCX.out,hFl,hGl]at hc;simp only [Prod.mk.injEq]at hc;have HXY:=zh hc;have hw1:IntKind.i64.wrap ((pos:Int)+1)=(pos:Int)+1:=IntWalk.i64_in _ (by omega);have hp1:(pos:Int)+1 <= (s.size:Int):=(by omega);have HB:=zh hbw2;clear hc hFl hGl h10 hbw2 hbw;go_wp2_with fail;go_quiet (fail)
    go_wp2_with fail;refine bodyPost_ret (v:=.tuple #[.string F,.string G]) (by simp [results,Tryz.results100,go_sem,hF,hG]) rfl ⟨by rw [HXY.out.1,HXY.out.2.1,Lib.mk_data,Lib.mk_data],HB.out.trans ((bN _ _).mono HB.out.size)⟩
   ·have k0:((r:Int)==10)=false:=(by simp;omega);have HN:=zh (HST.out (fun e=>h10 (HBY.out.2 e)));clear h10;go_wp2_with fail;go_roundw;case rel=>exact ⟨pos+n,hit2,hbw2,HN⟩
    case measure=>simp only [World.iterPos,hit2,hit];omega
  ·have hnx:∀ty,(Instr.next (.pointer (some ⟨w.heap.size,0,none⟩)) true ty).run Tryz.prog wr=_:=fun ty=>Lib.run_next_end_at wr w.heap.size s pos ty hit hp;have hc:=wk (l:=s.data.toList) (c:=10) (fun j he=>by
    have:=(List.getElem?_eq_some_iff.1 he).1;rw [<- Lib.size_eq]at this;exact HNO.out j (by omega) he)
   rw [HCX.out]at hc;simp only [Prod.mk.injEq]at hc;have HXY:=zh hc;have HB:=zh hbw;clear hc hbw;go_wp2_with fail;refine bodyPost_ret (v:=.tuple #[.string s,.string ⟨#[]⟩]) (by simp [results,Tryz.results100,go_sem]) rfl ⟨by rw [HXY.out.1,HXY.out.2.1,Lib.mk_data],HB.out⟩
theorem BU (s:ByteArray) (w:World) (h1:1 <= s.size) (h2:s.size <= 20) (hlow:∀b∈s.data.toList,97 <= b.toNat∧b.toNat <= 122):
  Calls Tryz.prog 82 #[.string s] w fun e w'=>e=.returned (.bool true)∧Below w.heap.size w w':=by
 have HLOW:=zh hlow;clear hlow;go_enter Tryz.func82,Tryz.ntmps82
 go_wp2_with fail;go_loopw [] (fun wr=>∃pos,wr.heap[w.heap.size]? =some (.stringIter s pos)∧Below w.heap.size w wr) (fun wr=>s.size - wr.iterPos w.heap.size)
 case atStart=>
  refine ⟨0,?_,(Below.refl _ w).alloc (Nat.le_refl _) _⟩;have:=World.iter_heap w s 0;simpa using this
 case round=>
  obtain ⟨pos,hit,hbw⟩:=hrel;by_cases hp:pos<s.size
  ·have hnx:∀ty,(Instr.next (.pointer (some ⟨w.heap.size,0,none⟩)) true ty).run Tryz.prog wr=_:=fun ty=>Lib.run_next_any_at wr w.heap.size s pos ty hit hp;have hit2:=Lib.iterAt_heap wr w.heap.size s pos (pos+(Utf8.decode s pos).2) hit;have hbw2:=Lib.below_iterAt hbw (k:=w.heap.size) (by omega) s (pos+(Utf8.decode s pos).2);have hdl:=Lib.decodeL_drop s pos;have hpl:pos<s.data.toList.length:=(by rw [<- Lib.size_eq];exact hp);have hdr:=List.drop_eq_getElem_cons hpl;obtain ⟨b,hb⟩:∃b,s.data.toList[pos]=b:=⟨_,rfl⟩
   rw [hb]at hdr;have hbl:=HLOW.out b (by rw [<- hb];exact List.getElem_mem hpl);rw [hdr,Lib.decodeL_ascii b _ (by omega)]at hdl;rw [<- hdl]at hnx hit2 hbw2;simp only at hnx hit2 hbw2;have q1:decide (((b.toNat:Nat):Int)<97)=false:=decide_eq_false (by omega);have q2:decide ((122:Int)<((b.toNat:Nat):Int))=false:=decide_eq_false (by omega);obtain ⟨r,hr⟩:∃r,b.toNat=r:=⟨_,rfl⟩
   rw [hr]at hnx q1 q2;obtain ⟨wi,hwi⟩:∃wi,wr.iterAt w.heap.size s (pos+1)=wi:=⟨_,rfl⟩
   rw [hwi]at hit2 hbw2;clear hdl hdr hb hbl hr hpl;go_wp2_with fail;go_roundw;case rel=>exact ⟨pos+1,hit2,hbw2⟩
   case measure=>simp only [World.iterPos,hit2,hit];omega
  ·have hnx:∀ty,(Instr.next (.pointer (some ⟨w.heap.size,0,none⟩)) true ty).run Tryz.prog wr=_:=fun ty=>Lib.run_next_end_at wr w.heap.size s pos ty hit hp;have HB:=zh hbw;have hne:¬s=(⟨#[]⟩:ByteArray):=fun h=>by subst h;exact absurd h1 (by decide)
   have hne2:¬s.toList=[]:=fun h=>hne ((Lib.bytes_beq_iff _ _).1 (by rw [h];first|decide|simp [ByteArray.toList,ByteArray.toList.loop]|(unfold ByteArray.toList;unfold ByteArray.toList.loop;rfl)));have h20:(s.size:Int) <= 20:=(by omega);clear hbw;go_wp2_with fail;go_ret;exact ⟨by simp [hne2,h2,h20],HB.out⟩
end Go.Proofs.YtcannffahjbjnaaGreatDoor
namespace Go.Proofs.YtcannffahjbjnaaGreatDoor
open Go.RowKit Go
structure fF (R:World ->Prop) where
 w:World
 h:R w
theorem aE {P:Program} {R:World ->Prop} {id:Nat} {Q:Exit ->Act ->World ->Prop} {a:Act} {w:World} {l:List Oper} (hm:P.follows .mixedOrders=true) (hB:Region.lexB .any l.toArray=true) (hR:R w.drew)
  (h:wpQuiet P l.toArray (fun w'=>∃i:fF R,w'=i.w) (fun a'=>∀w',(∃i:fF R,w'=i.w) ->Q .normal a' w') l a):(Code.region id l.toArray true).wp P Q a w:=
 wp_region_quiet (C:=fun w'=>∃i:fF R,w'=i.w) hm hB ⟨⟨_,hR⟩,rfl⟩ (by simpa using h)
theorem ek {P:Program} {W:World} {f:FuncId} {args:Array Value} {i:fF (Below W.heap.size W)} {v:Value}
  (h:Calls P f args i.w fun e w'=>e=.returned v∧Below i.w.heap.size i.w w'):Calls P f args i.w fun e w''=>e=.returned v∧∃j:fF (Below W.heap.size W),w''=j.w:=
 h.mono fun _ w' ⟨he,hb⟩=>⟨he,⟨w',i.h.trans (hb.mono i.h.size)⟩,rfl⟩
theorem ay {W:World} {g o:Nat} {v:Value} (h:W.cell? ⟨g,o,none⟩=some v) (i:fF (Below W.heap.size W)):i.w.cell? ⟨g,o,none⟩=some v:=
 (i.h.cell (World.block_lt_of_cell? _ _ h)).trans h
end Go.Proofs.YtcannffahjbjnaaGreatDoor
namespace Go.Proofs.YtcannffahjbjnaaGreatDoor
open Go.RowKit
theorem gw.setPos {B b:Nat} {w:World} {lv:Value} {pos d:Nat} {ov:Value} {out:List aI} (h:gw B b w lv pos d ov out) (p:Nat):gw B b (w.setCell ⟨b,1,none⟩ (.int .i64 (p:Int))) lv p d ov out:=
 ⟨heap_setCell_same w b 1 _ _ _ h.heap,aF (a:=⟨b,1,none⟩) h.own h.heap (by decide) _,h.base⟩
theorem Kp.setPos {B b:Nat} {ov:Value} {w0 w:World} (h:Kp B b ov w0 w) (hb:B <= b) (u:Value):Kp B b ov w0 (w.setCell ⟨b,1,none⟩ u):=
 ⟨h.below.setCell (p:=⟨b,1,none⟩) hb _,fun k hk hkb hne=>(Below.heap_setCell w ⟨b,1,none⟩ u k hkb).trans (h.keep k hk hkb hne)⟩
theorem Kp.step {B b:Nat} {ov:Value} {w0 w w':World} (h:Kp B b ov w0 w) (hb:Below w.heap.size w w') (hB:B <= w0.heap.size):Kp B b ov w0 w':=
 ⟨h.below.trans (hb.mono (Nat.le_trans hB h.below.size)),fun k hk hkb hne=>(hb.block k (Nat.lt_of_lt_of_le hk h.below.size)).trans (h.keep k hk hkb hne)⟩
def wt (s:List UInt8):Nat:=s.length+3*s.count 9
def fD (ls:List (List UInt8)):Nat:=(ls.map fun x=>wt x+1).sum
theorem tC {ls:List (List UInt8)} {x:List UInt8} (h:x∈ls):wt x+1 <= fD ls:=by
 unfold fD;induction ls with
 |nil=>cases h
 |cons y ls ih=>
  rw [List.map_cons,List.sum_cons];rcases List.mem_cons.1 h with rfl|h
  ·omega
  ·have:=ih h;omega
theorem pD (ls:List (List UInt8)):ls.length <= fD ls:=by
 unfold fD;induction ls with
 |nil=>simp
 |cons y ls ih=>rw [List.map_cons,List.sum_cons,List.length_cons];omega
theorem fB (ls:List (List UInt8)) (n:Nat):fD (ls.take n) <= fD ls:=by
 unfold fD;induction ls generalizing n with
 |nil=>simp
 |cons y ls ih=>
  cases n with
  |zero=>simp
  |succ n=>rw [List.take_succ_cons,List.map_cons,List.map_cons,List.sum_cons,List.sum_cons];have:=ih n;omega
theorem eD (ls:List (List UInt8)) (n:Nat):fD (ls.drop n) <= fD ls:=by
 unfold fD;induction ls generalizing n with
 |nil=>simp
 |cons y ls ih=>
  cases n with
  |zero=>simp
  |succ n=>rw [List.drop_succ_cons,List.map_cons,List.sum_cons];have:=ih n;omega
theorem qi (ls:List (List UInt8)):(cY ls).length <= fD ls:=by
 unfold fD cY wt;induction ls with
 |nil=>simp
 |cons y ls ih=>rw [List.flatMap_cons,List.length_append,List.map_cons,List.sum_cons];simp only [List.length_append,List.length_cons,List.length_nil];omega
theorem yg {ls:List (List UInt8)} {x:List UInt8} (h:x∈ls):x.length <= fD ls:=by
 have:=tC h;unfold wt at this;omega
structure eF (B b:Nat) (w:World) (lao:Option Addr) (lcap:Nat) (ls:List (List UInt8)) (pos d:Nat) (ov:Value) (out:List aI):Prop where
 pr:gw B b w (.slice lao ls.length lcap) pos d ov out
 lr:bO w lao ls
 lb:∀ad,lao=some ad ->ad.block<B
 lt:fD ls <= 1000000
 lc:ls.length <= lcap
 ps:pos <= ls.length+1
 dp:d <= 12
 ol:out.length <= 100000000
theorem eF.below {B b:Nat} {w w':World} {lao:Option Addr} {lcap:Nat} {ls:List (List UInt8)} {pos d:Nat} {ov:Value} {out:List aI} (h:eF B b w lao lcap ls pos d ov out) (hb:Below w.heap.size w w'):eF B b w' lao lcap ls pos d ov out:=
 ⟨h.pr.below hb,h.lr.below hb,h.lb,h.lt,h.lc,h.ps,h.dp,h.ol⟩
theorem eF.hB {B b:Nat} {w:World} {lao:Option Addr} {lcap:Nat} {ls:List (List UInt8)} {pos d:Nat} {ov:Value} {out:List aI} (h:eF B b w lao lcap ls pos d ov out):B <= w.heap.size:=by
 have:=h.pr.base;have:=h.pr.lt;omega
theorem eF.setPos {B b:Nat} {w:World} {lao:Option Addr} {lcap:Nat} {ls:List (List UInt8)} {pos d:Nat} {ov:Value} {out:List aI} (h:eF B b w lao lcap ls pos d ov out) (p:Nat) (u:Value) (hu:u=.int .i64 (p:Int)) (hp:p <= ls.length+1):eF B b (w.setCell ⟨b,1,none⟩ u) lao lcap ls p d ov out:=
 ⟨by rw [hu];exact h.pr.setPos p,h.lr.belowB ((Below.refl B w).setCell (p:=⟨b,1,none⟩) h.pr.base _) h.lb,h.lb,h.lt,h.lc,hp,h.dp,h.ol⟩
theorem eF.line {B b:Nat} {w:World} {g o:Nat} {lcap:Nat} {ls:List (List UInt8)} {pos d:Nat} {ov:Value} {out:List aI} (h:eF B b w (some ⟨g,o,none⟩) lcap ls pos d ov out) (i:Nat) (hi:i<ls.length):
  ∃X:ByteArray,ls[i]? =some X.data.toList∧w.cell? ⟨g,o+i,none⟩=some (.string X)∧X.size <= 1000000:=by
 obtain ⟨x,hx⟩:∃x,ls[i]? =some x:=⟨_,List.getElem?_eq_getElem hi⟩
 refine ⟨⟨x.toArray⟩,hx,h.lr.at' i x hx,?_⟩;have:=yg (List.mem_of_getElem? hx);have:=h.lt;rw [Lib.size_eq];simp only;omega
theorem eF.ll {B b:Nat} {w:World} {lao:Option Addr} {lcap:Nat} {ls:List (List UInt8)} {pos d:Nat} {ov:Value} {out:List aI} (h:eF B b w lao lcap ls pos d ov out):ls.length <= 1000000:=by
 have:=pD ls;have:=h.lt;omega
theorem xW {B b:Nat} {w:World} {lv:Value} {pos d:Nat} {ov:Value} {out:List aI} (s:ByteArray) (h:gw B b w lv pos d ov out) (hs:s.size <= 1000000) (hd:d <= 12):
  Calls Tryz.prog 160 #[.pointer (some ⟨b,0,none⟩),.string s] w fun e w'=>e=.returned (.bool (dX d s.data.toList))∧Below w.heap.size w w':=by
 have hq:=fun W=>sl s W hs;have hv:dX d s.data.toList=((dK s.data.toList).2&&decide (d<12)):=rfl;obtain ⟨q,is,hqi⟩:∃q is,dK s.data.toList=(q,is):=⟨_,_,rfl⟩
 rw [hqi]at hq hv;simp only at hq hv;have HQ:=zh hq;have HV:=zh hv;have HH:=zh h;clear hq hv hqi h;go_enter Tryz.func160,Tryz.ntmps160
 go_wp2_with fail;refine (HQ.out _).mono ?_;rintro e w2 ⟨rfl,b2⟩;obtain ⟨_,_,c2,_⟩:=(HH.out.below b2).cells;have HB:=zh b2;clear b2;cases is
 ·have HF:=zh (show dX d s.data.toList=false by rw [HV.out];rfl);go_wp2_with fail;go_ret;exact ⟨by rw [HF.out];try rfl,HB.out⟩
 ·have HF:=zh (show dX d s.data.toList=decide ((d:Int)<12) by
   rw [HV.out];by_cases h:d<12
   ·rw [decide_eq_true h,decide_eq_true (by omega)];rfl
   ·rw [decide_eq_false h,decide_eq_false (by omega)];rfl)
  go_wp2_with fail;go_ret;exact ⟨by rw [HF.out];try rfl,HB.out⟩
theorem A4 {B b:Nat} {w:World} {lv:Value} {pos d:Nat} {ov:Value} {out:List aI} (s:ByteArray) (h:gw B b w lv pos d ov out) (hs:s.size <= 1000000) (hd:d <= 12):
  Calls Tryz.prog 162 #[.pointer (some ⟨b,0,none⟩),.string s] w fun e w'=>e=.returned (.bool (ep d s.data.toList))∧Below w.heap.size w w':=by
 have hq:=fun W=>mW s W hs;have hv:ep d s.data.toList=((aH s.data.toList).2.2.2.2&&decide (d<11)):=rfl;obtain ⟨q1,q2,q3,q4,is,hqi⟩:∃a b c d e,aH s.data.toList=(a,b,c,d,e):=⟨_,_,_,_,_,rfl⟩
 rw [hqi]at hq hv;simp only at hq hv;have HQ:=zh hq;have HV:=zh hv;have HH:=zh h;clear hq hv hqi h;go_enter Tryz.func162,Tryz.ntmps162
 go_wp2_with fail;refine (HQ.out _).mono ?_;rintro e w2 ⟨rfl,b2⟩;obtain ⟨_,_,c2,_⟩:=(HH.out.below b2).cells;have HB:=zh b2;clear b2;cases is
 ·have HF:=zh (show ep d s.data.toList=false by rw [HV.out];rfl);go_wp2_with fail;go_ret;exact ⟨by rw [HF.out];try rfl,HB.out⟩
 ·have HF:=zh (show ep d s.data.toList=decide ((d:Int)<11) by
   rw [HV.out];by_cases h:d<11
   ·rw [decide_eq_true h,decide_eq_true (by omega)];rfl
   ·rw [decide_eq_false h,decide_eq_false (by omega)];rfl)
  go_wp2_with fail;go_ret;exact ⟨by rw [HF.out];try rfl,HB.out⟩
def pj (ls:List (List UInt8)):Nat:=(ls.takeWhile fun x=> !aJ x).length
theorem zZ {ls:List (List UInt8)} {s:List UInt8} {i:Nat} (h:ls[i]? =some s) (hb:aJ s=true):pj (ls.drop i)=0:=by
 obtain ⟨hi,rfl⟩:=List.getElem?_eq_some_iff.1 h;unfold pj;rw [List.drop_eq_getElem_cons hi,List.takeWhile_cons_of_neg (by rw [hb];simp)];rfl
theorem DL {ls:List (List UInt8)} {s:List UInt8} {i:Nat} (h:ls[i]? =some s) (hb:aJ s=false):pj (ls.drop i)=pj (ls.drop (i+1))+1:=by
 obtain ⟨hi,rfl⟩:=List.getElem?_eq_some_iff.1 h;unfold pj;rw [List.drop_eq_getElem_cons hi,List.takeWhile_cons_of_pos (by rw [hb];rfl)];rfl
theorem Cj (ls:List (List UInt8)):pj (ls.drop ls.length)=0:=by rw [List.drop_length];rfl
theorem E4 {B b:Nat} {w:World} {g o:Nat} {lcap:Nat} {ls:List (List UInt8)} {pos d:Nat} {ov:Value} {out:List aI} (h:eF B b w (some ⟨g,o,none⟩) lcap ls pos d ov out) (hp0:pos<ls.length):
  Calls Tryz.prog 165 #[.pointer (some ⟨b,0,none⟩)] w fun e w'=>e=.returned (.tuple #[])∧ct B b w (.slice (some ⟨g,o,none⟩) ls.length lcap) d ov (pos+pj (ls.drop pos)) (out++[⟨8,d,0,false,cY ((ls.drop pos).take (pj (ls.drop pos))),[]⟩]) w':=by
 obtain ⟨N,hN⟩:∃N,pj (ls.drop pos)=N:=⟨_,rfl⟩
 rw [hN];have HN:=zh hN;have HH:=zh h;obtain ⟨c0,c1,c2,c3⟩:=h.pr.cells;have hps:pos <= ls.length:=(by omega);have hll:=h.ll;clear hN;go_enter Tryz.func165,Tryz.ntmps165
 go_wp2_with fail;go_loopw [] (fun wr=>∃i:Nat,pos <= i∧i <= ls.length∧eF B b wr (some ⟨g,o,none⟩) lcap ls i d ov out∧Kp B b ov w wr∧i+pj (ls.drop i)=pos+N) (fun wr=>ls.length - (intOf ((wr.cell? ⟨b,1,none⟩).getD undef)).toNat)
 case atStart=>exact ⟨pos,Nat.le_refl _,hps,HH.out,Kp.refl _ _ _ _,by rw [HN.out]⟩
 case round=>
  obtain ⟨i,hpi,hil,hin,hkp,hrn⟩:=hrel;clear c0 c1 c2 c3;obtain ⟨c0,c1,c2,c3⟩:=hin.pr.cells;by_cases hlt:i<ls.length
  ·have hltI:(i:Int)<(ls.length:Int):=(by omega);obtain ⟨X,hx,hcl,hXz⟩:=hin.line i hlt;have hbl:=fun W=>dZ X W (by omega);obtain ⟨bv,hbv⟩:∃b,aJ X.data.toList=b:=⟨_,rfl⟩
   rw [hbv]at hbl;have HBL:=zh hbl;have HBV:=zh hbv;have HIN:=zh hin;have HKP:=zh hkp;have HRN:=zh hrn;have HX:=zh hx;clear hbl hbv hin hkp hrn hx;have hd:decide ((i:Int)<(ls.length:Int))=true:=decide_eq_true hltI;have f1:=HIN.out.pr.frozen 1;have ne:Nonempty (fF (Below wr.heap.size wr)):=⟨⟨wr,Below.refl _ _⟩⟩
   have e0:=ay c0;have e1:=ay c1;have e2:=ay hcl;clear c0 c1 c2 c3 hcl;cases bv
   ·go_wp2_with fail;refine aE (R:=Below (wr).heap.size wr) (by kernel_rfl) (by kernel_rfl) (Below.refl _ _).drew ?_;repeat (go_big_quiet_step ((go_at_call 154;exact ek (HBL.out _))))
    refine wpQuiet_nil ?_;rintro w2 ⟨nq,hnq⟩;have hb2:Below (wr).heap.size wr w2:=(by rw [hnq];exact nq.h);clear hnq nq;clear e0 e1 e2 ne;have hrn:=DL HX.out HBV.out;have HRN2:=zh (show i+1+pj (ls.drop (i+1))=pos+N by have:=HRN.out;omega);have HI2:=zh (HIN.out.below hb2);have HK2:=zh (HKP.out.step hb2 HH.out.hB);obtain ⟨c0,c1,c2,c3⟩:=HI2.out.pr.cells;have f1:=HI2.out.pr.frozen 1;clear hb2 hrn c0 c2 c3;go_wp2_with fail;go_roundw;case rel=>exact ⟨i+1,by omega,by omega,HI2.out.setPos (i+1) _ (by go_num) (by omega),HK2.out.setPos HH.out.pr.base _,HRN2.out⟩
    case measure=>
     have h1:=(HI2.out.setPos (i+1) (.int .i64 ((i:Int)+1)) (by go_num) (by omega)).pr.cells.2.1;have h2:=HIN.out.pr.cells.2.1;simp only [h1,h2,Option.getD_some,intOf];omega
   ·go_wp2_with fail;refine aE (R:=Below (wr).heap.size wr) (by kernel_rfl) (by kernel_rfl) (Below.refl _ _).drew ?_;repeat (go_big_quiet_step ((go_at_call 154;exact ek (HBL.out _))))
    refine wpQuiet_nil ?_;rintro w2 ⟨nq,hnq⟩;have hb2:Below (wr).heap.size wr w2:=(by rw [hnq];exact nq.h);clear hnq nq;clear e0 e1 e2 ne;have hr0:=zZ HX.out HBV.out;have hN2:i=pos+N:=(by have:=HRN.out;rw [hr0]at this;omega);have HN2:=zh hN2;have HI2:=zh (HIN.out.below hb2);have HK2:=zh (HKP.out.step hb2 HH.out.hB);obtain ⟨c0,c1,c2,c3⟩:=HI2.out.pr.cells;clear hb2 hN2 hr0;have hlc:=HI2.out.lc;have d0:w2.drew.cell? ⟨b,0,none⟩=some (.slice (some ⟨g,o,none⟩) ls.length lcap):=c0;have d1:w2.drew.cell? ⟨b,1,none⟩=some (.int .i64 (i:Int)):=c1;clear c0 c1 c2 c3;have k1:i <= lcap:=(by omega);have k2:¬lcap=pos:=(by omega);have hsub:=(HI2.out.lr.below (Below.refl _ w2).drew).sub pos i (by omega) hpi;have hjt:(cY ((ls.drop pos).take (i - pos))).length <= 1000000:=by
     have h1:=qi ((ls.drop pos).take (i - pos));have h2:=fB (ls.drop pos) (i - pos);have h3:=eD ls pos;have h4:=HI2.out.lt;omega
    have hjl:((ls.drop pos).take (i - pos)).length=i - pos:=(by simp;omega);have hj:=mY (some ⟨g,o+pos,none⟩) (lcap - pos) _ _ hsub (by omega) (by omega);rw [hjl]at hj;have hjn:i - pos=N:=(by have:=HN2.out;omega);have HJ:=zh hj;have HJT:=zh hjt;have HJN:=zh hjn;clear hsub hjt hjl hj hjn;go_wp2_with fail;refine aQ (S:=fun j W'=>([4,9].contains j=true) ->W'.cell? ⟨b,0,none⟩=some (.slice (some ⟨g,o,none⟩) ls.length lcap)∧W'.cell? ⟨b,1,none⟩=some (.int .i64 (i:Int))) (by kernel_rfl) ?_;refine bC 0 38 ?_;simp only [List.set];refine bC 1 39 ?_;simp only [List.set];refine bC 2 40 ?_;simp only [List.set];refine bC 3 41 ?_;simp only [List.set];refine bC 5 43 ?_;simp only [List.set];refine bC 6 44 ?_;simp only [List.set];refine bC 7 45 ?_;simp only [List.set];refine bC 8 46 ?_;simp only [List.set];refine ga 4 42 ?_ rfl [9] (by kernel_rfl) (fun _ _ _ h=>h) (by decide) rfl (Or.inl ⟨by rfl,?_⟩) ⟨d0,d1⟩ ?_;rotate_left
    ·rintro w' ⟨s0,s1⟩;go_simp<;>with_reducible rfl
    simp only [List.set];refine ga 9 47 ?_ rfl [9] (by kernel_rfl) (fun _ _ _ h=>h) (by decide) rfl (Or.inl ⟨by rfl,?_⟩) ⟨d0,d1⟩ ?_;rotate_left
    ·rintro w' ⟨s0,s1⟩;go_simp<;>with_reducible rfl
    simp only [List.set];refine bC 10 48 ?_;simp only [List.set];refine ac (i:=11) (by kernel_rfl) rfl (fun K' hK=>?_);have HKK:=zh hK;clear hK;go_simp
    refine HJ.out.mono ?_;rintro e w3 ⟨rfl,b3⟩;have hb3:Below w2.heap.size w2 w3:=((Below.refl _ w2).drew).trans b3;have HI3:=zh (HI2.out.below hb3);have HK3:=zh (HK2.out.step hb3 HH.out.hB);clear b3 hb3 d0 d1;go_wp2_with fail;refine HKK.out _ _ ⟨fun h=>absurd h (by decide),?_⟩;clear HKK K';try simp only [Act.put,List.setIfInBounds_toArray,List.set_cons_zero,List.set_cons_succ,List.getElem_toArray,List.getElem_cons_zero,List.getElem_cons_succ]
    refine bC 12 50 ?_;simp only [List.set];refine ac (i:=13) (by kernel_rfl) rfl (fun K' hK=>?_);have HKK:=zh hK;clear hK;go_simp
    refine (pR B b (.slice (some ⟨g,o,none⟩) ls.length lcap) ov i d out ⟨8,0,0,false,cY ((ls.drop pos).take (i - pos)),[]⟩ w3 HI3.out.pr (by have:=HI3.out.ol;omega)).mono ?_;rintro e w4 ⟨rfl,hp4⟩;have HP4:=zh (ct.trans HK3.out (Or.inl rfl) hp4);clear hp4;go_wp2_with fail;refine HKK.out _ _ ⟨fun h=>absurd h (by decide),?_⟩;clear HKK K';try simp only [Act.put,List.setIfInBounds_toArray,List.set_cons_zero,List.set_cons_succ,List.getElem_toArray,List.getElem_cons_zero,List.getElem_cons_succ]
    refine aP (by kernel_rfl) ?_ _;go_wp2_with fail
    go_end0
    refine ⟨rfl,?_⟩;have hp:=HP4.out;rw [HJN.out,HN2.out]at hp;exact hp
  ·have hie:i=ls.length:=(by omega);have HIN:=zh hin;have HKP:=zh hkp;have HRN:=zh hrn;have ne:Nonempty (fF (Below wr.heap.size wr)):=⟨⟨wr,Below.refl _ _⟩⟩
   have e0:=ay c0;have e1:=ay c1;have hd:decide ((i:Int)<(ls.length:Int))=false:=(by rw [hie];simp);have hr0:pj (ls.drop i)=0:=(by rw [hie];exact Cj ls);have HR0:=zh hr0;clear hin hkp hrn c0 c1 c2 c3 hr0 hie;go_wp2_with fail;refine aE (R:=Below (wr).heap.size wr) (by kernel_rfl) (by kernel_rfl) (Below.refl _ _).drew ?_;repeat (go_big_quiet_step (fail))
   refine wpQuiet_nil ?_;rintro w2 ⟨nq,hnq⟩;have hb2:Below (wr).heap.size wr w2:=(by rw [hnq];exact nq.h);clear hnq nq;clear e0 e1 ne;have hr0:=HR0.out;have hN2:i=pos+N:=(by have:=HRN.out;rw [hr0]at this;omega);have HN2:=zh hN2;have HI2:=zh (HIN.out.below hb2);have HK2:=zh (HKP.out.step hb2 HH.out.hB);obtain ⟨c0,c1,c2,c3⟩:=HI2.out.pr.cells;clear hb2 hN2 hr0;have hlc:=HI2.out.lc;have d0:w2.drew.cell? ⟨b,0,none⟩=some (.slice (some ⟨g,o,none⟩) ls.length lcap):=c0;have d1:w2.drew.cell? ⟨b,1,none⟩=some (.int .i64 (i:Int)):=c1;clear c0 c1 c2 c3;have k1:i <= lcap:=(by omega);have k2:¬lcap=pos:=(by omega);have hsub:=(HI2.out.lr.below (Below.refl _ w2).drew).sub pos i (by omega) hpi;have hjt:(cY ((ls.drop pos).take (i - pos))).length <= 1000000:=by
    have h1:=qi ((ls.drop pos).take (i - pos));have h2:=fB (ls.drop pos) (i - pos);have h3:=eD ls pos;have h4:=HI2.out.lt;omega
   have hjl:((ls.drop pos).take (i - pos)).length=i - pos:=(by simp;omega);have hj:=mY (some ⟨g,o+pos,none⟩) (lcap - pos) _ _ hsub (by omega) (by omega);rw [hjl]at hj;have hjn:i - pos=N:=(by have:=HN2.out;omega);have HJ:=zh hj;have HJT:=zh hjt;have HJN:=zh hjn;clear hsub hjt hjl hj hjn;go_wp2_with fail;refine aQ (S:=fun j W'=>([4,9].contains j=true) ->W'.cell? ⟨b,0,none⟩=some (.slice (some ⟨g,o,none⟩) ls.length lcap)∧W'.cell? ⟨b,1,none⟩=some (.int .i64 (i:Int))) (by kernel_rfl) ?_;refine bC 0 38 ?_;simp only [List.set];refine bC 1 39 ?_;simp only [List.set];refine bC 2 40 ?_;simp only [List.set];refine bC 3 41 ?_;simp only [List.set];refine bC 5 43 ?_;simp only [List.set];refine bC 6 44 ?_;simp only [List.set];refine bC 7 45 ?_;simp only [List.set];refine bC 8 46 ?_;simp only [List.set];refine ga 4 42 ?_ rfl [9] (by kernel_rfl) (fun _ _ _ h=>h) (by decide) rfl (Or.inl ⟨by rfl,?_⟩) ⟨d0,d1⟩ ?_;rotate_left
   ·rintro w' ⟨s0,s1⟩;go_simp<;>with_reducible rfl
   simp only [List.set];refine ga 9 47 ?_ rfl [9] (by kernel_rfl) (fun _ _ _ h=>h) (by decide) rfl (Or.inl ⟨by rfl,?_⟩) ⟨d0,d1⟩ ?_;rotate_left
   ·rintro w' ⟨s0,s1⟩;go_simp<;>with_reducible rfl
   simp only [List.set];refine bC 10 48 ?_;simp only [List.set];refine ac (i:=11) (by kernel_rfl) rfl (fun K' hK=>?_);have HKK:=zh hK;clear hK;go_simp
   refine HJ.out.mono ?_;rintro e w3 ⟨rfl,b3⟩;have hb3:Below w2.heap.size w2 w3:=((Below.refl _ w2).drew).trans b3;have HI3:=zh (HI2.out.below hb3);have HK3:=zh (HK2.out.step hb3 HH.out.hB);clear b3 hb3 d0 d1;go_wp2_with fail;refine HKK.out _ _ ⟨fun h=>absurd h (by decide),?_⟩;clear HKK K';try simp only [Act.put,List.setIfInBounds_toArray,List.set_cons_zero,List.set_cons_succ,List.getElem_toArray,List.getElem_cons_zero,List.getElem_cons_succ]
   refine bC 12 50 ?_;simp only [List.set];refine ac (i:=13) (by kernel_rfl) rfl (fun K' hK=>?_);have HKK:=zh hK;clear hK;go_simp
   refine (pR B b (.slice (some ⟨g,o,none⟩) ls.length lcap) ov i d out ⟨8,0,0,false,cY ((ls.drop pos).take (i - pos)),[]⟩ w3 HI3.out.pr (by have:=HI3.out.ol;omega)).mono ?_;rintro e w4 ⟨rfl,hp4⟩;have HP4:=zh (ct.trans HK3.out (Or.inl rfl) hp4);clear hp4;go_wp2_with fail;refine HKK.out _ _ ⟨fun h=>absurd h (by decide),?_⟩;clear HKK K';try simp only [Act.put,List.setIfInBounds_toArray,List.set_cons_zero,List.set_cons_succ,List.getElem_toArray,List.getElem_cons_zero,List.getElem_cons_succ]
   refine aP (by kernel_rfl) ?_ _;go_wp2_with fail
   go_end0
   refine ⟨rfl,?_⟩;have hp:=HP4.out;rw [HJN.out,HN2.out]at hp;exact hp
theorem pF (c:UInt8) (t:List UInt8):wt (c::t)=wt t+1+if c=9 then 3 else 0:=by
 unfold wt;rw [List.length_cons,List.count_cons];by_cases h:c=9
 ·simp [h];omega
 ·simp [h];omega
theorem nH:∀(l:List UInt8) (n:Nat),wt (l.drop n) <= wt l
 |[],n=>by simp
 |c::t,0=>by simp
 |c::t,n+1=>by rw [List.drop_succ_cons,pF];have:=nH t n;omega
theorem xK:∀(l:List UInt8) (c:Nat),fR l c+wt (ak l) <= c+wt l
 |[],c=>by simp [fR,ak]
 |x::t,c=>by
  rw [fR,pF];by_cases h32:x=32
  ·have:=xK t (c+1);rw [if_pos h32,jr (by rw [h32];rfl)];omega
  ·by_cases h9:x=9
   ·have:=xK t (c+(4 - c % 4));rw [if_neg h32,if_pos h9,jr (by rw [h9];rfl),if_pos h9];omega
   ·rw [if_neg h32,if_neg h9,gV (by unfold aM;simp [h32,h9]),pF];omega
theorem Eu (a b:List UInt8):wt (a++b)=wt a+wt b:=by
 unfold wt;rw [List.length_append,List.count_append];omega
theorem AD (n:Nat):wt (List.replicate n 32)=n:=by
 unfold wt;rw [List.length_replicate,List.count_replicate];simp
theorem vF (s:List UInt8) (n:Nat):wt (cB s n) <= wt s:=by
 unfold cB dC;refine Nat.le_trans (nH _ _) ?_;rw [Eu,AD];have:=xK s 0;unfold bz;omega
theorem DU (f:List UInt8 ->List UInt8) (hf:∀x,wt (f x) <= wt x) (ls:List (List UInt8)):fD (ls.map f) <= fD ls:=by
 unfold fD;induction ls with
 |nil=>simp
 |cons y ls ih=>
  simp only [List.map_cons,List.sum_cons,List.map_map]at ih⊢;have:=hf y;omega
theorem ah.snoc {B:Nat} {w:World} {v:Value} {l:List (List UInt8)} {x:List UInt8} {X:ByteArray} (h:w.ownsRow B 9 1 v (l.length+1) (l.map fV++[.string X])) (hx:X.data.toList=x):ah B w v (l++[x]):=by
 unfold ah;rw [List.length_append,List.map_append,List.map_cons,List.map_nil,<- hx];unfold fV;rw [Lib.mk_data];exact h
theorem rs {B b:Nat} {w:World} {lv:Value} {pos d:Nat} {ov:Value} {out:List aI} (info:ByteArray) (ao:Option Addr) (cap:Nat) (l:List (List UInt8)) (n:Nat) (h:gw B b w lv pos d ov out) (hol:out.length <= 100000000) (hR:bO w ao l) (hT:fD l <= 1000000) (hn:n <= 1000000000):
  Calls Tryz.prog 191 #[.pointer (some ⟨b,0,none⟩),.string info,.slice ao l.length cap,.int .i64 n] w fun e w'=>e=.returned (.tuple #[])∧ct B b w lv d ov pos (out++[pT d info.data.toList l n]) w':=by
 obtain ⟨is,hsi,hs0,hs1,hs2⟩:=info_parts ft;have hll:=pD l;have HH:=zh h;have HR:=zh hR;have HT:=zh hT;have hB:B <= w.heap.size:=(by have:=h.base;have:=h.lt;omega);have hln:l.length <= 1000000:=(by omega);clear h hR hll;go_enter Tryz.func191,Tryz.ntmps191
 go_wp2_with fail;go_loopw [8,13] (fun u8 u13 wr=>∃i:Nat,i <= l.length∧u13=.int .i64 i∧ah w.heap.size wr u8 ((l.take i).map (cB · n))∧Below w.heap.size w wr) (fun _ u13 _=>l.length - (intOf u13).toNat)
 case atStart=>exact ⟨0,Nat.zero_le _,rfl,World.ownsRow_nil _ _ _ _,Below.refl _ _⟩
 case round=>
  obtain ⟨i,hi,rfl,hown,hbw⟩:=hrel;by_cases hlt:i<l.length
  ·obtain ⟨x,hx⟩:∃x,l[i]? =some x:=⟨_,List.getElem?_eq_getElem hlt⟩
   obtain ⟨g,o,rfl⟩:=bO.addr HR.out (by omega);have hcl:=bO.at' (HR.out.below hbw) i x hx;obtain ⟨X,hX⟩:∃X:ByteArray,(⟨x.toArray⟩:ByteArray)=X:=⟨_,rfl⟩
   have hXl:x=X.data.toList:=(by rw [<- hX]);rw [hX]at hcl;have hXz:X.size <= 1000000:=(by rw [Lib.size_eq,<- hXl];have:=yg (List.mem_of_getElem? hx);have:=HT.out;omega);have hst:=fun W=>oc X n W hXz hn;obtain ⟨Y,hY⟩:∃Y:ByteArray,(⟨(cB X.data.toList n).toArray⟩:ByteArray)=Y:=⟨_,rfl⟩
   have hYl:Y.data.toList=cB x n:=(by rw [<- hY,hXl]);rw [hY]at hst;have HST:=zh hst;have HYL:=zh hYl;have hlen:((l.take i).map (cB · n)).length=i:=(by simp;omega);obtain ⟨L,hL⟩:∃L,(l.take i).map (cB · n)=L:=⟨_,rfl⟩
   rw [hL]at hown hlen;have HL:=zh hL;have HLEN:=zh hlen;have HOWN:=zh hown;have HBW:=zh hbw;have HX:=zh hx;clear hL hlen;clear hst hY hYl hX hXl hown hbw hx;go_wp2_with fail;refine (HST.out _).mono ?_;rintro e w2 ⟨rfl,b2⟩;have HO2:=zh (ae HOWN.out b2);have HB2:=zh (aa HBW.out b2);clear b2
   go_wp2_with (first
    |(at_builtin;refine wpList_append_own _ rfl _ _ 22 rfl w.heap.size 9 is (.string ⟨#[]⟩) 1 16 Tryz.underlying22 hsi hs0 hs1 hs2 rfl (by decide) _ _ _ rfl (World.ownsRow.alloc HO2.out _) ⟨w2.heap.size,0,none⟩ 1 1 [.string Y] rfl rfl ?c1 ?c2 ?c3 ?c4 ?c5 ?_))
   case c1=>exact aL _ _ _ _ rfl
   case c2=>intro u hu;simp at hu;rcases hu with rfl;rfl
   case c3=>rw [HLEN.out];unfold maxLen;omega
   case c4=>rw [HLEN.out];omega
   case c5=>have:=HB2.out.size;simp;omega
   intro v4 w4 hown4 hgrow _;have hg1:=(World.grownBy_alloc w2 (.cells #[.string Y] 9) u8.ownBlock).trans hgrow;have hO4:=ah.snoc hown4 HYL.out;have hB4:=HB2.out.grown hg1 HB2.out.size (fun j hj=>(World.ownsRow.lt HO2.out j hj).1);have HO4:=zh (show ah w.heap.size w4 v4 ((l.take (i+1)).map (cB · n)) by
    rw [oe l i x HX.out,List.map_append,HL.out];exact hO4)
   have HB4:=zh hB4;clear hgrow hg1 hO4 hB4 hown4;go_wp2_with fail;go_roundw;case rel=>exact ⟨i+1,by omega,by go_num,HO4.out,HB4.out⟩
   case measure=>simp [intOf];omega
  ·obtain rfl:i=l.length:=(by omega);rw [List.take_length]at hown;obtain ⟨vao,vc,hv,hvr,_⟩:=ab hown;subst hv;have hjt:(cY (l.map (cB · n))).length <= 1000000:=by
    have h1:=qi (l.map (cB · n));have h2:=DU (cB · n) (fun x=>vF x n) l;have:=HT.out;omega
   have hjl:(l.map (cB · n)).length=l.length:=(by simp);have hj:=mY vao vc _ _ hvr (by omega) (by omega);rw [hjl]at hj⊢;have HJ:=zh hj;have HI2:=zh (HH.out.below hbw);have HK2:=zh (Kp.of_below (b:=b) (ov:=ov) hbw hB);clear hj hjt hjl hvr hown hbw;go_wp2_with fail;refine HJ.out.mono ?_;rintro e w3 ⟨rfl,b3⟩;have HI3:=zh (HI2.out.below b3);have HK3:=zh (HK2.out.step b3 hB);clear b3;go_wp2_with fail;refine (pR B b lv ov pos d out ⟨6,0,0,false,cY (l.map (cB · n)),info.data.toList⟩ w3 HI3.out (by omega)).mono ?_;rintro e w4 ⟨rfl,hp4⟩;have HP4:=zh (ct.trans HK3.out (Or.inl rfl) hp4);clear hp4;go_wp2_with fail
   go_end0
   exact ⟨rfl,HP4.out⟩
theorem qR {w:World} {ao:Option Addr} {cap:Nat} {l:List (List UInt8)} (X:ByteArray) (hR:bO w ao l) (hc:ao=none ->cap=0) (hl:l.length <= 1000000):
  Calls Tryz.prog 20 #[.slice ao l.length cap,.string X] w fun e w'=>∃v,e=.returned v∧ah w.heap.size w' v (l++[X.data.toList])∧Below w.heap.size w w':=by
 obtain ⟨is,hsi,hs0,hs1,hs2⟩:=info_parts ft;have HR:=zh hR;have HC:=zh hc;clear hR hc;go_enter Tryz.func20,Tryz.ntmps20
 go_wp2_with (first
  |(at_builtin;refine dS w rfl _ _ 22 rfl w.heap.size 9 is (.string ⟨#[]⟩) 1 16 Tryz.underlying22 hsi hs0 hs1 hs2 rfl (by decide) _ 0 [] rfl (World.ownsRow_nil _ _ _ _) ao l.length cap (l.map fV) rfl HR.out HC.out (kC l) ?c3 ?c4 ?c5 ?_))
 case c3=>unfold maxLen;omega
 case c4=>omega
 case c5=>exact Nat.le_refl _
 intro v1 w1 hown1 hgrow1;have hB1:=(Below.refl w.heap.size w).grown hgrow1 (Nat.le_refl _) (fun j hj=>by simp [Value.ownBlock]at hj);have HO1:=zh hown1;have HB1:=zh hB1;obtain ⟨vao,vc,hv,_⟩:=ab hown1;subst hv;clear hown1 hgrow1 hB1
 go_wp2_with (first
  |(at_builtin;refine wpList_append_own _ rfl _ _ 22 rfl w.heap.size 9 is (.string ⟨#[]⟩) 1 16 Tryz.underlying22 hsi hs0 hs1 hs2 rfl (by decide) _ _ _ rfl (World.ownsRow.alloc HO1.out _) ⟨w1.heap.size,0,none⟩ 1 1 [.string X] rfl rfl ?d1 ?d2 ?d3 ?d4 ?d5 ?_))
 case d1=>exact aL _ _ _ _ rfl
 case d2=>intro u hu;simp at hu;rcases hu with rfl;rfl
 case d3=>unfold maxLen;omega
 case d4=>omega
 case d5=>have:=HB1.out.size;simp;omega
 intro v4 w4 hown4 hgrow4 _;have hg1:=(World.grownBy_alloc w1 (.cells #[.string X] 9) (Value.slice vao l.length vc).ownBlock).trans hgrow4;have hB4:=HB1.out.grown hg1 HB1.out.size (fun j hj=>(World.ownsRow.lt HO1.out j hj).1);have HO4:=zh (ah.snoc hown4 rfl);have HB4:=zh hB4;clear hown4 hgrow4 hg1 hB4;go_wp2_with fail;go_ret;exact ⟨v4,rfl,HO4.out,HB4.out⟩
theorem gy.mono {B:Nat} {w:World} {b n:Nat} {U D:List Nat} (h:gy B w b n U D):gy 0 w b n U D:=by
 obtain ⟨v,j1,j2⟩:=h.join;obtain ⟨v2,m1,m2⟩:=h.meet;exact ⟨h.lt,Nat.zero_le _,h.up,⟨v,j1,j2.mono (Nat.zero_le _)⟩,⟨v2,m1,m2.mono (Nat.zero_le _)⟩,h.small⟩
theorem z7 (a c:Int) (n:Nat) (w:World) (nb:Nat) (hc:w.cell? ⟨nb,0,none⟩=some (.int .i64 (n:Int))) (ha:0 <= a∧a<n) (hc2:0 <= c∧c<n) (hne:a≠c):
  Calls Tryz.prog 84 #[.agg #[.int .i64 a,.int .i64 c],.pointer (some ⟨nb,0,none⟩)] w fun e w'=>e=.returned (.bool false)∧Below w.heap.size w w':=by
 have hba:=(Below.refl w.heap.size w).alloc (Nat.le_refl _) (.cells #[.int .i64 a,.int .i64 c] 93);have hc':=(hba.cell (p:=⟨nb,0,none⟩) (World.block_lt_of_cell? _ _ hc)).trans hc;have h1:(a==c)=false:=(by simpa using hne);have HB:=zh hba;clear hba hc;have h2:decide (min a c<0)=false:=decide_eq_false (by omega);have h3:decide ((n:Int) <= max a c)=false:=decide_eq_false (by omega);clear ha hc2 hne;go_enter Tryz.func84,Tryz.ntmps84
 go_wp2_with fail;go_ret;exact ⟨by simp [h2,h3],HB.out⟩
theorem Du (n nb:Nat) (P:Nat ->Int×Int) {w:World} {g o m cp:Nat} (hp:fM w (some ⟨g,o,none⟩) m P) (hc:w.cell? ⟨nb,0,none⟩=some (.int .i64 (n:Int))) (hm:m <= 1000) (hP:∀i,i<m ->(0 <= (P i).1∧(P i).1<n)∧(0 <= (P i).2∧(P i).2<n)∧(P i).1≠(P i).2):
  Calls Tryz.prog 111 #[.slice (some ⟨g,o,none⟩) m cp,.func (.func 84) #[] #[.pointer (some ⟨nb,0,none⟩)]] w fun e w'=>e=.returned (.int .i64 (-1))∧Below w.heap.size w w':=by
 have HPP:=zh hP;have HQ:=zh hp;have HC:=zh hc;clear hP hp hc;go_enter Tryz.func111,Tryz.ntmps111
 go_wp2_with fail;go_loopw [8] (fun u8 wr=>∃i:Nat,u8=.int .i64 (i:Int)∧i <= m∧Below w.heap.size w wr) (fun u8 _=>m - (intOf u8).toNat)
 case atStart=>exact ⟨0,by go_num,Nat.zero_le _,Below.refl _ _⟩
 case round=>
  obtain ⟨i,rfl,hi,hb⟩:=hrel;have HB:=zh hb;by_cases hlt:i<m
  ·obtain ⟨b2,off,e1,e2,e3⟩:=ez hb HQ.out;have e1':=e1 (by omega);obtain ⟨rfl,rfl⟩:g=b2∧o=off:=(by simpa using e1');obtain ⟨d0,d1⟩:=e3 i hlt;obtain ⟨p1,p2,p3⟩:=HPP.out i hlt;have hn':=(hb.cell (p:=⟨nb,0,none⟩) (World.block_lt_of_cell? _ _ HC.out)).trans HC.out;have HR:=zh (z7 (P i).1 (P i).2 n wr nb hn' p1 p2 p3);obtain ⟨x,hx⟩:∃x,(P i).1=x:=⟨_,rfl⟩
   obtain ⟨y,hy⟩:∃y,(P i).2=y:=⟨_,rfl⟩
   rw [hx]at d0 HR;rw [hy]at d1 HR;clear e1 e2 e3 e1' p1 p2 p3 hx hy hn' hb;go_wp2_with fail;refine HR.out.mono ?_;rintro e w2 ⟨rfl,hb2⟩;have HB2:=zh (aa HB.out hb2);clear hb2;go_wp2_with fail;go_roundw;case rel=>exact ⟨i+1,by go_num,by omega,HB2.out⟩
   case measure=>simp [intOf];omega
  ·clear hb;go_wp2_with fail;go_ret;exact ⟨rfl,HB.out⟩
theorem Bd (n nb:Nat) (P:Nat ->Int×Int) {w:World} {g o m cp:Nat} (hp:fM w (some ⟨g,o,none⟩) m P) (hc:w.cell? ⟨nb,0,none⟩=some (.int .i64 (n:Int))) (hm:m <= 1000) (hP:∀i,i<m ->(0 <= (P i).1∧(P i).1<n)∧(0 <= (P i).2∧(P i).2<n)∧(P i).1≠(P i).2):
  Calls Tryz.prog 83 #[.slice (some ⟨g,o,none⟩) m cp,.func (.func 84) #[] #[.pointer (some ⟨nb,0,none⟩)]] w fun e w'=>e=.returned (.bool false)∧Below w.heap.size w w':=by
 have HI:=zh (Du n nb P (cp:=cp) hp hc hm hP);clear hp hc hP;go_enter Tryz.func83,Tryz.ntmps83
 go_wp2_with fail;refine HI.out.mono ?_;rintro e w2 ⟨rfl,hb⟩;have HB:=zh hb;clear hb;go_wp2_with fail;go_ret;exact ⟨rfl,HB.out⟩
theorem Cq {w:World} {gn on g o m cp ncap:Nat} {l:List (List UInt8)} (P:Nat ->Int×Int) (hR:bO w (some ⟨gn,on,none⟩) l) (hl:1 <= l.length∧l.length <= 64) (hlow:∀x∈l,1 <= x.length∧x.length <= 20∧∀b∈x,97 <= b.toNat∧b.toNat <= 122) (hix:∀(i:Nat) x,l[i]? =some x ->jE l x=(i:Int))
  (hp:fM w (some ⟨g,o,none⟩) m P) (hm:m <= 1000) (hP:∀i,i<m ->(0 <= (P i).1∧(P i).1<l.length)∧(0 <= (P i).2∧(P i).2<l.length)∧(P i).1≠(P i).2):
  Calls Tryz.prog 43 #[.agg #[.slice (some ⟨gn,on,none⟩) l.length ncap,.slice (some ⟨g,o,none⟩) m cp]] w fun e w'=>e=.returned (.bool true)∧Below w.heap.size w w':=by
 have hb1:=(Below.refl w.heap.size w).alloc (Nat.le_refl _) (.cells #[.slice (some ⟨gn,on,none⟩) l.length ncap,.slice (some ⟨g,o,none⟩) m cp] 50);have hb2:=hb1.alloc hb1.size (.cells #[.int .i64 (l.length:Int)] 3);have HR:=zh hR;have HLW:=zh hlow;have HIX:=zh hix;have HP:=zh (And.intro hp hP);have HB2:=zh hb2;clear hR hlow hix hp hP hb1 hb2;obtain ⟨n,hn⟩:∃n,l.length=n:=⟨_,rfl⟩
 rw [hn]at hl HB2 HP;have HN:=zh hn;have hl1:(1:Int) <= (n:Int):=(by omega);have hl2:(n:Int) <= 64:=(by omega);rw [hn];clear hn;have d0:((w.alloc (.cells #[.slice (some ⟨gn,on,none⟩) n ncap,.slice (some ⟨g,o,none⟩) m cp] 50)).alloc (.cells #[.int .i64 (n:Int)] 3)).heap[w.heap.size]? =some (.cells #[.slice (some ⟨gn,on,none⟩) n ncap,.slice (some ⟨g,o,none⟩) m cp] 50 (0,0)):=by
  have hb:=(Below.refl (w.heap.size+1) (w.alloc (.cells #[.slice (some ⟨gn,on,none⟩) n ncap,.slice (some ⟨g,o,none⟩) m cp] 50))).alloc (by simp) (.cells #[.int .i64 (n:Int)] 3);exact (hb.block w.heap.size (by omega)).trans (heap_alloc_new w _)
 have d1:((w.alloc (.cells #[.slice (some ⟨gn,on,none⟩) n ncap,.slice (some ⟨g,o,none⟩) m cp] 50)).alloc (.cells #[.int .i64 (n:Int)] 3)).heap[w.heap.size+1]? =some (.cells #[.int .i64 (n:Int)] 3 (0,0)):=by
  have:=heap_alloc_new (w.alloc (.cells #[.slice (some ⟨gn,on,none⟩) n ncap,.slice (some ⟨g,o,none⟩) m cp] 50)) (.cells #[.int .i64 (n:Int)] 3)
  rwa [World.size_alloc]at this
 have HD:=zh (And.intro d0 d1);clear d0 d1;go_enter Tryz.func43,Tryz.ntmps43
 go_upto_region 4 with (fail)
 have hs0:w.heap.size+2 <= ((w.alloc (.cells #[.slice (some ⟨gn,on,none⟩) n ncap,.slice (some ⟨g,o,none⟩) m cp] 50)).alloc (.cells #[.int .i64 (n:Int)] 3)).heap.size:=(by simp);generalize ((w.alloc (.cells #[.slice (some ⟨gn,on,none⟩) n ncap,.slice (some ⟨g,o,none⟩) m cp] 50)).alloc (.cells #[.int .i64 (n:Int)] 3))=W at HD HB2 hs0⊢;have c0:W.cell? ⟨w.heap.size,0,none⟩=some (.slice (some ⟨gn,on,none⟩) n ncap):=(by rw [cell_of_row W w.heap.size _ _ _ _ HD.out.1];rfl);go_wp2_with fail;clear c0;go_loopw [18] (fun u18 wr=>∃i:Nat,u18=.int .i64 (i:Int)∧i <= n∧Below W.heap.size W wr) (fun u18 _=>n - (intOf u18).toNat)
 case atStart=>exact ⟨0,by go_num,Nat.zero_le _,Below.refl _ _⟩
 case round=>
  obtain ⟨i,rfl,hi,hb⟩:=hrel;have HB:=zh hb;have e0:=(hb.block w.heap.size (by omega)).trans HD.out.1;have e1:=(hb.block (w.heap.size+1) (by omega)).trans HD.out.2;have HEE:=zh (And.intro e0 e1);by_cases hlt:i<n
  ·obtain ⟨x,hx⟩:∃x,l[i]? =some x:=⟨_,List.getElem?_eq_getElem (by rw [HN.out];exact hlt)⟩
   have hRr:=(HR.out.below HB2.out).below hb;have cx:=hRr.at' i x hx;obtain ⟨q1,q2,q3⟩:=HLW.out x (List.mem_of_getElem? hx);have hix:=HIX.out i x hx;obtain ⟨X,hX⟩:∃X:ByteArray,(⟨x.toArray⟩:ByteArray)=X:=⟨_,rfl⟩
   have hXl:X.data.toList=x:=(by rw [<- hX]);have hXs:X.size=x.length:=(by rw [Lib.size_eq,hXl]);rw [hX]at cx;have HNM:=zh (fun W'=>BU X W' (by omega) (by omega) (by rw [hXl];exact q3));have HIN:=zh (fun W' (hW:bO W' (some ⟨gn,on,none⟩) l)=>kS (cap:=ncap) (some ⟨g,o,none⟩) m cp X hW (by rw [HN.out];omega));rw [hXl,hix,HN.out]at HIN;have HRR:=zh hRr;clear hX hXl hXs q1 q2 q3 hix hx hb e0 e1 hRr;go_wp2_with fail;refine (HNM.out _).mono ?_;rintro e w2 ⟨rfl,hb2⟩;have HB2':=zh (aa HB.out hb2);have f0:=(hb2.block _ (Array.getElem?_eq_some_iff.1 HEE.out.1).1).trans HEE.out.1;have c0:w2.cell? ⟨w.heap.size,0,none⟩=some (.slice (some ⟨gn,on,none⟩) n ncap):=(by rw [cell_of_row w2 w.heap.size _ _ _ _ f0];rfl);have c1:w2.cell? ⟨w.heap.size,1,none⟩=some (.slice (some ⟨g,o,none⟩) m cp):=(by rw [cell_of_row w2 w.heap.size _ _ _ _ f0];rfl);have HI2:=zh (HIN.out w2 (HRR.out.below hb2));clear hb2 f0;go_wp2_with fail;refine HI2.out.mono ?_;rintro e w3 ⟨rfl,hb3⟩;have HB3:=zh (aa HB2'.out hb3);clear hb3 c0 c1;go_wp2_with fail;go_roundw;case rel=>exact ⟨i+1,by go_num,by omega,HB3.out⟩
   case measure=>simp [intOf];omega
  ·have c1:wr.cell? ⟨w.heap.size,1,none⟩=some (.slice (some ⟨g,o,none⟩) m cp):=(by rw [cell_of_row wr w.heap.size _ _ _ _ e0];rfl);have cn:wr.cell? ⟨w.heap.size+1,0,none⟩=some (.int .i64 (n:Int)):=(by rw [cell_of_row wr (w.heap.size+1) _ _ _ _ e1];rfl);have HCF:=zh (Bd n (w.heap.size+1) P (cp:=cp) (ez hb (ez HB2.out HP.out.1)) cn hm HP.out.2);clear hb e0 e1 cn;go_wp2_with fail;refine HCF.out.mono ?_;rintro e w3 ⟨rfl,hb3⟩;have HB3:=zh (aa HB2.out (aa HB.out hb3));clear hb3;go_wp2_with fail;go_ret;exact ⟨rfl,HB3.out⟩
theorem mU:(Tryz.prog.info? 65).map (fun i=>(i.zero,i.size,i.bytes))=some (some (.agg #[.int .i64 0,.bool false,.string ⟨#[]⟩,.bool false,.slice none 0 0]),5,64):=by kernel_rfl
theorem BC:(Tryz.prog.info? 3).map (fun i=>(i.zero,i.size,i.bytes))=some (some (.int .i64 0),1,8):=by kernel_rfl
abbrev aW:=af×Value
def aq (x:aW):List Value:=[.int .i64 (x.1.depth:Int),.bool x.1.div,.string ⟨x.1.label.toArray⟩,.bool x.1.opn,x.2]
theorem dr (x:aW):(aq x).length=5:=rfl
structure aT (B:Nat) (w:World) (v:Value) (l:List aW):Prop where
 row:w.ownsRow B 65 5 v l.length (l.flatMap aq)
 lines:∀(i:Nat) (x:aW),l[i]? =some x ->ah B w x.2 x.1.lines
 apart:∀(i j:Nat) (x y:aW),l[i]? =some x ->l[j]? =some y ->i≠j ->x.2.ownBlock=none∨x.2.ownBlock≠y.2.ownBlock
theorem aT.nil (B:Nat) (w:World):aT B w (.slice none 0 0) []:=⟨World.ownsRow_nil _ _ _ _,fun i x h=>by simp at h,fun i j x y h=>by simp at h⟩
theorem aT.below {B:Nat} {w w':World} {v:Value} {l:List aW} (h:aT B w v l) (hb:Below w.heap.size w w'):aT B w' v l:=
 ⟨ae h.row hb,fun i x hx=>ae (h.lines i x hx) hb,h.apart⟩
theorem aT.alloc {B:Nat} {w:World} {v:Value} {l:List aW} (h:aT B w v l) (o:Obj):aT B (w.alloc o) v l:=h.below ((Below.refl _ _).alloc (Nat.le_refl _) _)
theorem aT.mono {B B':Nat} {w:World} {v:Value} {l:List aW} (h:aT B w v l) (hb:B' <= B):aT B' w v l:=
 ⟨dQ h.row hb,fun i x hx=>dQ (h.lines i x hx) hb,h.apart⟩
theorem aT.grown {B b2:Nat} {w w':World} {v v2:Value} {l:List aW} {e2:TypeId} {z2 n2:Nat} {x2:List Value} (h:aT B w v l) (h2:w.ownsRow b2 e2 z2 v2 n2 x2) (he1:65≠e2) (he2:9≠e2) (hg:w.grownBy w' v2.ownBlock):aT B w' v l:=
 ⟨World.ownsRow.kept h.row hg (aZ h.row h2 he1),fun i x hx=>World.ownsRow.kept (h.lines i x hx) hg (aZ (h.lines i x hx) h2 he2),h.apart⟩
theorem aT.push {B:Nat} {w w':World} {v v':Value} {l:List aW} (h:aT B w v l) (p:af) (vl:Value) (hg:w.grownBy w' v.ownBlock) (hrow:w'.ownsRow B 65 5 v' (l.length+1) (l.flatMap aq++aq (p,vl)))
  (hl:ah B w vl p.lines) (hap:∀(i:Nat) (x:aW),l[i]? =some x ->(x.2.ownBlock=none∨x.2.ownBlock≠vl.ownBlock)∧(vl.ownBlock=none∨vl.ownBlock≠x.2.ownBlock)):aT B w' v' (l++[(p,vl)]):=by
 have hk:∀u (ls:List (List UInt8)),ah B w u ls ->ah B w' u ls:=fun u ls hu=>World.ownsRow.kept hu hg (aZ hu h.row (by decide));refine ⟨?_,fun i x hx=>?_,fun i j x y hx hy hij=>?_⟩
 ·rw [List.length_append,List.flatMap_append,List.flatMap_cons,List.flatMap_nil,List.append_nil];exact hrow
 ·rcases Nat.lt_or_ge i l.length with hi|hi
  ·rw [List.getElem?_append_left hi]at hx;exact hk _ _ (h.lines i x hx)
  ·rw [List.getElem?_append_right hi]at hx;have:i - l.length=0:=by
    have:=(List.getElem?_eq_some_iff.1 hx).1;simp at this;omega
   rw [this]at hx;obtain rfl:=Option.some.inj hx;exact hk _ _ hl
 ·rcases Nat.lt_or_ge i l.length with hi|hi
  ·rw [List.getElem?_append_left hi]at hx;rcases Nat.lt_or_ge j l.length with hj|hj
   ·rw [List.getElem?_append_left hj]at hy;exact h.apart i j x y hx hy hij
   ·rw [List.getElem?_append_right hj]at hy;have:j - l.length=0:=by
     have:=(List.getElem?_eq_some_iff.1 hy).1;simp at this;omega
    rw [this]at hy;obtain rfl:=Option.some.inj hy;exact (hap i x hx).1
  ·rw [List.getElem?_append_right hi]at hx;have hi0:i - l.length=0:=by
    have:=(List.getElem?_eq_some_iff.1 hx).1;simp at this;omega
   rw [hi0]at hx;obtain rfl:=Option.some.inj hx;rcases Nat.lt_or_ge j l.length with hj|hj
   ·rw [List.getElem?_append_left hj]at hy;exact (hap j y hy).2
   ·have:j - l.length=0:=by
     have:=(List.getElem?_eq_some_iff.1 hy).1;simp at this;omega
    omega
theorem j7 {α:Type} (f:α ->List Value) (k:Nat) (hf:∀x,(f x).length=k):∀(l:List α) (i j:Nat) (x y:α) (u:Value),l[i]? =some x ->j<k ->f y=(f x).set j u ->(l.flatMap f).set (i*k+j) u=(l.set i y).flatMap f
 |[],i,j,x,y,u,h,_,_=>by simp at h
 |z::l,0,j,x,y,u,h,hj,hy=>by
  simp at h;subst h;rw [List.flatMap_cons,List.set_append_left _ _ (by rw [hf];omega),List.set_cons_zero,List.flatMap_cons,hy];congr 2;omega
 |z::l,i+1,j,x,y,u,h,hj,hy=>by
  rw [List.flatMap_cons,List.set_append_right _ _ (by rw [hf,Nat.add_mul];omega),List.set_cons_succ,List.flatMap_cons,<- j7 f k hf l i j x y u (by simpa using h) hj hy];congr 2;rw [hf,Nat.add_mul];omega
theorem aT.flag {B:Nat} {w:World} {g cap n:Nat} {l:List aW} (h:aT B w (.slice (some ⟨g,0,none⟩) n cap) l) (hn:n=l.length) (i j:Nat) (x:aW) (p:af) (u:Value) (hx:l[i]? =some x) (hj:j<5) (hp:aq (p,x.2)=(aq x).set j u) (hl:p.lines=x.1.lines):
  aT B (w.setCell ⟨g,i*5+j,none⟩ u) (.slice (some ⟨g,0,none⟩) n cap) (l.set i (p,x.2)):=by
 subst hn;have hst:=World.ownsRow.stored h.row (i*5+j) u;have hil:i<l.length:=(List.getElem?_eq_some_iff.1 hx).1;refine ⟨?_,fun k y hy=>?_,fun k m y z hy hz hkm=>?_⟩
 ·have:=hst.1;rw [j7 aq 5 dr l i j x (p,x.2) u hx hj hp]at this;rw [List.length_set];exact this
 ·have hk:∀v ls,ah B w v ls ->ah B (w.setCell ⟨g,i*5+j,none⟩ u) v ls:=fun v ls hv=>World.ownsRow.kept hv hst.2 (aZ hv h.row (by decide));rw [List.getElem?_set]at hy;split at hy
  ·obtain rfl:=Option.some.inj hy;simp only;rw [hl];exact hk _ _ (h.lines i x hx)
  ·exact hk _ _ (h.lines k y hy)
 ·have q:∀a (c:aW),(l.set i (p,x.2))[a]? =some c ->∃d:aW,l[a]? =some d∧d.2=c.2:=fun a c hc=>by
   rw [List.getElem?_set]at hc;split at hc
   ·rename_i e;obtain rfl:=Option.some.inj hc;exact ⟨x,by rw [<- e];exact hx,rfl⟩
   ·exact ⟨c,hc,rfl⟩
  obtain ⟨d,hd,e1⟩:=q k y hy;obtain ⟨d',hd',e2⟩:=q m z hz;rw [<- e1,<- e2];exact h.apart k m d d' hd hd' hkm
theorem aT.more {B:Nat} {w w4:World} {g cap m:Nat} {l:List aW} {x:aW} {v4:Value} {s:List UInt8} (h:aT B w (.slice (some ⟨g,0,none⟩) (m+1) cap) l) (hm:m+1=l.length) (hx:l[m]? =some x)
  (hg:w.grownBy w4 x.2.ownBlock) (hown:ah B w4 v4 (x.1.lines++[s])) (hat:v4.ownBlock=x.2.ownBlock∨∃k,v4.ownBlock=some k∧w.heap.size <= k):
  aT B (w4.setCell ⟨g,m*5+4,none⟩ v4) (.slice (some ⟨g,0,none⟩) (m+1) cap) (l.set m ({x.1 with lines:=x.1.lines++[s]},v4)):=by
 have hrow4:w4.ownsRow B 65 5 (.slice (some ⟨g,0,none⟩) l.length cap) l.length (l.flatMap aq):=by
  have:=World.ownsRow.kept h.row hg (aZ h.row (h.lines m x hx) (by decide))
  rwa [hm]at this
 have hst:=World.ownsRow.stored hrow4 (m*5+4) v4;have hk:∀v ls,ah B w4 v ls ->ah B (w4.setCell ⟨g,m*5+4,none⟩ v4) v ls:=fun v ls hv=>World.ownsRow.kept hv hst.2 (aZ hv hrow4 (by decide));refine ⟨?_,fun k y hy=>?_,fun k j y z hy hz hkj=>?_⟩
 ·have:=hst.1;rw [j7 aq 5 dr l m 4 x ({x.1 with lines:=x.1.lines++[s]},v4) v4 hx (by omega) rfl]at this;rw [List.length_set,hm];exact this
 ·rw [List.getElem?_set]at hy;split at hy
  ·split at hy
   ·obtain rfl:=Option.some.inj hy;exact hk _ _ hown
   ·cases hy
  ·rename_i hne;have hap:=h.apart k m y x hy hx (fun e=>hne e.symm);exact hk _ _ (World.ownsRow.kept (h.lines k y hy) hg hap)
 ·have hold:∀a (y:aW),l[a]? =some y ->a≠m ->(y.2.ownBlock=none∨y.2.ownBlock≠v4.ownBlock)∧(v4.ownBlock=none∨v4.ownBlock≠y.2.ownBlock):=fun a y hy ha=>by
   rcases hat with e|⟨k,e,hk⟩
   ·rw [e];exact ⟨h.apart a m y x hy hx ha,h.apart m a x y hx hy (fun e=>ha e.symm)⟩
   ·have hlt:=World.ownsRow.lt (h.lines a y hy);rw [e];refine ⟨Or.inr fun e2=>?_,Or.inr fun e2=>?_⟩
    ·have:=(hlt k e2).2;omega
    ·have:=(hlt k e2.symm).2;omega
  rw [List.getElem?_set]at hy hz;split at hy
  ·rename_i e1;split at hy
   ·obtain rfl:=Option.some.inj hy;split at hz
    ·omega
    ·exact (hold j z hz (fun e=>by omega)).2
   ·cases hy
  ·rename_i e1;split at hz
   ·split at hz
    ·obtain rfl:=Option.some.inj hz;exact (hold k y hy (fun e=>e1 e.symm)).1
    ·cases hz
   ·exact h.apart k j y z hy hz hkj
theorem sq (s:ByteArray) (w:World) (hs:s.size <= 1000000000):
  Calls Tryz.prog 49 #[.string s] w fun e w'=>e=.returned (.bool (cq s.data.toList))∧Below w.heap.size w w':=by
 obtain ⟨X,hX⟩:∃X:ByteArray,(⟨(bW s.data.toList).toArray⟩:ByteArray)=X:=⟨_,rfl⟩
 have hT:∀W,Calls Tryz.prog 89 #[.string s,.string ⟨#[32]⟩] W fun e w'=>e=.returned (.string X)∧w'=W:=fun W=>by
  refine (Tryz.strings_TrimRight_one s 32 (by decide) W (by omega)).mono ?_;rintro e w' ⟨rfl,rfl⟩;exact ⟨by rw [<- hX];rfl,rfl⟩
 have HT:=zh hT;have hv:cq s.data.toList=(X.toList==[58,58,58]):=by
  have hXl:bW s.data.toList=X.data.toList:=(by rw [<- hX]);unfold cq;rw [hXl,Lib.toList_data]
 have HV:=zh hv;clear hX hT hv;go_enter Tryz.func49,Tryz.ntmps49
 go_wp2_with fail;refine (HT.out _).mono ?_;rintro e w2 ⟨rfl,rfl⟩;go_wp2_with fail;go_ret;refine ⟨?_,Below.refl _ _⟩;rw [HV.out];rfl
def dT:List UInt8:=[123,125,124,58,32,9]
theorem BH (l:List UInt8):bh l=(!(l.any fun c=>dT.contains c)&&l !=[]&&decide (l.length <= 40)):=by
 unfold bh;congr 2;rw [List.not_any_eq_all_not];rfl
theorem uh (S:List UInt8) (n:Nat):fs S n []=false:=by cases n<;>simp [fs]
theorem kV (s:ByteArray) (w:World) (hs:s.size <= 1000000000):
  Calls Tryz.prog 91 #[.string s] w fun e w'=>e=.returned (.bool (bh s.data.toList))∧Below w.heap.size w w':=by
 have hla:=BH s.data.toList;have hany:=oG dT (by decide) s.data.toList.length s.data.toList (Nat.le_refl _);rw [show (s.data.toList.any fun c=>dT.contains c)=s.data.toList.any (dT.contains ·)from rfl,<- hany]at hla;have HLA:=zh hla;clear hla hany;go_enter Tryz.func91,Tryz.ntmps91
 go_wp2_with fail;go_loopw [] (fun wr=>∃pos f:Nat,wr.heap[w.heap.size]? =some (.stringIter s pos)∧Below w.heap.size w wr∧fs dT f (s.data.toList.drop pos)=fs dT s.data.toList.length s.data.toList∧s.size <= pos+f) (fun wr=>s.size - wr.iterPos w.heap.size)
 case atStart=>
  refine ⟨0,s.size,?_,(Below.refl _ w).alloc (Nat.le_refl _) _,by rw [<- Lib.size_eq];rfl,by omega⟩;have:=World.iter_heap w s 0;simpa using this
 case round=>
  obtain ⟨pos,f,hit,hbw,hbad,hfu⟩:=hrel;have hsz:w.heap.size<wr.heap.size:=(Array.getElem?_eq_some_iff.1 hit).1;by_cases hp:pos<s.size
  ·have hnx:∀ty,(Instr.next (.pointer (some ⟨w.heap.size,0,none⟩)) true ty).run Tryz.prog wr=_:=fun ty=>Lib.run_next_any_at wr w.heap.size s pos ty hit hp;have hit2:=Lib.iterAt_heap wr w.heap.size s pos (pos+(Utf8.decode s pos).2) hit;have hbw2:=Lib.below_iterAt hbw (k:=w.heap.size) (by omega) s (pos+(Utf8.decode s pos).2);obtain ⟨f,rfl⟩:∃g,f=g+1:=⟨f - 1,by omega⟩
   have hdl:=Lib.decodeL_drop s pos;have hwd:=Lib.decodeL_width (s.data.toList.drop pos);have hrl:=Lib.decodeL_rune (s.data.toList.drop pos);have hne:s.data.toList.drop pos≠[]:=(by intro h0;have:=congrArg List.length h0;simp at this;omega);rw [fs,if_neg hne,List.drop_drop]at hbad;rw [<- hdl]at hnx hit2 hbw2;obtain ⟨r,n,hrn⟩:∃r n,Lib.decodeL (s.data.toList.drop pos)=(r,n):=⟨_,_,rfl⟩
   rw [hrn]at hnx hit2 hbw2 hwd hrl hbad;simp only at hnx hit2 hbw2 hwd hrl hbad;clear hrn hdl hbw;have hcr:=fun W=>cT ⟨#[123,125,124,58,32,9]⟩ r W (by unfold cQ;decide) (by decide) hrl;rw [show (ByteArray.mk #[123,125,124,58,32,9]).data.toList=dT from rfl]at hcr;have HCR:=zh hcr;have HBAD:=zh hbad;clear hcr hbad;cases hb:dT.any (fun b=>b.toNat==r)
   ·have HN:=zh (show fs dT f (s.data.toList.drop (pos+n))=fs dT s.data.toList.length s.data.toList by have:=HBAD.out;rw [hb,Bool.false_or]at this;exact this);have HB:=zh hb;clear hb;go_wp2_with fail;refine (HCR.out _).mono ?_;rintro e w2 ⟨rfl,b2⟩;rw [HB.out];have hit3:=bA hit2 b2;have hbw3:=aa hbw2 b2;go_wp2_with fail;go_roundw;case rel=>exact ⟨pos+n,f,hit3,hbw3,HN.out,by omega⟩
    case measure=>simp only [World.iterPos,hit3,hit];omega
   ·have HN:=zh (show bh s.data.toList=false by
     rw [HLA.out,<- HBAD.out,hb];rfl)
    have HB:=zh hb;clear hb;go_wp2_with fail;refine (HCR.out _).mono ?_;rintro e w2 ⟨rfl,b2⟩;rw [HB.out];have hbw3:=aa hbw2 b2;go_wp2_with fail;go_ret;exact ⟨by rw [HN.out];try rfl,hbw3⟩
  ·have hnx:∀ty,(Instr.next (.pointer (some ⟨w.heap.size,0,none⟩)) true ty).run Tryz.prog wr=_:=fun ty=>Lib.run_next_end_at wr w.heap.size s pos ty hit hp;rw [ee s pos (by omega),uh]at hbad;have hla:=HLA.out;rw [<- hbad]at hla;have HB:=zh hbw;by_cases h0:0<s.size
   ·have he:=cS h0;have hne:(s.data.toList !=[])=true:=by
     have:s.data.toList≠[]:=(by intro h;rw [Lib.size_eq,h]at h0;exact absurd h0 (by simp));simpa using this
    rw [hne,<- Lib.size_eq]at hla;have HQ:=zh (show bh s.data.toList=decide ((s.size:Int) <= 40) by
     rw [hla];by_cases h:s.size <= 40
     ·rw [decide_eq_true h,decide_eq_true (by omega)];rfl
     ·rw [decide_eq_false h,decide_eq_false (by omega)];rfl)
    clear hla hne hbad hbw;go_wp2_with fail;go_ret;exact ⟨by rw [HQ.out];try rfl,HB.out⟩
   ·have he:=cE (s:=s) (by omega);have hne:(s.data.toList !=[])=false:=(by rw [ef s (by omega)];rfl);rw [hne]at hla;have HQ:=zh (show bh s.data.toList=false by rw [hla];rfl);clear hla hne hbad hbw;go_wp2_with fail;go_ret;exact ⟨by rw [HQ.out];try rfl,HB.out⟩
theorem qH (l:List UInt8) (c:UInt8):Lib.hasSuffix l [c]=decide (l.getLast? =some c)∧(l.getLast? =some c ->Lib.trimSuffix l [c]=l.dropLast):=by
 have h1:Lib.hasSuffix l [c]=decide (l.getLast? =some c):=by
  unfold Lib.hasSuffix;rw [Bool.eq_iff_iff,decide_eq_true_eq,List.isSuffixOf_iff_suffix];constructor
  ·rintro ⟨t,rfl⟩;simp
  ·intro h;obtain ⟨t,rfl⟩:=List.getLast?_eq_some_iff.1 h;exact ⟨t,rfl⟩
 refine ⟨h1,fun h=>?_⟩;unfold Lib.trimSuffix;rw [h1,decide_eq_true h,if_pos rfl,List.dropLast_eq_take];rfl
theorem sd (s:ByteArray) (w:World) (hs:s.size <= 1000000000):
  Calls Tryz.prog 48 #[.string s] w fun e w'=>e=.returned (.tuple #[.string ⟨(bf s.data.toList).1.toArray⟩,.bool (bf s.data.toList).2])∧Below w.heap.size w w':=by
 have ht:=fun W=>qM s 32 (by decide) W hs;have hXz:=iN (·==32) s.data.toList;obtain ⟨X,hX⟩:∃X:ByteArray,(⟨(aD (·==32) s.data.toList).toArray⟩:ByteArray)=X:=⟨_,rfl⟩
 have hXl:bW s.data.toList=X.data.toList:=(by rw [<- hX];rfl);rw [hX]at ht;rw [show aD (·==32) s.data.toList=X.data.toList from hXl,<- Lib.size_eq,<- Lib.size_eq]at hXz;have hp:=fun W=>Tryz.strings_CutPrefix X ⟨#[58,58,58,123]⟩ W;rw [show (ByteArray.mk #[58,58,58,123]).data.toList=[58,58,58,123]from rfl]at hp;obtain ⟨P,hP⟩:∃P,Lib.hasPrefix X.data.toList [58,58,58,123]=P:=⟨_,rfl⟩
 obtain ⟨R,hR⟩:∃R:ByteArray,(⟨(Lib.trimPrefix X.data.toList [58,58,58,123]).toArray⟩:ByteArray)=R:=⟨_,rfl⟩
 have hRl:Lib.trimPrefix X.data.toList [58,58,58,123]=R.data.toList:=(by rw [<- hR]);have hRz:R.size <= X.size:=by
  rw [Lib.size_eq,Lib.size_eq,<- hRl];unfold Lib.trimPrefix;split
  ·simp
  ·exact Nat.le_refl _
 rw [hP,hR]at hp;have hv:bf s.data.toList=if P=false then ([],false)else if R.data.toList.getLast? =some 125 then (R.data.toList.dropLast,bh R.data.toList.dropLast)else (R.data.toList,false):=by
  unfold bf;simp only;rw [hXl,hP,hRl]
 have hq:=fun W=>Tryz.strings_CutSuffix R ⟨#[125]⟩ W (by omega);rw [show (ByteArray.mk #[125]).data.toList=[125]from rfl]at hq;have HT:=zh ht;have HP:=zh hp;have HV:=zh hv;clear ht hp hv hX hXl hP hR hRl;cases P
 ·have HQ:=zh (show bf s.data.toList=([],false) by rw [HV.out,if_pos rfl]);clear hq;go_enter Tryz.func48,Tryz.ntmps48
  go_wp2_with fail;refine (HT.out _).mono ?_;rintro e w2 ⟨rfl,hw2⟩;obtain rfl:=hw2.symm;go_wp2_with fail;refine (HP.out _).mono ?_;rintro e w3 ⟨rfl,hw3⟩;obtain rfl:=hw3.symm;go_wp2_with fail
  go_ret2
  exact ⟨by rw [HQ.out];try rfl,Below.refl _ _⟩
 ·have hsf:=qH R.data.toList 125;by_cases hl:R.data.toList.getLast? =some 125
  ·have hts:=hsf.2 hl;have hhs:=hsf.1;rw [decide_eq_true hl]at hhs;rw [hhs,hts]at hq;obtain ⟨N,hN⟩:∃N:ByteArray,(⟨R.data.toList.dropLast.toArray⟩:ByteArray)=N:=⟨_,rfl⟩
   have hNl:R.data.toList.dropLast=N.data.toList:=(by rw [<- hN]);have hNz:N.size <= R.size:=(by rw [Lib.size_eq,Lib.size_eq,<- hNl];simp);rw [hN]at hq;have hla:=fun W=>kV N W (by omega);obtain ⟨L,hL⟩:∃L,bh N.data.toList=L:=⟨_,rfl⟩
   rw [hL]at hla;have HQ:=zh (show bf s.data.toList=(N.data.toList,L) by rw [HV.out,if_neg (by simp),if_pos hl,hNl,hL]);have HQS:=zh hq;have HLA:=zh hla;clear hq hla hL hN hNl hNz hhs hts hl hsf;go_enter Tryz.func48,Tryz.ntmps48
   go_wp2_with fail;refine (HT.out _).mono ?_;rintro e w2 ⟨rfl,hw2⟩;obtain rfl:=hw2.symm;go_wp2_with fail;refine (HP.out _).mono ?_;rintro e w3 ⟨rfl,hw3⟩;obtain rfl:=hw3.symm;go_wp2_with fail;refine (HQS.out _).mono ?_;rintro e w4 ⟨rfl,hw4⟩;obtain rfl:=hw4.symm;go_wp2_with fail;refine (HLA.out _).mono ?_;rintro e w5 ⟨rfl,b5⟩;go_wp2_with fail
   go_ret2
   exact ⟨iw HQ.out,b5⟩
  ·have hhs:=hsf.1;rw [decide_eq_false hl]at hhs;have hts:Lib.trimSuffix R.data.toList [125]=R.data.toList:=(by unfold Lib.trimSuffix;rw [hhs];rfl);rw [hhs,hts,Lib.mk_data]at hq;have HQ:=zh (show bf s.data.toList=(R.data.toList,false) by rw [HV.out,if_neg (by simp),if_neg hl]);have HQS:=zh hq;clear hq hhs hts hl hsf;go_enter Tryz.func48,Tryz.ntmps48
   go_wp2_with fail;refine (HT.out _).mono ?_;rintro e w2 ⟨rfl,hw2⟩;obtain rfl:=hw2.symm;go_wp2_with fail;refine (HP.out _).mono ?_;rintro e w3 ⟨rfl,hw3⟩;obtain rfl:=hw3.symm;go_wp2_with fail;refine (HQS.out _).mono ?_;rintro e w4 ⟨rfl,hw4⟩;obtain rfl:=hw4.symm;go_wp2_with fail
   go_ret2
   exact ⟨iw HQ.out,Below.refl _ _⟩
def BD (n:Nat):Value:=.int .i64 (n:Int)
def Fa:eM:=⟨[],[],false⟩
structure AK (ls:List (List UInt8)) (w:World) (i:Nat) (st:eM) (l:List aW) (vout vin:Value) (wr:World):Prop where
 out:aT w.heap.size wr vout l
 map:l.map (·.1)=st.out
 inn:wr.ownsRow w.heap.size 3 1 vin st.inn.length (st.inn.map BD)
 bel:Below w.heap.size w wr
 fold:(ls.drop i).foldl ag st=ls.foldl ag Fa
 len:l.length <= i
 ilen:st.inn.length <= i
 lens:∀x∈l,x.1.lines.length <= i
 inlt:∀n∈st.inn,n<l.length
 run:st.run=true ->0<l.length
theorem map_set:∀(l:List aW) (k:Nat) (x:aW) (f:af ->af) (v:Value),l[k]? =some x ->(l.set k (f x.1,v)).map (·.1)=(l.map (·.1)).modify k f
 |[],k,x,f,v,h=>by simp at h
 |y::l,0,x,f,v,h=>by simp at h;subst h;simp
 |y::l,k+1,x,f,v,h=>by
  rw [List.set_cons_succ,List.map_cons,List.map_cons,List.modify_succ_cons,map_set l k x f v (by simpa using h)]
theorem Ak {st:eM} {s n:List UInt8} (h:bf s=(n,true)):ag st s=⟨st.out++[⟨st.inn.length,true,n,true,[]⟩],st.inn++[st.out.length],false⟩:=by
 unfold ag;rw [h,if_pos rfl]
theorem Al {st:eM} {s n:List UInt8} (h:bf s=(n,false)) (h2:cq s=true) (h3:0<st.inn.length):ag st s=⟨st.out.modify (st.inn.getLast?.getD 0) (fun p=>{p with opn:=false}),st.inn.dropLast,false⟩:=by
 unfold ag;rw [h,if_neg (by simp),if_pos ⟨h2,h3⟩]
theorem vs {st:eM} {s n:List UInt8} (h:bf s=(n,false)) (h2:¬(cq s=true∧0<st.inn.length)) (h3:st.run=true):ag st s=⟨st.out.modify (st.out.length - 1) (fun p=>{p with lines:=p.lines++[s]}),st.inn,true⟩:=by
 unfold ag;rw [h,if_neg (by simp),if_neg h2,if_pos h3]
theorem vr {st:eM} {s n:List UInt8} (h:bf s=(n,false)) (h2:¬(cq s=true∧0<st.inn.length)) (h3:st.run=false):ag st s=⟨st.out++[⟨st.inn.length,false,[],false,[s]⟩],st.inn,true⟩:=by
 unfold ag;rw [h,if_neg (by simp),if_neg h2,if_neg (by rw [h3];simp)]
theorem fx {w:World} {base:Nat} {e:TypeId} {size g o n k c:Nat} {xs:List Value} (h:w.ownsRow base e size (.slice (some ⟨g,o,none⟩) n c) k xs):o=0∧∃cs,w.heap[g]? =some (.cells cs e (0,0)):=by
 rcases h.2 with ⟨h0,_⟩|⟨g',c',cur,h0,_,hg,_⟩
 ·simp at h0
 ·simp only [Value.slice.injEq,Option.some.injEq,Addr.mk.injEq,and_true]at h0;exact ⟨h0.1.2,cur,by rw [h0.1.1];exact hg⟩
theorem zg {α:Type} (ls:List α) (i:Nat) (s:α) (h:ls[i]? =some s):ls.drop i=s::ls.drop (i+1):=by
 obtain ⟨hi,rfl⟩:=List.getElem?_eq_some_iff.1 h;exact List.drop_eq_getElem_cons hi
theorem oR (ao:Option Addr) (cap:Nat) (ls:List (List UInt8)) (w:World) (hR:bO w ao ls) (hn:ls.length <= 1000000) (hs:∀x∈ls,x.length <= 1000000):
  Calls Tryz.prog 16 #[.slice ao ls.length cap] w fun e w'=>∃v l,e=.returned v∧aT w.heap.size w' v l∧l.map (·.1)=bF ls∧Below w.heap.size w w':=by
 obtain ⟨ip,hpi,hp0,hp1,hp2⟩:=info_parts mU;obtain ⟨ii,hii,hi0,hi1,hi2⟩:=info_parts BC;obtain ⟨is,hsi,hs0,hs1,hs2⟩:=info_parts ft;obtain ⟨F,hF⟩:∃F,bF ls=F:=⟨_,rfl⟩
 rw [hF];have HF:=zh hF;have HR:=zh hR;have HS:=zh hs;clear hR hs hF;go_enter Tryz.func16,Tryz.ntmps16
 go_wp2_with fail;go_loopw [3,4,5,12] (fun u3 u4 u5 u12 wr=>∃(i:Nat) (st:eM) (l:List aW) (ru:Bool),i <= ls.length∧u5=.bool ru∧st.run=ru∧u12=.int .i64 i∧AK ls w i st l u3 u4 wr) (fun _ _ _ u12 _=>ls.length - (intOf u12).toNat)
 case atStart=>exact ⟨0,Fa,[],false,Nat.zero_le _,rfl,rfl,rfl,⟨aT.nil _ _,rfl,World.ownsRow_nil _ _ _ _,Below.refl _ _,rfl,Nat.zero_le _,Nat.zero_le _,fun x h=>(by cases h),fun x h=>(by cases h),fun h=>(by cases h)⟩⟩
 case round=>
  obtain ⟨i,st,l,ru,hi,rfl,hru,rfl,hrel⟩:=hrel;by_cases hlt:i<ls.length
  ·obtain ⟨s,hs⟩:∃s,ls[i]? =some s:=⟨_,List.getElem?_eq_getElem hlt⟩
   have hsz:=HS.out s (List.mem_of_getElem? hs);obtain ⟨g0,o0,rfl⟩:=bO.addr HR.out (by omega);have hcl:=bO.at' (HR.out.below hrel.bel) i s hs;have hfold:=hrel.fold;rw [zg ls i s hs,List.foldl_cons]at hfold;obtain ⟨X,hX⟩:∃X:ByteArray,(⟨s.toArray⟩:ByteArray)=X:=⟨_,rfl⟩
   have hXl:s=X.data.toList:=(by rw [<- hX]);rw [hX]at hcl;have hXz:X.size <= 1000000:=(by rw [Lib.size_eq,<- hXl];exact hsz);have hop:=fun W=>sd X W (by omega);have hsh:=fun W=>sq X W (by omega);rw [<- hXl]at hop hsh;obtain ⟨N,b1,hN⟩:∃(N:ByteArray) (b:Bool),bf s=(N.data.toList,b):=⟨⟨(bf s).1.toArray⟩,(bf s).2,rfl⟩
   rw [hN]at hop;simp only [Lib.mk_data]at hop;obtain ⟨b2,hb2⟩:∃b,cq s=b:=⟨_,rfl⟩
   rw [hb2]at hsh;have HOP:=zh hop;have HSH:=zh hsh;have HREL:=zh hrel;have HFOLD:=zh hfold;have HN:=zh hN;have HB2:=zh hb2;have HX:=zh hXl;clear hop hsh hfold hN hb2 hXl hX hsz hs hrel;go_wp2_with fail;refine (HOP.out _).mono ?_;rintro e w2 ⟨rfl,b2w⟩;have HO:=zh (HREL.out.out.below b2w);have HI:=zh (ae HREL.out.inn b2w);have HB:=zh (aa HREL.out.bel b2w);clear b2w;obtain ⟨q,hq⟩:∃q,st.inn.length=q:=⟨_,rfl⟩
   have hil:=HREL.out.ilen;have hll:=HREL.out.len;have HQ:=zh hq;have hI:=HI.out;rw [hq]at hI hil;have HI:=zh hI;have HRU:=zh hru;clear hq hI hru;obtain ⟨iao,icap,hiv,_⟩:=ab HI.out;subst hiv;cases b1
   ·go_wp2_with fail;refine (HSH.out _).mono ?_;rintro e w3 ⟨rfl,b3w⟩;have HO3:=zh (HO.out.below b3w);have HI3:=zh (ae HI.out b3w);have HB3:=zh (aa HB.out b3w);clear b3w HO HI HB HOP HSH;have HO:=HO3;have HI:=HI3;have HB:=HB3;clear HO3 HI3 HB3;cases b2
    ·cases ru
     ·have HST:=zh (vr HN.out (by rintro ⟨h,_⟩;rw [HB2.out]at h;cases h) HRU.out);have hmem:w3.heap.size<(w3.alloc (.cells #[.string X] 9)).heap.size:=(by simp);have hrl:ah w.heap.size (w3.alloc (.cells #[.string X] 9)) (.slice (some ⟨w3.heap.size,0,none⟩) 1 1) [s]:=by
       have:=World.ownsRow_lit (base:=w.heap.size) (e:=9) (size:=1) w3 #[.string X] 1 HB.out.size (by unfold maxLen;omega) rfl;unfold ah fV;rw [HX.out];simp only [List.map_cons,List.map_nil,Lib.mk_data];exact this
      have hoa:=HO.out.alloc (.cells #[.string X] 9);have hia:=World.ownsRow.alloc HI.out (.cells #[.string X] 9);have hba:=HB.out.alloc HB.out.size (.cells #[.string X] 9);have hfr:∀(i:Nat) (x:aW),l[i]? =some x ->(x.2.ownBlock=none∨x.2.ownBlock≠some w3.heap.size)∧((some w3.heap.size:Option Nat)=none∨some w3.heap.size≠x.2.ownBlock):=fun i x hx=>by
       have hlt:=World.ownsRow.lt (HO.out.lines i x hx);exact ⟨Or.inr fun e=>by have:=(hlt _ e).2;omega,Or.inr fun e=>by have:=(hlt _ e.symm).2;omega⟩
      obtain ⟨wA,hwA⟩:∃W,w3.alloc (.cells #[.string X] 9)=W:=⟨_,rfl⟩
      rw [hwA]at hmem hrl hoa hia hba;have HOA:=zh hoa;have HIA:=zh hia;have HBA:=zh hba;have HRL:=zh hrl;have HFR:=zh hfr;clear hoa hia hba hrl hfr
      go_wp2_with (first
       |(at_builtin;refine wpList_append_own _ rfl _ _ 61 rfl w.heap.size 65 ip (.agg #[.int .i64 0,.bool false,.string ⟨#[]⟩,.bool false,.slice none 0 0]) 5 64 Tryz.underlying61 hpi hp0 hp1 hp2 rfl (by decide) _ _ _ rfl (World.ownsRow.alloc HOA.out.row _) ⟨wA.heap.size,0,none⟩ 1 1 [.int .i64 (q:Int),.bool false,.string ⟨#[]⟩,.bool false,.slice (some ⟨w3.heap.size,0,none⟩) 1 1] rfl rfl ?c1 ?c2 ?c3 ?c4 ?c5 ?_))
      case c1=>exact aL _ _ _ _ rfl
      case c2=>intro u hu;simp at hu;rcases hu with rfl|rfl|rfl|rfl|rfl<;>rfl
      case c3=>unfold maxLen;omega
      case c4=>omega
      case c5=>have:=HBA.out.size;simp;omega
      intro v4 w4 hown4 hgrow _;have hg1:wA.grownBy w4 u3.ownBlock:=(World.grownBy_alloc wA _ _).trans hgrow;have hI4:=World.ownsRow.kept HIA.out hg1 (aZ HIA.out HOA.out.row (by decide));have hB4:=HBA.out.grown hg1 HBA.out.size (fun j hj=>(World.ownsRow.lt HOA.out.row j hj).1);have hown4':=hown4;obtain ⟨oao,ocap,hov,_⟩:=ab hown4';subst hov;clear hown4';have hO4:=aT.push HOA.out ⟨st.inn.length,false,[],false,[s]⟩ (.slice (some ⟨w3.heap.size,0,none⟩) 1 1) hg1 (by rw [HQ.out];exact hown4) HRL.out HFR.out;have HR4:=zh (show AK ls w (i+1) (ag st s) (l++[(⟨st.inn.length,false,[],false,[s]⟩,.slice (some ⟨w3.heap.size,0,none⟩) 1 1)]) (.slice oao (l.length+1) ocap) (.slice iao q icap) w4 from by
       refine ⟨hO4,?_,?_,hB4,HFOLD.out,?_,?_,?_,?_,?_⟩
       ·rw [HST.out,List.map_append,HREL.out.map];rfl
       ·rw [HST.out];simp only;rw [HQ.out];exact hI4
       ·rw [List.length_append];simp;omega
       ·rw [HST.out];simp only;rw [HQ.out];omega
       ·intro x hx;rcases List.mem_append.1 hx with hx|hx
        ·have:=HREL.out.lens x hx;omega
        ·rw [List.mem_singleton.1 hx];simp
       ·intro n hn;rw [HST.out]at hn;rw [List.length_append];have:=HREL.out.inlt n hn;omega
       ·intro _;rw [List.length_append];simp)
      have HRUN:=zh (show (ag st s).run=true by rw [HST.out]);clear hO4 hI4 hB4 hown4 hgrow hg1;go_wp2_with fail;go_roundw;case rel=>exact ⟨i+1,ag st s,_,true,by omega,rfl,HRUN.out,by go_num,HR4.out⟩
      case measure=>simp [intOf];omega
     ·have HST:=zh (vs HN.out (by rintro ⟨h,_⟩;rw [HB2.out]at h;cases h) HRU.out);have hl0:=HREL.out.run HRU.out;obtain ⟨p,hp⟩:∃p,l.length=p+1:=⟨l.length - 1,by omega⟩
      obtain ⟨x,hx⟩:∃x,l[p]? =some x:=⟨_,List.getElem?_eq_getElem (by omega)⟩
      have hxl:=HO.out.lines p x hx;have hxn:=HREL.out.lens x (List.mem_of_getElem? hx);obtain ⟨oao,ocap,hov,hor,_⟩:=ab HO.out.row;rw [hp]at hov hor;subst hov;obtain ⟨go,oo,rfl⟩:=hor.addr (by omega);obtain rfl:oo=0:=(fx HO.out.row).1;obtain ⟨x1,xv⟩:=x;obtain ⟨xao,xcap,hxv,hxr,hxc,_⟩:=ab hxl;simp only at hxv hxr hxl;subst hxv;have hcl4:=aY.cell (f:=aq) (k:=5) hor dr p 4 _ _ hx (by omega) rfl;simp only [Nat.zero_add]at hcl4;have hO':=HO.out;have HOP:=zh hO';have HXL:=zh hxl;have HXX:=zh hx;have HPP:=zh hp;have hxn2:x1.lines.length <= 1000000:=(by simp only at hxn;omega);clear hO' hxl hx hor hxr HO
      go_wp2_with (first
       |(at_builtin;refine dL _ rfl _ _ 22 rfl w.heap.size 9 is (.string ⟨#[]⟩) 1 16 Tryz.underlying22 hsi hs0 hs1 hs2 rfl (by decide) _ _ _ rfl (World.ownsRow.alloc HXL.out _) ⟨w3.heap.size,0,none⟩ 1 1 [.string X] rfl rfl ?c1 ?c2 ?c3 ?c4 ?c5 ?_))
      case c1=>exact aL _ _ _ _ rfl
      case c2=>intro u hu;simp at hu;rcases hu with rfl;rfl
      case c3=>unfold maxLen;omega
      case c4=>omega
      case c5=>have:=HB.out.size;simp;omega
      intro v4 w4 hown4 honto hat;have hg1:=(World.grownBy_alloc w3 (.cells #[.string X] 9) (Value.slice xao x1.lines.length xcap).ownBlock).trans honto.grown;have hstr:ah w.heap.size w4 v4 (x1.lines++[s]):=by
       unfold ah;rw [List.map_append,List.length_append,List.map_cons,List.map_nil,HX.out];unfold fV;simp only [Lib.mk_data];exact hown4
      have hrow4:=World.ownsRow.kept HOP.out.row hg1 (aZ HOP.out.row HXL.out (by decide));have hat2:v4.ownBlock=(Value.slice xao x1.lines.length xcap).ownBlock∨∃k,v4.ownBlock=some k∧w3.heap.size <= k:=by
       rcases hat with h|h
       ·exact Or.inl h
       ·exact Or.inr ⟨_,h,by simp⟩
      have hmore:=aT.more HOP.out (by rw [HPP.out]) HXX.out hg1 hstr hat2;have hI4:=World.ownsRow.kept HI.out hg1 (aZ HI.out HXL.out (by decide));have hB4:=HB.out.grown hg1 HB.out.size (fun j hj=>(World.ownsRow.lt HXL.out j hj).1);obtain ⟨vao,vcap,hvv,_⟩:=ab hown4;subst hvv;have hfz:w4.frozen? ⟨go,p*5+4,none⟩=false:=by
       have h4:=hrow4;rw [HPP.out]at h4;exact World.ownsRow.frozenAt h4 _
      have hbg:w.heap.size <= go:=(World.ownsRow.lt HOP.out.row go rfl).1;have hgh:=(fx hrow4).2;have hcl5:w4.cell? ⟨go,p*5+4,none⟩=some (.slice xao x1.lines.length xcap):=by
       have h6:=(bT hrow4).2.1;have:=aY.cell (f:=aq) (k:=5) h6 dr p 4 _ _ HXX.out (by omega) rfl;simpa only [Nat.zero_add]using this
      have HI5:=zh (show (w4.setCell ⟨go,p*5+4,none⟩ (.slice vao (x1.lines.length+1) vcap)).ownsRow w.heap.size 3 1 (.slice iao q icap) q (st.inn.map BD)from by
       obtain ⟨cs,hcs⟩:=hgh;exact aF (a:=⟨go,p*5+4,none⟩) hI4 hcs (by decide) _)
      have HB5:=zh (hB4.setCell (p:=⟨go,p*5+4,none⟩) hbg (.slice vao (x1.lines.length+1) vcap));have HMORE:=zh hmore;clear hmore hI4 hB4 hrow4 hstr hown4 honto hat hat2 hg1 hgh hbg hcl4;go_wp2_with fail;go_roundw
      case rel=>
       refine ⟨i+1,ag st s,l.set p ({x1 with lines:=x1.lines++[s]},.slice vao (x1.lines.length+1) vcap),true,by omega,rfl,(by rw [HST.out]),by go_num,HMORE.out,?_,?_,HB5.out,HFOLD.out,?_,?_,?_,?_,?_⟩
       ·have hm:=map_set l p (x1,.slice xao x1.lines.length xcap) (fun p=>{p with lines:=p.lines++[s]}) (.slice vao (x1.lines.length+1) vcap) HXX.out;rw [HST.out];simp only;rw [hm,HREL.out.map];congr 1;rw [<- HREL.out.map,List.length_map,HPP.out];rfl
       ·rw [HST.out];simp only;rw [HQ.out];exact HI5.out
       ·rw [List.length_set];omega
       ·rw [HST.out];simp only;rw [HQ.out];omega
       ·intro y hy;rcases List.mem_or_eq_of_mem_set hy with h|h
        ·have:=HREL.out.lens y h;omega
        ·rw [h];simp only [List.length_append,List.length_cons,List.length_nil];omega
       ·intro n hn;rw [HST.out]at hn;rw [List.length_set];exact HREL.out.inlt n hn
       ·intro _;rw [List.length_set];omega
      case measure=>simp [intOf];omega
    ·by_cases h0:0<q
     ·have HST:=zh (Al HN.out HB2.out (by rw [HQ.out];exact h0));obtain ⟨m,rfl⟩:∃m,q=m+1:=⟨q - 1,by omega⟩
      obtain ⟨inn0,k,hin⟩:∃a b,st.inn=a++[b]:=by
       have hne:st.inn≠[]:=fun e=>by have:=HQ.out;rw [e]at this;simp at this
       exact ⟨st.inn.dropLast,st.inn.getLast hne,(List.dropLast_concat_getLast hne).symm⟩
      have hm0:inn0.length=m:=(by have:=HQ.out;rw [hin]at this;simpa using this);have hkl:=HREL.out.inlt k (by rw [hin];simp);obtain ⟨x,hx⟩:∃x,l[k]? =some x:=⟨_,List.getElem?_eq_getElem hkl⟩
      obtain ⟨gi,rfl⟩:∃g,iao=some ⟨g,0,none⟩:=by
       rcases HI.out.2 with ⟨h,_⟩|⟨g,c,cur,h,_⟩
       ·cases h
       ·cases h;exact ⟨g,rfl⟩
      have hci:w3.cell? ⟨gi,m,none⟩=some (.int .i64 (k:Int)):=by
       rw [World.ownsRow.cellAt HI.out m (by omega),hin,List.map_append,List.getElem?_append_right (by simp [hm0])];simp [hm0,BD]
      obtain ⟨oao,ocap,hov,hor,_⟩:=ab HO.out.row;subst hov;obtain ⟨go,rfl⟩:∃g,oao=some ⟨g,0,none⟩:=by
       rcases HO.out.row.2 with ⟨_,h⟩|⟨g,c,cur,h,_⟩
       ·omega
       ·cases h;exact ⟨g,rfl⟩
      have hco:=aY.cell (f:=aq) (k:=5) hor dr k 3 x _ hx (by omega) rfl;simp only [Nat.zero_add]at hco;have hfz:=World.ownsRow.frozenAt HO.out.row (k*5+3);have hbg:w.heap.size <= go:=(World.ownsRow.lt HO.out.row go rfl).1;have hgh:=(fx HO.out.row).2;have hflag:=aT.flag HO.out rfl k 3 x {x.1 with opn:=false} (.bool false) hx (by omega) rfl rfl;have hI5:(w3.setCell ⟨go,k*5+3,none⟩ (.bool false)).ownsRow w.heap.size 3 1 (.slice (some ⟨gi,0,none⟩) m icap) m (inn0.map BD):=by
       obtain ⟨cs,hcs⟩:=hgh;have h1:=aF (a:=⟨go,k*5+3,none⟩) HI.out hcs (by decide) (.bool false);have h2:=fw h1 m (by omega) _ _ _ rfl;rw [hin,List.map_append,Nat.mul_one,List.take_left' (by simp [hm0])]at h2;exact h2
      have hB5:=HB.out.setCell (p:=⟨go,k*5+3,none⟩) hbg (.bool false);have HFL:=zh hflag;have HI5:=zh hI5;have HB5:=zh hB5;have HIN:=zh hin;have HM0:=zh hm0;have HX2:=zh hx;have hk1:(0:Int) <= (k:Int):=(by omega);have hk2:(k:Int)<(l.length:Int):=(by omega);clear hflag hI5 hB5 hin hm0 hgh hor hx h0;go_wp2_with fail;go_roundw
      case rel=>
       refine ⟨i+1,ag st s,l.set k ({x.1 with opn:=false},x.2),false,by omega,rfl,(by rw [HST.out]),by go_num,HFL.out,?_,?_,HB5.out,HFOLD.out,?_,?_,?_,?_,?_⟩
       ·have hm:=map_set l k x (fun p=>{p with opn:=false}) x.2 HX2.out;rw [HST.out];simp only;rw [hm,HREL.out.map,HIN.out];simp
       ·rw [HST.out];simp only;rw [HIN.out,List.dropLast_concat,HM0.out];exact HI5.out
       ·rw [List.length_set];omega
       ·rw [HST.out];simp only;rw [HIN.out,List.dropLast_concat,HM0.out];omega
       ·intro y hy;rcases List.mem_or_eq_of_mem_set hy with h|h
        ·have:=HREL.out.lens y h;omega
        ·rw [h];have:=HREL.out.lens x (List.mem_of_getElem? HX2.out);simp only;omega
       ·intro n hn;rw [HST.out]at hn;rw [List.length_set];refine HREL.out.inlt n ?_;exact List.dropLast_subset _ hn
       ·intro h;rw [HST.out]at h;cases h
      case measure=>simp [intOf];omega
     ·have q0:¬(0:Int)<(q:Int):=(by omega);cases ru
      ·have HST:=zh (vr HN.out (by rintro ⟨_,h⟩;rw [HQ.out]at h;omega) HRU.out);have hmem:w3.heap.size<(w3.alloc (.cells #[.string X] 9)).heap.size:=(by simp);have hrl:ah w.heap.size (w3.alloc (.cells #[.string X] 9)) (.slice (some ⟨w3.heap.size,0,none⟩) 1 1) [s]:=by
        have:=World.ownsRow_lit (base:=w.heap.size) (e:=9) (size:=1) w3 #[.string X] 1 HB.out.size (by unfold maxLen;omega) rfl;unfold ah fV;rw [HX.out];simp only [List.map_cons,List.map_nil,Lib.mk_data];exact this
       have hoa:=HO.out.alloc (.cells #[.string X] 9);have hia:=World.ownsRow.alloc HI.out (.cells #[.string X] 9);have hba:=HB.out.alloc HB.out.size (.cells #[.string X] 9);have hfr:∀(i:Nat) (x:aW),l[i]? =some x ->(x.2.ownBlock=none∨x.2.ownBlock≠some w3.heap.size)∧((some w3.heap.size:Option Nat)=none∨some w3.heap.size≠x.2.ownBlock):=fun i x hx=>by
        have hlt:=World.ownsRow.lt (HO.out.lines i x hx);exact ⟨Or.inr fun e=>by have:=(hlt _ e).2;omega,Or.inr fun e=>by have:=(hlt _ e.symm).2;omega⟩
       obtain ⟨wA,hwA⟩:∃W,w3.alloc (.cells #[.string X] 9)=W:=⟨_,rfl⟩
       rw [hwA]at hmem hrl hoa hia hba;have HOA:=zh hoa;have HIA:=zh hia;have HBA:=zh hba;have HRL:=zh hrl;have HFR:=zh hfr;clear hoa hia hba hrl hfr
       go_wp2_with (first
        |(at_builtin;refine wpList_append_own _ rfl _ _ 61 rfl w.heap.size 65 ip (.agg #[.int .i64 0,.bool false,.string ⟨#[]⟩,.bool false,.slice none 0 0]) 5 64 Tryz.underlying61 hpi hp0 hp1 hp2 rfl (by decide) _ _ _ rfl (World.ownsRow.alloc HOA.out.row _) ⟨wA.heap.size,0,none⟩ 1 1 [.int .i64 (q:Int),.bool false,.string ⟨#[]⟩,.bool false,.slice (some ⟨w3.heap.size,0,none⟩) 1 1] rfl rfl ?c1 ?c2 ?c3 ?c4 ?c5 ?_))
       case c1=>exact aL _ _ _ _ rfl
       case c2=>intro u hu;simp at hu;rcases hu with rfl|rfl|rfl|rfl|rfl<;>rfl
       case c3=>unfold maxLen;omega
       case c4=>omega
       case c5=>have:=HBA.out.size;simp;omega
       intro v4 w4 hown4 hgrow _;have hg1:wA.grownBy w4 u3.ownBlock:=(World.grownBy_alloc wA _ _).trans hgrow;have hI4:=World.ownsRow.kept HIA.out hg1 (aZ HIA.out HOA.out.row (by decide));have hB4:=HBA.out.grown hg1 HBA.out.size (fun j hj=>(World.ownsRow.lt HOA.out.row j hj).1);have hown4':=hown4;obtain ⟨oao,ocap,hov,_⟩:=ab hown4';subst hov;clear hown4';have hO4:=aT.push HOA.out ⟨st.inn.length,false,[],false,[s]⟩ (.slice (some ⟨w3.heap.size,0,none⟩) 1 1) hg1 (by rw [HQ.out];exact hown4) HRL.out HFR.out;have HR4:=zh (show AK ls w (i+1) (ag st s) (l++[(⟨st.inn.length,false,[],false,[s]⟩,.slice (some ⟨w3.heap.size,0,none⟩) 1 1)]) (.slice oao (l.length+1) ocap) (.slice iao q icap) w4 from by
        refine ⟨hO4,?_,?_,hB4,HFOLD.out,?_,?_,?_,?_,?_⟩
        ·rw [HST.out,List.map_append,HREL.out.map];rfl
        ·rw [HST.out];simp only;rw [HQ.out];exact hI4
        ·rw [List.length_append];simp;omega
        ·rw [HST.out];simp only;rw [HQ.out];omega
        ·intro x hx;rcases List.mem_append.1 hx with hx|hx
         ·have:=HREL.out.lens x hx;omega
         ·rw [List.mem_singleton.1 hx];simp
        ·intro n hn;rw [HST.out]at hn;rw [List.length_append];have:=HREL.out.inlt n hn;omega
        ·intro _;rw [List.length_append];simp)
       have HRUN:=zh (show (ag st s).run=true by rw [HST.out]);clear hO4 hI4 hB4 hown4 hgrow hg1;go_wp2_with fail;go_roundw;case rel=>exact ⟨i+1,ag st s,_,true,by omega,rfl,HRUN.out,by go_num,HR4.out⟩
       case measure=>simp [intOf];omega
      ·have HST:=zh (vs HN.out (by rintro ⟨_,h⟩;rw [HQ.out]at h;omega) HRU.out);have hl0:=HREL.out.run HRU.out;obtain ⟨p,hp⟩:∃p,l.length=p+1:=⟨l.length - 1,by omega⟩
       obtain ⟨x,hx⟩:∃x,l[p]? =some x:=⟨_,List.getElem?_eq_getElem (by omega)⟩
       have hxl:=HO.out.lines p x hx;have hxn:=HREL.out.lens x (List.mem_of_getElem? hx);obtain ⟨oao,ocap,hov,hor,_⟩:=ab HO.out.row;rw [hp]at hov hor;subst hov;obtain ⟨go,oo,rfl⟩:=hor.addr (by omega);obtain rfl:oo=0:=(fx HO.out.row).1;obtain ⟨x1,xv⟩:=x;obtain ⟨xao,xcap,hxv,hxr,hxc,_⟩:=ab hxl;simp only at hxv hxr hxl;subst hxv;have hcl4:=aY.cell (f:=aq) (k:=5) hor dr p 4 _ _ hx (by omega) rfl;simp only [Nat.zero_add]at hcl4;have hO':=HO.out;have HOP:=zh hO';have HXL:=zh hxl;have HXX:=zh hx;have HPP:=zh hp;have hxn2:x1.lines.length <= 1000000:=(by simp only at hxn;omega);clear hO' hxl hx hor hxr HO
       go_wp2_with (first
        |(at_builtin;refine dL _ rfl _ _ 22 rfl w.heap.size 9 is (.string ⟨#[]⟩) 1 16 Tryz.underlying22 hsi hs0 hs1 hs2 rfl (by decide) _ _ _ rfl (World.ownsRow.alloc HXL.out _) ⟨w3.heap.size,0,none⟩ 1 1 [.string X] rfl rfl ?c1 ?c2 ?c3 ?c4 ?c5 ?_))
       case c1=>exact aL _ _ _ _ rfl
       case c2=>intro u hu;simp at hu;rcases hu with rfl;rfl
       case c3=>unfold maxLen;omega
       case c4=>omega
       case c5=>have:=HB.out.size;simp;omega
       intro v4 w4 hown4 honto hat;have hg1:=(World.grownBy_alloc w3 (.cells #[.string X] 9) (Value.slice xao x1.lines.length xcap).ownBlock).trans honto.grown;have hstr:ah w.heap.size w4 v4 (x1.lines++[s]):=by
        unfold ah;rw [List.map_append,List.length_append,List.map_cons,List.map_nil,HX.out];unfold fV;simp only [Lib.mk_data];exact hown4
       have hrow4:=World.ownsRow.kept HOP.out.row hg1 (aZ HOP.out.row HXL.out (by decide));have hat2:v4.ownBlock=(Value.slice xao x1.lines.length xcap).ownBlock∨∃k,v4.ownBlock=some k∧w3.heap.size <= k:=by
        rcases hat with h|h
        ·exact Or.inl h
        ·exact Or.inr ⟨_,h,by simp⟩
       have hmore:=aT.more HOP.out (by rw [HPP.out]) HXX.out hg1 hstr hat2;have hI4:=World.ownsRow.kept HI.out hg1 (aZ HI.out HXL.out (by decide));have hB4:=HB.out.grown hg1 HB.out.size (fun j hj=>(World.ownsRow.lt HXL.out j hj).1);obtain ⟨vao,vcap,hvv,_⟩:=ab hown4;subst hvv;have hfz:w4.frozen? ⟨go,p*5+4,none⟩=false:=by
        have h4:=hrow4;rw [HPP.out]at h4;exact World.ownsRow.frozenAt h4 _
       have hbg:w.heap.size <= go:=(World.ownsRow.lt HOP.out.row go rfl).1;have hgh:=(fx hrow4).2;have hcl5:w4.cell? ⟨go,p*5+4,none⟩=some (.slice xao x1.lines.length xcap):=by
        have h6:=(bT hrow4).2.1;have:=aY.cell (f:=aq) (k:=5) h6 dr p 4 _ _ HXX.out (by omega) rfl;simpa only [Nat.zero_add]using this
       have HI5:=zh (show (w4.setCell ⟨go,p*5+4,none⟩ (.slice vao (x1.lines.length+1) vcap)).ownsRow w.heap.size 3 1 (.slice iao q icap) q (st.inn.map BD)from by
        obtain ⟨cs,hcs⟩:=hgh;exact aF (a:=⟨go,p*5+4,none⟩) hI4 hcs (by decide) _)
       have HB5:=zh (hB4.setCell (p:=⟨go,p*5+4,none⟩) hbg (.slice vao (x1.lines.length+1) vcap));have HMORE:=zh hmore;clear hmore hI4 hB4 hrow4 hstr hown4 honto hat hat2 hg1 hgh hbg hcl4;go_wp2_with fail;go_roundw
       case rel=>
        refine ⟨i+1,ag st s,l.set p ({x1 with lines:=x1.lines++[s]},.slice vao (x1.lines.length+1) vcap),true,by omega,rfl,(by rw [HST.out]),by go_num,HMORE.out,?_,?_,HB5.out,HFOLD.out,?_,?_,?_,?_,?_⟩
        ·have hm:=map_set l p (x1,.slice xao x1.lines.length xcap) (fun p=>{p with lines:=p.lines++[s]}) (.slice vao (x1.lines.length+1) vcap) HXX.out;rw [HST.out];simp only;rw [hm,HREL.out.map];congr 1;rw [<- HREL.out.map,List.length_map,HPP.out];rfl
        ·rw [HST.out];simp only;rw [HQ.out];exact HI5.out
        ·rw [List.length_set];omega
        ·rw [HST.out];simp only;rw [HQ.out];omega
        ·intro y hy;rcases List.mem_or_eq_of_mem_set hy with h|h
         ·have:=HREL.out.lens y h;omega
         ·rw [h];simp only [List.length_append,List.length_cons,List.length_nil];omega
        ·intro n hn;rw [HST.out]at hn;rw [List.length_set];exact HREL.out.inlt n hn
        ·intro _;rw [List.length_set];omega
       case measure=>simp [intOf];omega
   ·have HST:=zh (Ak (st:=st) HN.out);have HOA:=HO;have HIA:=HI;have HBA:=HB
    go_wp2_with (first
     |(at_builtin;refine wpList_append_own _ rfl _ _ 61 rfl w.heap.size 65 ip (.agg #[.int .i64 0,.bool false,.string ⟨#[]⟩,.bool false,.slice none 0 0]) 5 64 Tryz.underlying61 hpi hp0 hp1 hp2 rfl (by decide) _ _ _ rfl (World.ownsRow.alloc HOA.out.row _) ⟨w2.heap.size,0,none⟩ 1 1 [.int .i64 (q:Int),.bool true,.string N,.bool true,.slice none 0 0] rfl rfl ?c1 ?c2 ?c3 ?c4 ?c5 ?_))
    case c1=>exact aL _ _ _ _ rfl
    case c2=>intro u hu;simp at hu;rcases hu with rfl|rfl|rfl|rfl|rfl<;>rfl
    case c3=>unfold maxLen;omega
    case c4=>omega
    case c5=>have:=HBA.out.size;simp;omega
    intro v4 w4 hown4 hgrow _;have hg1:w2.grownBy w4 u3.ownBlock:=(World.grownBy_alloc w2 _ _).trans hgrow;have hI4:=World.ownsRow.kept HIA.out hg1 (aZ HIA.out HOA.out.row (by decide));have hB4:=HBA.out.grown hg1 HBA.out.size (fun j hj=>(World.ownsRow.lt HOA.out.row j hj).1);have hown4':=hown4;obtain ⟨oao,ocap,hov,_⟩:=ab hown4';subst hov;clear hown4';have hO4:=aT.push HOA.out ⟨st.inn.length,true,N.data.toList,true,[]⟩ (.slice none 0 0) hg1 (by rw [HQ.out];simpa [aq]using hown4) (World.ownsRow_nil _ _ _ _) (fun i x hx=>⟨by
     rcases hx':x.2.ownBlock with _|k
     ·exact Or.inl rfl
     ·exact Or.inr (by simp [Value.ownBlock]),Or.inl rfl⟩)
    have HO4:=zh hO4;have HI4:=zh hI4;have HB4:=zh hB4;clear hgrow hg1 hO4 hI4 hB4 hown4
    go_wp2_with (first
     |(at_builtin;refine wpList_append_own _ rfl _ _ 107 rfl w.heap.size 3 ii (.int .i64 0) 1 8 Tryz.underlying107 hii hi0 hi1 hi2 rfl (by decide) _ _ _ rfl (World.ownsRow.alloc HI4.out _) ⟨w4.heap.size,0,none⟩ 1 1 [.int .i64 (l.length:Int)] rfl rfl ?d1 ?d2 ?d3 ?d4 ?d5 ?_))
    case d1=>exact aL _ _ _ _ rfl
    case d2=>intro u hu;simp at hu;rcases hu with rfl;rfl
    case d3=>unfold maxLen;omega
    case d4=>omega
    case d5=>have:=HB4.out.size;simp;omega
    intro v5 w5 hown5 hgrow _;have hg2:=(World.grownBy_alloc w4 (.cells #[.int .i64 (l.length:Int)] 3) (Value.slice iao q icap).ownBlock).trans hgrow;have hO5:=aT.grown HO4.out HI4.out (by decide) (by decide) hg2;have hB5:=HB4.out.grown hg2 HB4.out.size (fun j hj=>(World.ownsRow.lt HI4.out j hj).1);have HO5:=zh hO5;have HB5:=zh hB5;have HI5:=zh hown5;clear hgrow hg2 hO5 hB5 hown5;go_wp2_with fail;go_roundw
    case rel=>
     refine ⟨i+1,ag st s,_,false,by omega,rfl,(by rw [HST.out]),by go_num,HO5.out,?_,?_,HB5.out,HFOLD.out,?_,?_,?_,?_,?_⟩
     ·rw [HST.out,List.map_append,HREL.out.map];rfl
     ·rw [HST.out];simp only;rw [List.length_append,List.map_append,HQ.out,<- HREL.out.map,List.length_map];exact HI5.out
     ·rw [List.length_append];simp;omega
     ·rw [HST.out];simp only;rw [List.length_append,HQ.out];simp;omega
     ·intro x hx;rcases List.mem_append.1 hx with hx|hx
      ·have:=HREL.out.lens x hx;omega
      ·rw [List.mem_singleton.1 hx];simp
     ·intro n hn;rw [HST.out]at hn;rw [List.length_append];rcases List.mem_append.1 hn with hn|hn
      ·have:=HREL.out.inlt n hn;simp;omega
      ·rw [List.mem_singleton.1 hn,<- HREL.out.map,List.length_map];simp
     ·intro h;rw [HST.out]at h;cases h
    case measure=>simp [intOf];omega
  ·obtain rfl:i=ls.length:=(by omega);have hfold:=hrel.fold;rw [List.drop_length,List.foldl_nil]at hfold;have HE:=zh (show l.map (·.1)=F by rw [hrel.map,hfold,<- HF.out];rfl);have HREL:=zh hrel;clear hrel hfold hru;go_wp2_with fail;go_ret;exact ⟨_,l,rfl,HREL.out.out,HE.out,HREL.out.bel⟩
theorem Di:∀x∈aK,1 <= x.length∧x.length <= 20∧∀b∈x,97 <= b.toNat∧b.toNat <= 122:=by decide+kernel
theorem Dg:∀i:Fin 4,∀x,aK[i.val]? =some x ->jE aK x=(i.val:Int):=by
 intro i x hx;have h4:∀i:Fin 4,aK[i.val]?.map (jE aK)=some (i.val:Int):=(by decide+kernel);have:=h4 i;rw [hx]at this;exact Option.some.inj this
theorem wv:∀(i:Nat) x,aK[i]? =some x ->jE aK x=(i:Int):=fun i x hx=>
 Dg ⟨i,by have:=(List.getElem?_eq_some_iff.1 hx).1;exact this⟩ x hx
theorem EB:∀i,i<4 ->(0 <= (P4 i).1∧(P4 i).1<(4:Int))∧(0 <= (P4 i).2∧(P4 i).2<(4:Int))∧(P4 i).1≠(P4 i).2:=by decide
theorem BW {w:World} {gn g ncap cp k:Nat} {x:List UInt8} (hR:bO w (some ⟨gn,0,none⟩) aK) (hp:fM w (some ⟨g,0,none⟩) 4 P4) (hk:k<4) (hx:aK[k]? =some x):
  Calls Tryz.prog 14 #[.agg #[.slice (some ⟨gn,0,none⟩) 4 ncap,.slice (some ⟨g,0,none⟩) 4 cp],.string ⟨x.toArray⟩] w fun e w'=>∃sb,e=.returned (.tuple #[.pointer (some ⟨sb,0,none⟩),.int .i64 0])∧ig w' sb k∧Below w.heap.size w w':=by
 obtain ⟨is,hsi,hs0,hs1,hs2⟩:=info_parts ft;have hba:=(Below.refl w.heap.size w).alloc (Nat.le_refl _) (.cells #[.slice (some ⟨gn,0,none⟩) 4 ncap,.slice (some ⟨g,0,none⟩) 4 cp] 50);have hpx:=heap_alloc_new w (.cells #[.slice (some ⟨gn,0,none⟩) 4 ncap,.slice (some ⟨g,0,none⟩) 4 cp] 50);have hr1:=Cq (ncap:=ncap) (cp:=cp) (m:=4) P4 (hR.below hba) (by decide) Di wv (ez hba hp) (by omega) EB;have hix:=fun W (hW:bO W (some ⟨gn,0,none⟩) aK)=>kS (cap:=ncap) (some ⟨g,0,none⟩) 4 cp ⟨x.toArray⟩ hW (by decide);have e4:aK.length=4:=rfl;rw [e4]at hr1;rw [e4,show (({data:=x.toArray}:ByteArray).data.toList)=x from rfl,wv k x hx]at hix;have HX:=zh (And.intro hba hpx);have HR:=zh hR;have HP:=zh hp;have HR1:=zh hr1;have HIX:=zh hix;have hk0:¬(k:Int)<0:=(by omega);clear hR hp hba hpx hr1 hix hx e4;go_enter Tryz.func14,Tryz.ntmps14
 go_wp2_with fail;refine HR1.out.mono ?_;rintro e w2 ⟨rfl,hb2⟩;have HB2:=zh (HX.out.1.trans (hb2.mono HX.out.1.size));have hpx2:=(hb2.block _ (Array.getElem?_eq_some_iff.1 HX.out.2).1).trans HX.out.2;have HPX2:=zh hpx2;have c0:w2.cell? ⟨w.heap.size,0,none⟩=some (.slice (some ⟨gn,0,none⟩) 4 ncap):=(by rw [cell_of_row w2 w.heap.size _ _ _ _ hpx2];rfl);have c1:w2.cell? ⟨w.heap.size,1,none⟩=some (.slice (some ⟨g,0,none⟩) 4 cp):=(by rw [cell_of_row w2 w.heap.size _ _ _ _ hpx2];rfl);have HNW:=zh (wV (cp:=cp) (by omega) (by omega) (by omega) (ez HB2.out HP.out) AN pl);clear hb2 hpx2 HR1 HX;go_wp2_with fail;refine HNW.out.mono ?_;rintro e w3 ⟨lb,rfl,hb3,hla⟩;have HB3:=zh (HB2.out.trans (hb3.mono HB2.out.size));have hpx3:=(hb3.block _ (Array.getElem?_eq_some_iff.1 HPX2.out).1).trans HPX2.out;have HPX3:=zh hpx3;have HLA:=zh hla.mono;clear c0 c1 hla hb3 HNW HPX2 HB2;have c0:w3.cell? ⟨w.heap.size,0,none⟩=some (.slice (some ⟨gn,0,none⟩) 4 ncap):=(by rw [cell_of_row w3 w.heap.size _ _ _ _ hpx3];rfl);have c1:w3.cell? ⟨w.heap.size,1,none⟩=some (.slice (some ⟨g,0,none⟩) 4 cp):=(by rw [cell_of_row w3 w.heap.size _ _ _ _ hpx3];rfl);have HI3:=zh (HIX.out w3 (HR.out.below HB3.out));clear hpx3 HIX;go_wp2_with fail;refine HI3.out.mono ?_;rintro e w4 ⟨rfl,hb4⟩;have HB4:=zh (HB3.out.trans (hb4.mono HB3.out.size));have hpx4:=(hb4.block _ (Array.getElem?_eq_some_iff.1 HPX3.out).1).trans HPX3.out;have HLA4:=zh (HLA.out.keep hb4);clear c0 c1 hb4 HLA HPX3 HB3 HI3;have c0:w4.cell? ⟨w.heap.size,0,none⟩=some (.slice (some ⟨gn,0,none⟩) 4 ncap):=(by rw [cell_of_row w4 w.heap.size _ _ _ _ hpx4];rfl);have hR4:=HR.out.below HB4.out;have HR4:=zh hR4;clear hpx4 hR4
 go_wp2_with (first
  |(at_builtin;refine dS w4 rfl _ _ 22 rfl w4.heap.size 9 is (.string ⟨#[]⟩) 1 16 Tryz.underlying22 hsi hs0 hs1 hs2 rfl (by decide) _ 0 [] rfl (World.ownsRow_nil _ _ _ _) (some ⟨gn,0,none⟩) 4 ncap (aK.map fV) rfl HR4.out (fun h=>by cases h) (kC aK) ?c3 ?c4 ?c5 ?_))
 case c3=>unfold maxLen;omega
 case c4=>omega
 case c5=>exact Nat.le_refl _
 intro v5 w5 hown5 hgrow5;have hb5:=(Below.refl w4.heap.size w4).grown hgrow5 (Nat.le_refl _) (fun j hj=>by simp [Value.ownBlock]at hj);obtain ⟨vao,vc,hv,hvr,hvn,_⟩:=ab hown5;subst hv;obtain ⟨g5,o5,rfl⟩:=hvr.addr (by omega);obtain ⟨rfl,_⟩:=fx hown5;have HB5:=zh (HB4.out.trans (hb5.mono HB4.out.size));have HV5:=zh (show bO w5 (some ⟨g5,0,none⟩) aK from hvr);have HLA5:=zh (HLA4.out.keep hb5);clear hown5 hgrow5 hb5 hvr hvn c0 HLA4 HR4;go_wp2_with fail
 go_ret2
 have hbA:=(Below.refl w5.heap.size w5).alloc (Nat.le_refl _) (.cells #[.slice (some ⟨g5,0,none⟩) 4 vc,.slice none 0 0] 50);have hbB:=hbA.alloc hbA.size (.cells #[.slice (some ⟨g5,0,none⟩) 4 vc,.slice none 0 0,.pointer (some ⟨lb,0,none⟩),.int .i64 (k:Int)] 100);refine ⟨_,rfl,⟨hk,g5,vc,lb,?_,HV5.out.below hbB,HLA5.out.keep hbB⟩,HB5.out.trans (hbB.mono HB5.out.size)⟩;have:=heap_alloc_new (w5.alloc (.cells #[.slice (some ⟨g5,0,none⟩) 4 vc,.slice none 0 0] 50)) (.cells #[.slice (some ⟨g5,0,none⟩) 4 vc,.slice none 0 0,.pointer (some ⟨lb,0,none⟩),.int .i64 (k:Int)] 100)
 rwa [World.size_alloc]at this
theorem tV:∀a,a<4 ->∀c,c<4 ->bK 4 (gq 4 4 P4) a c=((a ||| c:Nat):Int):=by decide+kernel
theorem Dh:∀a,a<4 ->∀c,c<4 ->((gq 4 4 P4).getD a 0).testBit c=((a ||| c)==c):=by decide+kernel
theorem Ec:∀a,a<4 ->∀c,c<4 ->∀k,k<4 ->(((a ||| c) ||| k)==k)=(((a ||| k)==k)&&((c ||| k)==k))∧a ||| c<4:=by decide+kernel
theorem Df (x:List UInt8):jZ x<4∧(aK.contains x=true ->jE aK x=(jZ x:Nat))∧(aK.contains x=false ->jE aK x= -1∧jZ x=3):=by
 unfold jZ jE;cases h:aK.contains x
 ·simp
 ·have h1:aK.idxOf x<aK.length:=List.idxOf_lt_length_iff.2 (by simpa using h);have h2:aK.length=4:=rfl;exact ⟨by rw [if_pos rfl];omega,fun _=>by rw [if_pos rfl,if_pos rfl],fun h=>by cases h⟩
theorem Cy {w:World} {sb k:Nat} (h:ig w sb k) {ao:Option Addr} {cap:Nat} {l:List (List UInt8)} (hR:bO w ao l) (hl:l.length <= 1000000):
  Calls Tryz.prog 21 #[.pointer (some ⟨sb,0,none⟩),.slice ao l.length cap] w fun e w'=>e=.returned (.bool ((dA k).sees l))∧Below w.heap.size w w':=by
 have hk4:=h.kb;obtain ⟨_,gn,ncap,lb,h2,h3,h4⟩:=id h;have c2:w.cell? ⟨sb,2,none⟩=some (.pointer (some ⟨lb,0,none⟩)):=(by rw [cell_of_row w sb _ _ _ _ h2];rfl);have HB0:=zh (yO h4 (by omega) (by omega) (fun x y hx hy=>(pl x y hx hy).2.2));rw [b4]at HB0;obtain ⟨S,hS⟩:∃S,(dA k).sees l=S:=⟨_,rfl⟩
 rw [hS];have HS:=zh hS;have HA:=zh (And.intro h2 (And.intro h3 h4));have HR:=zh hR;clear h2 h3 h4 hS hR h;go_enter Tryz.func21,Tryz.ntmps21
 go_wp2_with fail;refine HB0.out.mono ?_;rintro e w1 ⟨rfl,rfl⟩;clear HB0;go_wp2_with fail;go_loopw [5,18] (fun u5 u18 wr=>∃(i acc:Nat),u5=.int .i64 (acc:Int)∧u18=.int .i64 (i:Int)∧i <= l.length∧acc<4∧Below w.heap.size w wr∧Hid ((((acc ||| k)==k)&&(l.drop i).all (dA k).see1)=S)) (fun _ u18 _=>l.length - (intOf u18).toNat)
 case atStart=>exact ⟨0,0,by go_num,by go_num,Nat.zero_le _,by omega,Below.refl _ _,zh (by have:=HS.out;unfold aS.sees at this;rw [List.drop_zero];simpa using this)⟩
 case round=>
  obtain ⟨i,acc,rfl,rfl,hi,ha4,hbw,HT⟩:=hrel;clear c2;have HBW:=zh hbw;have h2:=(hbw.block sb (Array.getElem?_eq_some_iff.1 HA.out.1).1).trans HA.out.1;have c0:wr.cell? ⟨sb,0,none⟩=some (.slice (some ⟨gn,0,none⟩) aK.length ncap):=(by rw [cell_of_row wr sb _ _ _ _ h2];rfl);have c1:wr.cell? ⟨sb,1,none⟩=some (.slice none 0 0):=(by rw [cell_of_row wr sb _ _ _ _ h2];rfl);have c2:wr.cell? ⟨sb,2,none⟩=some (.pointer (some ⟨lb,0,none⟩)):=(by rw [cell_of_row wr sb _ _ _ _ h2];rfl);have c3:wr.cell? ⟨sb,3,none⟩=some (.int .i64 (k:Int)):=(by rw [cell_of_row wr sb _ _ _ _ h2];rfl);clear h2 hbw;by_cases hlt:i<l.length
  ·obtain ⟨x,hx⟩:∃x,l[i]? =some x:=⟨_,List.getElem?_eq_getElem hlt⟩
   obtain ⟨g,o,rfl⟩:=bO.addr HR.out (by omega);have hcl:=bO.at' (HR.out.below HBW.out) i x hx;obtain ⟨X,hX⟩:∃X:ByteArray,(⟨x.toArray⟩:ByteArray)=X:=⟨_,rfl⟩
   have hXl:X.data.toList=x:=(by rw [<- hX]);rw [hX]at hcl;have hall:(l.drop i).all (dA k).see1=((dA k).see1 x&&(l.drop (i+1)).all (dA k).see1):=by
    obtain ⟨hk,rfl⟩:=List.getElem?_eq_some_iff.1 hx;rw [List.drop_eq_getElem_cons hk,List.all_cons]
   obtain ⟨d1,d2,d3⟩:=Df x;have hor:=Ec acc ha4 (jZ x) d1 k hk4;have HT2:=zh (show ((((acc ||| jZ x) ||| k)==k)&&(l.drop (i+1)).all (dA k).see1)=S by
    have h1:=HT.out;rw [hall]at h1;rw [hor.1,Bool.and_assoc];exact h1)
   have HI:=zh (kS (cap:=ncap) none 0 0 X (HA.out.2.1.below HBW.out) (by decide));rw [hXl]at HI;obtain ⟨n,hn⟩:∃n,aK.length=n:=⟨_,rfl⟩
   rw [hn]at c0 HI;have HOR:=zh hor.2;clear hx hX hXl hall hor hn HT;cases hc:aK.contains x
   ·obtain ⟨d4,d5⟩:=d3 hc;rw [d4]at HI;rw [d5]at HT2 HOR;clear d1 d2 d3 d4 d5 hc;go_wp2_with fail;refine HI.out.mono ?_;rintro e w2 ⟨rfl,hb⟩;have HB2:=zh (aa HBW.out hb);have h2:=(HB2.out.block sb (Array.getElem?_eq_some_iff.1 HA.out.1).1).trans HA.out.1;have c2:w2.cell? ⟨sb,2,none⟩=some (.pointer (some ⟨lb,0,none⟩)):=(by rw [cell_of_row w2 sb _ _ _ _ h2];rfl);have hla:=HA.out.2.2.keep HB2.out;have HTP:=zh (D7 hla (by omega) (by omega) (fun x y hx hy=>(pl x y hx hy).2.1));rw [t4]at HTP;have HJ:=zh (sS hla (by omega) (acc:Int) 3 (by omega) (by omega) (by omega) (by omega));rw [show bK 4 (gq 4 4 P4) (Int.toNat (acc:Int)) (Int.toNat 3)=((acc ||| 3:Nat):Int)from tV acc ha4 3 (by omega)]at HJ;clear hb h2 hla c0 c1 hcl HI;go_wp2_with fail;refine HTP.out.mono ?_;rintro e w3 ⟨rfl,rfl⟩;go_wp2_with fail;refine HJ.out.mono ?_;rintro e w3 ⟨rfl,rfl⟩;go_wp2_with fail;go_roundw;case rel=>exact ⟨i+1,acc ||| 3,rfl,by go_num,by omega,HOR.out,HB2.out,HT2⟩
    case measure=>simp [intOf];omega
   ·have d4:=d2 hc;rw [d4]at HI;obtain ⟨D,hD⟩:∃D,jZ x=D:=⟨_,rfl⟩
    rw [hD]at HI HT2 HOR d1;clear d2 d3 d4 hD hc;go_wp2_with fail;refine HI.out.mono ?_;rintro e w2 ⟨rfl,hb⟩;have HB2:=zh (aa HBW.out hb);have h2:=(HB2.out.block sb (Array.getElem?_eq_some_iff.1 HA.out.1).1).trans HA.out.1;have c2:w2.cell? ⟨sb,2,none⟩=some (.pointer (some ⟨lb,0,none⟩)):=(by rw [cell_of_row w2 sb _ _ _ _ h2];rfl);have hla:=HA.out.2.2.keep HB2.out;have HJ:=zh (sS hla (by omega) (acc:Int) (D:Int) (by omega) (by omega) (by omega) (by omega));rw [show bK 4 (gq 4 4 P4) (Int.toNat (acc:Int)) (Int.toNat (D:Int))=((acc ||| D:Nat):Int)from tV acc ha4 D d1]at HJ;have hD0:¬(D:Int)<0:=(by omega);clear hb h2 hla c0 c1 hcl HI;go_wp2_with fail;refine HJ.out.mono ?_;rintro e w3 ⟨rfl,rfl⟩;go_wp2_with fail;go_roundw;case rel=>exact ⟨i+1,acc ||| D,rfl,by go_num,by omega,HOR.out,HB2.out,HT2⟩
    case measure=>simp [intOf];omega
  ·have HSS:=zh (show ((acc ||| k)==k)=S by
    have h1:=HT.out;rw [List.drop_eq_nil_of_le (by omega)]at h1;simpa using h1)
   have HLQ:=zh (fun i:fF (Below wr.heap.size wr)=>(D5 ((HA.out.2.2.keep HBW.out).keep i.h) (by omega) (acc:Int) (k:Int) (by omega) (by omega) (by omega) (by omega)).mono (fun e w' (hq:e=.returned (.bool (((gq 4 4 P4).getD (Int.toNat (acc:Int)) 0).testBit (Int.toNat (k:Int))))∧i.w=w')=>(show e=.returned (.bool S)∧Below i.w.heap.size i.w w' from ⟨by rw [hq.1,<- HSS.out,<- Dh acc ha4 k hk4];rfl,by rw [<- hq.2];exact Below.refl _ _⟩)));have ne:Nonempty (fF (Below wr.heap.size wr)):=⟨⟨wr,Below.refl _ _⟩⟩
   have e2:=ay c2;have e3:=ay c3;clear c0 c1 c2 c3;go_wp2_with fail;refine aE (R:=Below wr.heap.size wr) (by kernel_rfl) (by kernel_rfl) (Below.refl _ _).drew ?_;repeat (go_big_quiet_step ((go_at_call 60;exact ek (HLQ.out _))))
   refine wpQuiet_nil ?_;rintro wn ⟨nq,hnq⟩;have hbn:Below wr.heap.size wr wn:=(by rw [hnq];exact nq.h);clear hnq nq e2 e3 ne HLQ;have HBE:=zh (aa HBW.out hbn);clear hbn;go_wp2_with fail;go_ret;exact ⟨rfl,HBE.out⟩
end Go.Proofs.YtcannffahjbjnaaGreatDoor
