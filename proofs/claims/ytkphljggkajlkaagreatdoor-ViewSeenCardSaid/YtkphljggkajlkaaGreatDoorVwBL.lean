import Derived.Test.YtkphljggkajlkaaGreatDoorVwBB
import Derived.Shelf.Slices.Turned
import Derived.Test.YtkphljggkajlkaaGreatDoorVwBI
import Derived.Test.YtkphljggkajlkaaGreatDoorVwBJ
import Derived.Lib.LastIndexLaws
import Derived.Test.YtkphljggkajlkaaGreatDoorVwBK
set_option linter.unusedVariables false
set_option linter.unusedSimpArgs false
namespace Go.Proofs.YtkphljggkajlkaaGreatDoor
open Go.RowKit
set_option maxRecDepth 100000
set_option linter.unusedVariables false
set_option linter.unusedSimpArgs false
def mkB (y:List UInt8):ByteArray:=⟨y.toArray⟩
theorem mkB_iff (z:List UInt8) (x:ByteArray):mkB z=x↔z=x.data.toList:=by
 unfold mkB;constructor
 ·intro h;rw [←h]
 ·intro h;rw [h]
def pIdx (l:List (List UInt8)) (x:List UInt8):Int:=if l.contains x then ((l.idxOf x:Nat):Int)else -1
theorem idxFrom_pIdx (x:ByteArray):∀(l:List (List UInt8)) (i:Nat),Lib.idxFromS (l.map mkB) x i=if l.contains x.data.toList then ((i+l.idxOf x.data.toList:Nat):Int)else -1
 |[],i=>rfl
 |z::l,i=>by
  rw [List.map_cons,Lib.idxFromS,idxFrom_pIdx x l (i+1)];by_cases h:z=x.data.toList
  ·rw [if_pos ((mkB_iff z x).2 h),h];simp
  ·rw [if_neg (fun e=>h ((mkB_iff z x).1 e))];have h2:(x.data.toList==z)=false:=(by simpa using fun e=>h e.symm);have h3:(z==x.data.toList)=false:=(by simpa using h);rw [List.contains_cons,h2,Bool.false_or,List.idxOf_cons,h3];simp only [cond_false];split
   ·congr 1;omega
   ·rfl
theorem idxOf_pIdx (l:List (List UInt8)) (x:ByteArray):Lib.idxOfS (l.map mkB) x=pIdx l x.data.toList:=by
 unfold Lib.idxOfS pIdx;rw [idxFrom_pIdx];simp
set_option maxHeartbeats 4000000 in
theorem index_any {w:World} {g o cap:Nat} {l:List (List UInt8)} (bo:Option Addr) (bn bc:Nat) (x:ByteArray) (hR:StrR w (some ⟨g,o,none⟩) l) (hl:l.length≤1000):
  Calls Tryz.prog 16 #[.agg #[.slice (some ⟨g,o,none⟩) l.length cap,.slice bo bn bc],.string x] w fun e w'=>e=.returned (.int .i64 (pIdx l x.data.toList))∧Below w.heap.size w w':=by
 have hba:=(Below.refl w.heap.size w).alloc (Nat.le_refl _) (.cells #[.slice (some ⟨g,o,none⟩) l.length cap,.slice bo bn bc] 51);have hR2:=hR.below hba;have hx:=fun (L:List ByteArray) (hL:l.map mkB=L)=>Any.slices_Index_string Tryz.lays109 g o l.length cap L x (w.alloc (.cells #[.slice (some ⟨g,o,none⟩) l.length cap,.slice bo bn bc] 51)) (by rw [←hL];simp) (by omega) (fun j hj=>by
  subst hL;have hj':j<l.length:=(by simpa using hj);have:=hR2.at' j l[j] (List.getElem?_eq_getElem hj');rw [this];simp [mkB,List.getD,hj'])
 have hx2:=hx _ rfl;rw [List.take_of_length_le (by simp),idxOf_pIdx]at hx2;have HX:=Lib.hid hx2;have HB:=Lib.hid hba;clear hx hx2 hR2 hba hR;go_enter Tryz.func16,Tryz.ntmps16
 go_wp2_with fail;refine HX.out.mono ?_;rintro e w2 ⟨rfl,rfl⟩;have HB2:=HB;go_wp2_with fail;go_ret;exact ⟨rfl,HB2.out⟩
theorem LatAt.keep {B:Nat} {w w':World} {b n:Nat} {U D:List Nat} (h:LatAt B w b n U D) (hb:Below w.heap.size w w'):LatAt B w' b n U D:=by
 obtain ⟨h1,h2,⟨bu,u1,u2,u3⟩,⟨v,j1,j2⟩,⟨v2,m1,m2⟩,hs⟩:=h
 exact ⟨Nat.lt_of_lt_of_le h1 hb.size,h2,⟨bu,(hb.cell (p:=⟨b,0,none⟩) h1).trans u1,Nat.lt_of_lt_of_le u2 hb.size,fun i hi=>(hb.cell (p:=⟨bu,i,none⟩) u2).trans (u3 i hi)⟩,
  ⟨v,(hb.cell (p:=⟨b,2,none⟩) h1).trans j1,j2.below hb⟩,⟨v2,(hb.cell (p:=⟨b,3,none⟩) h1).trans m1,m2.below hb⟩,hs⟩
structure SeerAt (w:World) (sb k:Nat):Prop where
 kb:k<4
 at':∃gn cap lb,w.heap[sb]? =some (.cells #[.slice (some ⟨gn,0,none⟩) diaNames.length cap,.slice none 0 0,.pointer (some ⟨lb,0,none⟩),.int .i64 (k:Int)] 60 (0,0))∧StrR w (some ⟨gn,0,none⟩) diaNames∧LatAt 0 w lb 4 (upOf 4 4 P4) (downOf 4 4 P4)
theorem SeerAt.below {w w':World} {sb k:Nat} (h:SeerAt w sb k) (hb:Below w.heap.size w w'):SeerAt w' sb k:=by
 obtain ⟨h1,gn,cap,lb,h2,h3,h4⟩:=h;exact ⟨h1,gn,cap,lb,(hb.block sb (Array.getElem?_eq_some_iff.1 h2).1).trans h2,h3.below hb,h4.keep hb⟩
set_option maxHeartbeats 4000000 in
theorem unknown_any {w:World} {sb k:Nat} (h:SeerAt w sb k) (x:ByteArray):
  Calls Tryz.prog 59 #[.pointer (some ⟨sb,0,none⟩),.string x] w fun e w'=>e=.returned (.bool ((diaSeer k).unk x.data.toList))∧Below w.heap.size w w':=by
 obtain ⟨_,gn,cap,lb,h2,h3,h4⟩:=h;have c0:w.cell? ⟨sb,0,none⟩=some (.slice (some ⟨gn,0,none⟩) diaNames.length cap):=(by rw [cell_of_row w sb _ _ _ _ h2];rfl);have c1:w.cell? ⟨sb,1,none⟩=some (.slice none 0 0):=(by rw [cell_of_row w sb _ _ _ _ h2];rfl);have HI:=Lib.hid (index_any (cap:=cap) none 0 0 x h3 (by decide));have hv:(diaSeer k).unk x.data.toList=decide (pIdx diaNames x.data.toList<0):=by
  unfold diaSeer pIdx;simp only;cases diaNames.contains x.data.toList
  ·rfl
  ·simp
 obtain ⟨n,hn⟩:∃n,diaNames.length=n:=⟨_,rfl⟩
 rw [hn]at c0 HI;obtain ⟨v,hv2⟩:∃v,pIdx diaNames x.data.toList=v:=⟨_,rfl⟩
 rw [hv2]at HI hv;have HV:=Lib.hid hv;clear hv hv2 hn h2 h3 h4;go_enter Tryz.func59,Tryz.ntmps59
 go_wp2_with fail;refine HI.out.mono ?_;rintro e w2 ⟨rfl,hb⟩;have HB:=Lib.hid hb;clear hb;go_wp2_with fail;go_ret;exact ⟨by rw [HV.out];try rfl,HB.out⟩
theorem idxB_hit:∀(l:List UInt8) (c:UInt8) (k:Nat),l[k]? =some c→(∀j,j<k→l[j]? ≠some c)→Lib.indexByte l c=k
 |[],c,k,h,_=>by simp at h
 |b::t,c,0,h,_=>by
  have:b=c:=(by simpa using h);subst this;unfold Lib.indexByte;simp
 |b::t,c,k+1,h,hn=>by
  have hb:(b==c)=false:=by
   have:=hn 0 (by omega);simpa using this
  have ih:=idxB_hit t c k (by simpa using h) (fun j hj=>by have:=hn (j+1) (by omega);simpa using this);unfold Lib.indexByte;rw [hb,ih];simp;try omega
theorem idxB_miss:∀(l:List UInt8) (c:UInt8),(∀j:Nat,l[j]? ≠some c)→Lib.indexByte l c= -1
 |[],c,_=>rfl
 |b::t,c,hn=>by
  have hb:(b==c)=false:=by
   have:=hn 0;simpa using this
  have ih:=idxB_miss t c (fun j=>by have:=hn (j+1);simpa using this);unfold Lib.indexByte;rw [hb,ih];simp
theorem cutAt_hit {l:List UInt8} {c:UInt8} {k:Nat} (h:l[k]? =some c) (hn:∀j,j<k→l[j]? ≠some c):cutAt c l=(l.take k,l.drop (k+1),true):=by
 unfold cutAt Lib.cut;rw [Lib.index_one,idxB_hit l c k h hn,if_pos (by omega)];rfl
theorem cutAt_miss {l:List UInt8} {c:UInt8} (hn:∀j:Nat,l[j]? ≠some c):cutAt c l=(l,[],false):=by
 unfold cutAt Lib.cut;rw [Lib.index_one,idxB_miss l c hn,if_neg (by omega)]
theorem rune_bytes {l:List UInt8} {b:UInt8} {z:List UInt8} (hl:l=b::z) (hb:128≤b.toNat):∀j x,j<(Lib.decodeL l).2→l[j]? =some x→128≤x.toNat:=by
 subst hl;intro j x hj hx;cases j with
 |zero=>simp at hx;subst hx;exact hb
 |succ j=>
  have hc:=(width_conts b z).1 x;refine isCont_big (hc ?_);have h1:z[j]? =some x:=(by simpa using hx);have h2:(z.take ((Lib.decodeL (b::z)).2 - 1))[j]? =some x:=(by rw [List.getElem?_take,if_pos (by omega)];exact h1);exact List.mem_of_getElem? h2
set_option maxHeartbeats 8000000 in
theorem vcut_any (s:ByteArray) (w:World) (hs:s.size≤1000000000):
  Calls Tryz.prog 90 #[.string s] w fun e w'=>e=.returned (.tuple #[.string ⟨(cutAt 10 s.data.toList).1.toArray⟩,.string ⟨(cutAt 10 s.data.toList).2.1.toArray⟩])∧Below w.heap.size w w':=by
 obtain ⟨cx,cy,cz,hcx⟩:∃x y z,cutAt 10 s.data.toList=(x,y,z):=⟨_,_,_,rfl⟩
 rw [hcx];simp only;have HCX:=Lib.hid hcx;clear hcx;go_enter Tryz.func90,Tryz.ntmps90
 go_wp2_with fail;go_loopw [] (fun wr=>∃pos,wr.heap[w.heap.size]? =some (.stringIter s pos)∧Below w.heap.size w wr∧Hid (∀j,j<pos→s.data.toList[j]? ≠some 10)) (fun wr=>s.size - wr.iterPos w.heap.size)
 case atStart=>
  refine ⟨0,?_,(Below.refl _ w).alloc (Nat.le_refl _) _,Lib.hid (fun j hj=>absurd hj (by omega))⟩;have:=World.iter_heap w s 0;simpa using this
 case round=>
  obtain ⟨pos,hit,hbw,HNO⟩:=hrel;by_cases hp:pos<s.size
  ·have hnx:∀ty,(Instr.next (.pointer (some ⟨w.heap.size,0,none⟩)) true ty).run Tryz.prog wr=_:=fun ty=>Lib.run_next_any_at wr w.heap.size s pos ty hit hp;have hit2:=Lib.iterAt_heap wr w.heap.size s pos (pos+(Utf8.decode s pos).2) hit;have hbw2:=Lib.below_iterAt hbw (k:=w.heap.size) (by omega) s (pos+(Utf8.decode s pos).2);have hdl:=Lib.decodeL_drop s pos;have hwd:=Lib.decodeL_width (s.data.toList.drop pos);have hrl:=Lib.decodeL_rune (s.data.toList.drop pos);have hpl:pos<s.data.toList.length:=(by rw [←Lib.size_eq];exact hp);have hdr:=List.drop_eq_getElem_cons hpl;obtain ⟨b,hb⟩:∃b,s.data.toList[pos]=b:=⟨_,rfl⟩
   rw [hb]at hdr;have hbp:s.data.toList[pos]? =some b:=(by rw [←hb];exact List.getElem?_eq_getElem hpl);have hne:s.data.toList.drop pos≠[]:=(by rw [hdr];simp);have hwl:=Lib.decodeL_le _ hne;rw [←hdl]at hnx hit2 hbw2;have hby:(Lib.decodeL (s.data.toList.drop pos)).1=10↔b=10:=by
    by_cases h:b.toNat<128
    ·rw [hdr,Lib.decodeL_ascii b _ h];simp only;exact ⟨fun e=>UInt8.toNat_inj.1 e,fun e=>by rw [e];rfl⟩
    ·have:=decodeL_big b (s.data.toList.drop (pos+1)) (by omega);rw [hdr];exact ⟨fun e=>by omega,fun e=>by rw [e]at h;exact absurd (by decide) h⟩
   have hstep:b≠10→∀j,j<pos+(Lib.decodeL (s.data.toList.drop pos)).2→s.data.toList[j]? ≠some 10:=fun hb10 j hj he=>by
    by_cases hjp:j<pos
    ·exact HNO.out j hjp he
    ·by_cases h:b.toNat<128
     ·rw [hdr,Lib.decodeL_ascii b _ h]at hj;have:j=pos:=(by simp only at hj;omega);rw [this,hbp]at he;exact hb10 (Option.some.inj he)
     ·have h1:=rune_bytes hdr (by omega) (j - pos) 10 (by omega) (by rw [List.getElem?_drop,show pos+(j - pos)=j by omega];exact he);exact absurd h1 (by decide)
   obtain ⟨r,n,hrn⟩:∃r n,Lib.decodeL (s.data.toList.drop pos)=(r,n):=⟨_,_,rfl⟩
   rw [hrn]at hnx hit2 hbw2 hwd hrl hwl hby hstep;simp only at hnx hit2 hbw2 hwd hrl hwl hby hstep;have hpn:pos+n≤s.size:=(by simp at hwl;omega);obtain ⟨wi,hwi⟩:∃wi,wr.iterAt w.heap.size s (pos+n)=wi:=⟨_,rfl⟩
   rw [hwi]at hit2 hbw2;have HST:=Lib.hid hstep;have HBP:=Lib.hid hbp;have HBY:=Lib.hid hby;clear hstep hbp hby hdl hdr hb hne hrn hrl hwl hpl;by_cases h10:r=10
   ·have k0:((r:Int)==10)=true:=(by rw [h10];rfl);have hc:=cutAt_hit (by rw [HBP.out,HBY.out.1 h10]) HNO.out;obtain ⟨F,hF⟩:∃F:ByteArray,s.extract 0 pos=F:=⟨_,rfl⟩
    have hFl:s.data.toList.take pos=F.data.toList:=(by rw [←hF,Lib.extract_data];simp);obtain ⟨G,hG⟩:∃G:ByteArray,s.extract (pos+1) s.size=G:=⟨_,rfl⟩
    have hGl:s.data.toList.drop (pos+1)=G.data.toList:=(by rw [←hG,Lib.extract_to_end]);rw [HCX.out,hFl,hGl]at hc;simp only [Prod.mk.injEq]at hc;have HXY:=Lib.hid hc;have hw1:IntKind.i64.wrap ((pos:Int)+1)=(pos:Int)+1:=IntWalk.i64_in _ (by omega);have hp1:(pos:Int)+1≤(s.size:Int):=(by omega);have HB:=Lib.hid hbw2;clear hc hFl hGl h10 hbw2 hbw;go_wp2_with fail;go_quiet (fail)
    go_wp2_with fail;refine bodyPost_ret (v:=.tuple #[.string F,.string G]) (by simp [results,Tryz.results90,go_sem,hF,hG]) rfl ⟨by rw [HXY.out.1,HXY.out.2.1,Lib.mk_data,Lib.mk_data],HB.out.trans ((below_drewN _ _).mono HB.out.size)⟩
   ·have k0:((r:Int)==10)=false:=(by simp;omega);have HN:=Lib.hid (HST.out (fun e=>h10 (HBY.out.2 e)));clear h10;go_wp2_with fail;go_roundw;case rel=>exact ⟨pos+n,hit2,hbw2,HN⟩
    case measure=>simp only [World.iterPos,hit2,hit];omega
  ·have hnx:∀ty,(Instr.next (.pointer (some ⟨w.heap.size,0,none⟩)) true ty).run Tryz.prog wr=_:=fun ty=>Lib.run_next_end_at wr w.heap.size s pos ty hit hp;have hc:=cutAt_miss (l:=s.data.toList) (c:=10) (fun j he=>by
    have:=(List.getElem?_eq_some_iff.1 he).1;rw [←Lib.size_eq]at this;exact HNO.out j (by omega) he)
   rw [HCX.out]at hc;simp only [Prod.mk.injEq]at hc;have HXY:=Lib.hid hc;have HB:=Lib.hid hbw;clear hc hbw;go_wp2_with fail;refine bodyPost_ret (v:=.tuple #[.string s,.string ⟨#[]⟩]) (by simp [results,Tryz.results90,go_sem]) rfl ⟨by rw [HXY.out.1,HXY.out.2.1,Lib.mk_data],HB.out⟩
set_option maxHeartbeats 8000000 in
theorem name_low (s:ByteArray) (w:World) (h1:1≤s.size) (h2:s.size≤20) (hlow:∀b∈s.data.toList,97≤b.toNat∧b.toNat≤122):
  Calls Tryz.prog 74 #[.string s] w fun e w'=>e=.returned (.bool true)∧Below w.heap.size w w':=by
 have HLOW:=Lib.hid hlow;clear hlow;go_enter Tryz.func74,Tryz.ntmps74
 go_wp2_with fail;go_loopw [] (fun wr=>∃pos,wr.heap[w.heap.size]? =some (.stringIter s pos)∧Below w.heap.size w wr) (fun wr=>s.size - wr.iterPos w.heap.size)
 case atStart=>
  refine ⟨0,?_,(Below.refl _ w).alloc (Nat.le_refl _) _⟩;have:=World.iter_heap w s 0;simpa using this
 case round=>
  obtain ⟨pos,hit,hbw⟩:=hrel;by_cases hp:pos<s.size
  ·have hnx:∀ty,(Instr.next (.pointer (some ⟨w.heap.size,0,none⟩)) true ty).run Tryz.prog wr=_:=fun ty=>Lib.run_next_any_at wr w.heap.size s pos ty hit hp;have hit2:=Lib.iterAt_heap wr w.heap.size s pos (pos+(Utf8.decode s pos).2) hit;have hbw2:=Lib.below_iterAt hbw (k:=w.heap.size) (by omega) s (pos+(Utf8.decode s pos).2);have hdl:=Lib.decodeL_drop s pos;have hpl:pos<s.data.toList.length:=(by rw [←Lib.size_eq];exact hp);have hdr:=List.drop_eq_getElem_cons hpl;obtain ⟨b,hb⟩:∃b,s.data.toList[pos]=b:=⟨_,rfl⟩
   rw [hb]at hdr;have hbl:=HLOW.out b (by rw [←hb];exact List.getElem_mem hpl);rw [hdr,Lib.decodeL_ascii b _ (by omega)]at hdl;rw [←hdl]at hnx hit2 hbw2;simp only at hnx hit2 hbw2;have q1:decide (((b.toNat:Nat):Int)<97)=false:=decide_eq_false (by omega);have q2:decide ((122:Int)<((b.toNat:Nat):Int))=false:=decide_eq_false (by omega);obtain ⟨r,hr⟩:∃r,b.toNat=r:=⟨_,rfl⟩
   rw [hr]at hnx q1 q2;obtain ⟨wi,hwi⟩:∃wi,wr.iterAt w.heap.size s (pos+1)=wi:=⟨_,rfl⟩
   rw [hwi]at hit2 hbw2;clear hdl hdr hb hbl hr hpl;go_wp2_with fail;go_roundw;case rel=>exact ⟨pos+1,hit2,hbw2⟩
   case measure=>simp only [World.iterPos,hit2,hit];omega
  ·have hnx:∀ty,(Instr.next (.pointer (some ⟨w.heap.size,0,none⟩)) true ty).run Tryz.prog wr=_:=fun ty=>Lib.run_next_end_at wr w.heap.size s pos ty hit hp;have HB:=Lib.hid hbw;have hne:¬s=(⟨#[]⟩:ByteArray):=fun h=>by subst h;exact absurd h1 (by decide)
   have hne2:¬s.toList=[]:=fun h=>hne ((Lib.bytes_beq_iff _ _).1 (by rw [h];first|decide|simp [ByteArray.toList,ByteArray.toList.loop]|(unfold ByteArray.toList;unfold ByteArray.toList.loop;rfl)));have h20:(s.size:Int)≤20:=(by omega);clear hbw;go_wp2_with fail;go_ret;exact ⟨by simp [hne2,h2,h20],HB.out⟩
end Go.Proofs.YtkphljggkajlkaaGreatDoor
namespace Go.Proofs.YtkphljggkajlkaaGreatDoor
open Go.RowKit Go
set_option linter.unusedVariables false
set_option linter.unusedSimpArgs false
structure ExtW (R:World→Prop) where
 w:World
 h:R w
theorem wp_region_ext {P:Program} {R:World→Prop} {id:Nat} {Q:Exit→Act→World→Prop} {a:Act} {w:World} {l:List Oper} (hm:P.follows .mixedOrders=true) (hB:Region.lexB .any l.toArray=true) (hR:R w.drew)
  (h:wpQuiet P l.toArray (fun w'=>∃i:ExtW R,w'=i.w) (fun a'=>∀w',(∃i:ExtW R,w'=i.w)→Q .normal a' w') l a):(Code.region id l.toArray true).wp P Q a w:=
 wp_region_quiet (C:=fun w'=>∃i:ExtW R,w'=i.w) hm hB ⟨⟨_,hR⟩,rfl⟩ (by simpa using h)
theorem calls_ext {P:Program} {W:World} {f:FuncId} {args:Array Value} {i:ExtW (Below W.heap.size W)} {v:Value}
  (h:Calls P f args i.w fun e w'=>e=.returned v∧Below i.w.heap.size i.w w'):Calls P f args i.w fun e w''=>e=.returned v∧∃j:ExtW (Below W.heap.size W),w''=j.w:=
 h.mono fun _ w' ⟨he,hb⟩=>⟨he,⟨w',i.h.trans (hb.mono i.h.size)⟩,rfl⟩
theorem ext_cell {W:World} {g o:Nat} {v:Value} (h:W.cell? ⟨g,o,none⟩=some v) (i:ExtW (Below W.heap.size W)):i.w.cell? ⟨g,o,none⟩=some v:=
 (i.h.cell (World.block_lt_of_cell? _ _ h)).trans h
end Go.Proofs.YtkphljggkajlkaaGreatDoor
namespace Go.Proofs.YtkphljggkajlkaaGreatDoor
open Go.RowKit
set_option maxRecDepth 100000
set_option linter.unusedVariables false
set_option linter.unusedSimpArgs false
theorem BpAt.setPos {B b:Nat} {w:World} {lv:Value} {pos d:Nat} {ov:Value} {out:List BlkL} (h:BpAt B b w lv pos d ov out) (p:Nat):BpAt B b (w.setCell ⟨b,1,none⟩ (.int .i64 (p:Int))) lv p d ov out:=
 ⟨heap_setCell_same w b 1 _ _ _ h.heap,own_setCell (a:=⟨b,1,none⟩) h.own h.heap (by decide) _,h.base⟩
theorem Kp.setPos {B b:Nat} {ov:Value} {w0 w:World} (h:Kp B b ov w0 w) (hb:B≤b) (u:Value):Kp B b ov w0 (w.setCell ⟨b,1,none⟩ u):=
 ⟨h.below.setCell (p:=⟨b,1,none⟩) hb _,fun k hk hkb hne=>(Below.heap_setCell w ⟨b,1,none⟩ u k hkb).trans (h.keep k hk hkb hne)⟩
theorem Kp.step {B b:Nat} {ov:Value} {w0 w w':World} (h:Kp B b ov w0 w) (hb:Below w.heap.size w w') (hB:B≤w0.heap.size):Kp B b ov w0 w':=
 ⟨h.below.trans (hb.mono (Nat.le_trans hB h.below.size)),fun k hk hkb hne=>(hb.block k (Nat.lt_of_lt_of_le hk h.below.size)).trans (h.keep k hk hkb hne)⟩
def wt (s:List UInt8):Nat:=s.length+3*s.count 9
def tot (ls:List (List UInt8)):Nat:=(ls.map fun x=>wt x+1).sum
theorem tot_mem {ls:List (List UInt8)} {x:List UInt8} (h:x∈ls):wt x+1≤tot ls:=by
 unfold tot;induction ls with
 |nil=>cases h
 |cons y ls ih=>
  rw [List.map_cons,List.sum_cons];rcases List.mem_cons.1 h with rfl|h
  ·omega
  ·have:=ih h;omega
theorem tot_len (ls:List (List UInt8)):ls.length≤tot ls:=by
 unfold tot;induction ls with
 |nil=>simp
 |cons y ls ih=>rw [List.map_cons,List.sum_cons,List.length_cons];omega
theorem tot_take (ls:List (List UInt8)) (n:Nat):tot (ls.take n)≤tot ls:=by
 unfold tot;induction ls generalizing n with
 |nil=>simp
 |cons y ls ih=>
  cases n with
  |zero=>simp
  |succ n=>rw [List.take_succ_cons,List.map_cons,List.map_cons,List.sum_cons,List.sum_cons];have:=ih n;omega
theorem tot_drop (ls:List (List UInt8)) (n:Nat):tot (ls.drop n)≤tot ls:=by
 unfold tot;induction ls generalizing n with
 |nil=>simp
 |cons y ls ih=>
  cases n with
  |zero=>simp
  |succ n=>rw [List.drop_succ_cons,List.map_cons,List.sum_cons];have:=ih n;omega
theorem join_tot (ls:List (List UInt8)):(joinL ls).length≤tot ls:=by
 unfold tot joinL wt;induction ls with
 |nil=>simp
 |cons y ls ih=>rw [List.flatMap_cons,List.length_append,List.map_cons,List.sum_cons];simp only [List.length_append,List.length_cons,List.length_nil];omega
theorem len_tot {ls:List (List UInt8)} {x:List UInt8} (h:x∈ls):x.length≤tot ls:=by
 have:=tot_mem h;unfold wt at this;omega
structure BpIn (B b:Nat) (w:World) (lao:Option Addr) (lcap:Nat) (ls:List (List UInt8)) (pos d:Nat) (ov:Value) (out:List BlkL):Prop where
 pr:BpAt B b w (.slice lao ls.length lcap) pos d ov out
 lr:StrR w lao ls
 lb:∀ad,lao=some ad→ad.block<B
 lt:tot ls≤1000000
 lc:ls.length≤lcap
 ps:pos≤ls.length+1
 dp:d≤12
 ol:out.length≤100000000
theorem BpIn.below {B b:Nat} {w w':World} {lao:Option Addr} {lcap:Nat} {ls:List (List UInt8)} {pos d:Nat} {ov:Value} {out:List BlkL} (h:BpIn B b w lao lcap ls pos d ov out) (hb:Below w.heap.size w w'):BpIn B b w' lao lcap ls pos d ov out:=
 ⟨h.pr.below hb,h.lr.below hb,h.lb,h.lt,h.lc,h.ps,h.dp,h.ol⟩
theorem BpIn.hB {B b:Nat} {w:World} {lao:Option Addr} {lcap:Nat} {ls:List (List UInt8)} {pos d:Nat} {ov:Value} {out:List BlkL} (h:BpIn B b w lao lcap ls pos d ov out):B≤w.heap.size:=by
 have:=h.pr.base;have:=h.pr.lt;omega
theorem BpIn.setPos {B b:Nat} {w:World} {lao:Option Addr} {lcap:Nat} {ls:List (List UInt8)} {pos d:Nat} {ov:Value} {out:List BlkL} (h:BpIn B b w lao lcap ls pos d ov out) (p:Nat) (u:Value) (hu:u=.int .i64 (p:Int)) (hp:p≤ls.length+1):BpIn B b (w.setCell ⟨b,1,none⟩ u) lao lcap ls p d ov out:=
 ⟨by rw [hu];exact h.pr.setPos p,h.lr.belowB ((Below.refl B w).setCell (p:=⟨b,1,none⟩) h.pr.base _) h.lb,h.lb,h.lt,h.lc,hp,h.dp,h.ol⟩
theorem BpIn.line {B b:Nat} {w:World} {g o:Nat} {lcap:Nat} {ls:List (List UInt8)} {pos d:Nat} {ov:Value} {out:List BlkL} (h:BpIn B b w (some ⟨g,o,none⟩) lcap ls pos d ov out) (i:Nat) (hi:i<ls.length):
  ∃X:ByteArray,ls[i]? =some X.data.toList∧w.cell? ⟨g,o+i,none⟩=some (.string X)∧X.size≤1000000:=by
 obtain ⟨x,hx⟩:∃x,ls[i]? =some x:=⟨_,List.getElem?_eq_getElem hi⟩
 refine ⟨⟨x.toArray⟩,hx,h.lr.at' i x hx,?_⟩;have:=len_tot (List.mem_of_getElem? hx);have:=h.lt;rw [Lib.size_eq];simp only;omega
theorem BpIn.ll {B b:Nat} {w:World} {lao:Option Addr} {lcap:Nat} {ls:List (List UInt8)} {pos d:Nat} {ov:Value} {out:List BlkL} (h:BpIn B b w lao lcap ls pos d ov out):ls.length≤1000000:=by
 have:=tot_len ls;have:=h.lt;omega
set_option maxHeartbeats 4000000 in
theorem bquotes {B b:Nat} {w:World} {lv:Value} {pos d:Nat} {ov:Value} {out:List BlkL} (s:ByteArray) (h:BpAt B b w lv pos d ov out) (hs:s.size≤1000000) (hd:d≤12):
  Calls Tryz.prog 143 #[.pointer (some ⟨b,0,none⟩),.string s] w fun e w'=>e=.returned (.bool (quotesP d s.data.toList))∧Below w.heap.size w w':=by
 have hq:=fun W=>quote_any s W hs;have hv:quotesP d s.data.toList=((quoteL s.data.toList).2&&decide (d<12)):=rfl;obtain ⟨q,is,hqi⟩:∃q is,quoteL s.data.toList=(q,is):=⟨_,_,rfl⟩
 rw [hqi]at hq hv;simp only at hq hv;have HQ:=Lib.hid hq;have HV:=Lib.hid hv;have HH:=Lib.hid h;clear hq hv hqi h;go_enter Tryz.func143,Tryz.ntmps143
 go_wp2_with fail;refine (HQ.out _).mono ?_;rintro e w2 ⟨rfl,b2⟩;obtain ⟨_,_,c2,_⟩:=(HH.out.below b2).cells;have HB:=Lib.hid b2;clear b2;cases is
 ·have HF:=Lib.hid (show quotesP d s.data.toList=false by rw [HV.out];rfl);go_wp2_with fail;go_ret;exact ⟨by rw [HF.out];try rfl,HB.out⟩
 ·have HF:=Lib.hid (show quotesP d s.data.toList=decide ((d:Int)<12) by
   rw [HV.out];by_cases h:d<12
   ·rw [decide_eq_true h,decide_eq_true (by omega)];rfl
   ·rw [decide_eq_false h,decide_eq_false (by omega)];rfl)
  go_wp2_with fail;go_ret;exact ⟨by rw [HF.out];try rfl,HB.out⟩
set_option maxHeartbeats 4000000 in
theorem blists {B b:Nat} {w:World} {lv:Value} {pos d:Nat} {ov:Value} {out:List BlkL} (s:ByteArray) (h:BpAt B b w lv pos d ov out) (hs:s.size≤1000000) (hd:d≤12):
  Calls Tryz.prog 145 #[.pointer (some ⟨b,0,none⟩),.string s] w fun e w'=>e=.returned (.bool (listsP d s.data.toList))∧Below w.heap.size w w':=by
 have hq:=fun W=>item_any s W hs;have hv:listsP d s.data.toList=((itemL s.data.toList).2.2.2.2&&decide (d<11)):=rfl;obtain ⟨q1,q2,q3,q4,is,hqi⟩:∃a b c d e,itemL s.data.toList=(a,b,c,d,e):=⟨_,_,_,_,_,rfl⟩
 rw [hqi]at hq hv;simp only at hq hv;have HQ:=Lib.hid hq;have HV:=Lib.hid hv;have HH:=Lib.hid h;clear hq hv hqi h;go_enter Tryz.func145,Tryz.ntmps145
 go_wp2_with fail;refine (HQ.out _).mono ?_;rintro e w2 ⟨rfl,b2⟩;obtain ⟨_,_,c2,_⟩:=(HH.out.below b2).cells;have HB:=Lib.hid b2;clear b2;cases is
 ·have HF:=Lib.hid (show listsP d s.data.toList=false by rw [HV.out];rfl);go_wp2_with fail;go_ret;exact ⟨by rw [HF.out];try rfl,HB.out⟩
 ·have HF:=Lib.hid (show listsP d s.data.toList=decide ((d:Int)<11) by
   rw [HV.out];by_cases h:d<11
   ·rw [decide_eq_true h,decide_eq_true (by omega)];rfl
   ·rw [decide_eq_false h,decide_eq_false (by omega)];rfl)
  go_wp2_with fail;go_ret;exact ⟨by rw [HF.out];try rfl,HB.out⟩
def rawN (ls:List (List UInt8)):Nat:=(ls.takeWhile fun x=> !blankV x).length
theorem rawN_stop {ls:List (List UInt8)} {s:List UInt8} {i:Nat} (h:ls[i]? =some s) (hb:blankV s=true):rawN (ls.drop i)=0:=by
 obtain ⟨hi,rfl⟩:=List.getElem?_eq_some_iff.1 h;unfold rawN;rw [List.drop_eq_getElem_cons hi,List.takeWhile_cons_of_neg (by rw [hb];simp)];rfl
theorem rawN_go {ls:List (List UInt8)} {s:List UInt8} {i:Nat} (h:ls[i]? =some s) (hb:blankV s=false):rawN (ls.drop i)=rawN (ls.drop (i+1))+1:=by
 obtain ⟨hi,rfl⟩:=List.getElem?_eq_some_iff.1 h;unfold rawN;rw [List.drop_eq_getElem_cons hi,List.takeWhile_cons_of_pos (by rw [hb];rfl)];rfl
theorem rawN_end (ls:List (List UInt8)):rawN (ls.drop ls.length)=0:=by rw [List.drop_length];rfl
set_option maxHeartbeats 8000000 in
theorem braw {B b:Nat} {w:World} {g o:Nat} {lcap:Nat} {ls:List (List UInt8)} {pos d:Nat} {ov:Value} {out:List BlkL} (h:BpIn B b w (some ⟨g,o,none⟩) lcap ls pos d ov out) (hp0:pos<ls.length):
  Calls Tryz.prog 148 #[.pointer (some ⟨b,0,none⟩)] w fun e w'=>e=.returned (.tuple #[])∧PPost B b w (.slice (some ⟨g,o,none⟩) ls.length lcap) d ov (pos+rawN (ls.drop pos)) (out++[⟨8,d,0,false,joinL ((ls.drop pos).take (rawN (ls.drop pos))),[]⟩]) w':=by
 obtain ⟨N,hN⟩:∃N,rawN (ls.drop pos)=N:=⟨_,rfl⟩
 rw [hN];have HN:=Lib.hid hN;have HH:=Lib.hid h;obtain ⟨c0,c1,c2,c3⟩:=h.pr.cells;have hps:pos≤ls.length:=(by omega);have hll:=h.ll;clear hN;go_enter Tryz.func148,Tryz.ntmps148
 go_wp2_with fail;go_loopw [] (fun wr=>∃i:Nat,pos≤i∧i≤ls.length∧BpIn B b wr (some ⟨g,o,none⟩) lcap ls i d ov out∧Kp B b ov w wr∧i+rawN (ls.drop i)=pos+N) (fun wr=>ls.length - (intOf ((wr.cell? ⟨b,1,none⟩).getD undef)).toNat)
 case atStart=>exact ⟨pos,Nat.le_refl _,hps,HH.out,Kp.refl _ _ _ _,by rw [HN.out]⟩
 case round=>
  obtain ⟨i,hpi,hil,hin,hkp,hrn⟩:=hrel;clear c0 c1 c2 c3;obtain ⟨c0,c1,c2,c3⟩:=hin.pr.cells;by_cases hlt:i<ls.length
  ·have hltI:(i:Int)<(ls.length:Int):=(by omega);obtain ⟨X,hx,hcl,hXz⟩:=hin.line i hlt;have hbl:=fun W=>blank_any X W (by omega);obtain ⟨bv,hbv⟩:∃b,blankV X.data.toList=b:=⟨_,rfl⟩
   rw [hbv]at hbl;have HBL:=Lib.hid hbl;have HBV:=Lib.hid hbv;have HIN:=Lib.hid hin;have HKP:=Lib.hid hkp;have HRN:=Lib.hid hrn;have HX:=Lib.hid hx;clear hbl hbv hin hkp hrn hx;have hd:decide ((i:Int)<(ls.length:Int))=true:=decide_eq_true hltI;have f1:=HIN.out.pr.frozen 1;have ne:Nonempty (ExtW (Below wr.heap.size wr)):=⟨⟨wr,Below.refl _ _⟩⟩
   have e0:=ext_cell c0;have e1:=ext_cell c1;have e2:=ext_cell hcl;clear c0 c1 c2 c3 hcl;cases bv
   ·go_wp2_with fail;refine wp_region_ext (R:=Below (wr).heap.size wr) (by kernel_rfl) (by kernel_rfl) (Below.refl _ _).drew ?_;repeat (go_big_quiet_step ((go_at_call 137;exact calls_ext (HBL.out _))))
    refine wpQuiet_nil ?_;rintro w2 ⟨nq,hnq⟩;have hb2:Below (wr).heap.size wr w2:=(by rw [hnq];exact nq.h);clear hnq nq;clear e0 e1 e2 ne;have hrn:=rawN_go HX.out HBV.out;have HRN2:=Lib.hid (show i+1+rawN (ls.drop (i+1))=pos+N by have:=HRN.out;omega);have HI2:=Lib.hid (HIN.out.below hb2);have HK2:=Lib.hid (HKP.out.step hb2 HH.out.hB);obtain ⟨c0,c1,c2,c3⟩:=HI2.out.pr.cells;have f1:=HI2.out.pr.frozen 1;clear hb2 hrn c0 c2 c3;go_wp2_with fail;go_roundw;case rel=>exact ⟨i+1,by omega,by omega,HI2.out.setPos (i+1) _ (by go_num) (by omega),HK2.out.setPos HH.out.pr.base _,HRN2.out⟩
    case measure=>
     have h1:=(HI2.out.setPos (i+1) (.int .i64 ((i:Int)+1)) (by go_num) (by omega)).pr.cells.2.1;have h2:=HIN.out.pr.cells.2.1;simp only [h1,h2,Option.getD_some,intOf];omega
   ·go_wp2_with fail;refine wp_region_ext (R:=Below (wr).heap.size wr) (by kernel_rfl) (by kernel_rfl) (Below.refl _ _).drew ?_;repeat (go_big_quiet_step ((go_at_call 137;exact calls_ext (HBL.out _))))
    refine wpQuiet_nil ?_;rintro w2 ⟨nq,hnq⟩;have hb2:Below (wr).heap.size wr w2:=(by rw [hnq];exact nq.h);clear hnq nq;clear e0 e1 e2 ne;have hr0:=rawN_stop HX.out HBV.out;have hN2:i=pos+N:=(by have:=HRN.out;rw [hr0]at this;omega);have HN2:=Lib.hid hN2;have HI2:=Lib.hid (HIN.out.below hb2);have HK2:=Lib.hid (HKP.out.step hb2 HH.out.hB);obtain ⟨c0,c1,c2,c3⟩:=HI2.out.pr.cells;clear hb2 hN2 hr0;have hlc:=HI2.out.lc;have d0:w2.drew.cell? ⟨b,0,none⟩=some (.slice (some ⟨g,o,none⟩) ls.length lcap):=c0;have d1:w2.drew.cell? ⟨b,1,none⟩=some (.int .i64 (i:Int)):=c1;clear c0 c1 c2 c3;have k1:i≤lcap:=(by omega);have k2:¬lcap=pos:=(by omega);have hsub:=(HI2.out.lr.below (Below.refl _ w2).drew).sub pos i (by omega) hpi;have hjt:(joinL ((ls.drop pos).take (i - pos))).length≤1000000:=by
     have h1:=join_tot ((ls.drop pos).take (i - pos));have h2:=tot_take (ls.drop pos) (i - pos);have h3:=tot_drop ls pos;have h4:=HI2.out.lt;omega
    have hjl:((ls.drop pos).take (i - pos)).length=i - pos:=(by simp;omega);have hj:=join_any (some ⟨g,o+pos,none⟩) (lcap - pos) _ _ hsub (by omega) (by omega);rw [hjl]at hj;have hjn:i - pos=N:=(by have:=HN2.out;omega);have HJ:=Lib.hid hj;have HJT:=Lib.hid hjt;have HJN:=Lib.hid hjn;clear hsub hjt hjl hj hjn;go_wp2_with fail;refine wp_region_I (S:=fun j W'=>([4,9].contains j=true)→W'.cell? ⟨b,0,none⟩=some (.slice (some ⟨g,o,none⟩) ls.length lcap)∧W'.cell? ⟨b,1,none⟩=some (.int .i64 (i:Int))) (by kernel_rfl) ?_;refine tk0 0 38 ?_ rfl (by kernel_rfl) (fun _ _ _ h=>h) (fun _ h=>absurd h (by decide)) rfl (Or.inl ⟨by rfl,?_⟩) ?_;rotate_left
    ·intro w' _;go_simp<;>with_reducible rfl
    simp only [List.set];refine tk0 1 39 ?_ rfl (by kernel_rfl) (fun _ _ _ h=>h) (fun _ h=>absurd h (by decide)) rfl (Or.inl ⟨by rfl,?_⟩) ?_;rotate_left
    ·intro w' _;go_simp<;>with_reducible rfl
    simp only [List.set];refine tk0 2 40 ?_ rfl (by kernel_rfl) (fun _ _ _ h=>h) (fun _ h=>absurd h (by decide)) rfl (Or.inl ⟨by rfl,?_⟩) ?_;rotate_left
    ·intro w' _;go_simp<;>with_reducible rfl
    simp only [List.set];refine tk0 3 41 ?_ rfl (by kernel_rfl) (fun _ _ _ h=>h) (fun _ h=>absurd h (by decide)) rfl (Or.inl ⟨by rfl,?_⟩) ?_;rotate_left
    ·intro w' _;go_simp<;>with_reducible rfl
    simp only [List.set];refine tk0 5 43 ?_ rfl (by kernel_rfl) (fun _ _ _ h=>h) (fun _ h=>absurd h (by decide)) rfl (Or.inl ⟨by rfl,?_⟩) ?_;rotate_left
    ·intro w' _;go_simp<;>with_reducible rfl
    simp only [List.set];refine tk0 6 44 ?_ rfl (by kernel_rfl) (fun _ _ _ h=>h) (fun _ h=>absurd h (by decide)) rfl (Or.inl ⟨by rfl,?_⟩) ?_;rotate_left
    ·intro w' _;go_simp<;>with_reducible rfl
    simp only [List.set];refine tk0 7 45 ?_ rfl (by kernel_rfl) (fun _ _ _ h=>h) (fun _ h=>absurd h (by decide)) rfl (Or.inl ⟨by rfl,?_⟩) ?_;rotate_left
    ·intro w' _;go_simp<;>with_reducible rfl
    simp only [List.set];refine tk0 8 46 ?_ rfl (by kernel_rfl) (fun _ _ _ h=>h) (fun _ h=>absurd h (by decide)) rfl (Or.inl ⟨by rfl,?_⟩) ?_;rotate_left
    ·intro w' _;go_simp<;>with_reducible rfl
    simp only [List.set];refine tkL 4 42 ?_ rfl [9] (by kernel_rfl) (fun _ _ _ h=>h) (by decide) rfl (Or.inl ⟨by rfl,?_⟩) ⟨d0,d1⟩ ?_;rotate_left
    ·rintro w' ⟨s0,s1⟩;go_simp<;>with_reducible rfl
    simp only [List.set];refine tkL 9 47 ?_ rfl [9] (by kernel_rfl) (fun _ _ _ h=>h) (by decide) rfl (Or.inl ⟨by rfl,?_⟩) ⟨d0,d1⟩ ?_;rotate_left
    ·rintro w' ⟨s0,s1⟩;go_simp<;>with_reducible rfl
    simp only [List.set];refine tk0 10 48 ?_ rfl (by kernel_rfl) (fun _ _ _ h=>h) (fun _ h=>absurd h (by decide)) rfl (Or.inl ⟨by rfl,?_⟩) ?_;rotate_left
    ·intro w' _;go_simp<;>with_reducible rfl
    simp only [List.set];refine wpAnyI_one (i:=11) (by kernel_rfl) rfl (fun K' hK=>?_);have HKK:=Lib.hid hK;clear hK;go_simp
    refine HJ.out.mono ?_;rintro e w3 ⟨rfl,b3⟩;have hb3:Below w2.heap.size w2 w3:=((Below.refl _ w2).drew).trans b3;have HI3:=Lib.hid (HI2.out.below hb3);have HK3:=Lib.hid (HK2.out.step hb3 HH.out.hB);clear b3 hb3 d0 d1;go_wp2_with fail;refine HKK.out _ _ ⟨fun h=>absurd h (by decide),?_⟩;clear HKK K';try simp only [Act.put,List.setIfInBounds_toArray,List.set_cons_zero,List.set_cons_succ,List.getElem_toArray,List.getElem_cons_zero,List.getElem_cons_succ]
    refine tk0 12 50 ?_ rfl (by kernel_rfl) (fun _ _ _ h=>h) (fun _ h=>absurd h (by decide)) rfl (Or.inl ⟨by rfl,?_⟩) ?_;rotate_left
    ·intro w' _;go_simp<;>with_reducible rfl
    simp only [List.set];refine wpAnyI_one (i:=13) (by kernel_rfl) rfl (fun K' hK=>?_);have HKK:=Lib.hid hK;clear hK;go_simp
    refine (bput B b (.slice (some ⟨g,o,none⟩) ls.length lcap) ov i d out ⟨8,0,0,false,joinL ((ls.drop pos).take (i - pos)),[]⟩ w3 HI3.out.pr (by have:=HI3.out.ol;omega)).mono ?_;rintro e w4 ⟨rfl,hp4⟩;have HP4:=Lib.hid (PPost.trans HK3.out (Or.inl rfl) hp4);clear hp4;go_wp2_with fail;refine HKK.out _ _ ⟨fun h=>absurd h (by decide),?_⟩;clear HKK K';try simp only [Act.put,List.setIfInBounds_toArray,List.set_cons_zero,List.set_cons_succ,List.getElem_toArray,List.getElem_cons_zero,List.getElem_cons_succ]
    refine wpAnyI_done (by kernel_rfl) ?_ _;go_wp2_with fail
    go_end0
    refine ⟨rfl,?_⟩;have hp:=HP4.out;rw [HJN.out,HN2.out]at hp;exact hp
  ·have hie:i=ls.length:=(by omega);have HIN:=Lib.hid hin;have HKP:=Lib.hid hkp;have HRN:=Lib.hid hrn;have ne:Nonempty (ExtW (Below wr.heap.size wr)):=⟨⟨wr,Below.refl _ _⟩⟩
   have e0:=ext_cell c0;have e1:=ext_cell c1;have hd:decide ((i:Int)<(ls.length:Int))=false:=(by rw [hie];simp);have hr0:rawN (ls.drop i)=0:=(by rw [hie];exact rawN_end ls);have HR0:=Lib.hid hr0;clear hin hkp hrn c0 c1 c2 c3 hr0 hie;go_wp2_with fail;refine wp_region_ext (R:=Below (wr).heap.size wr) (by kernel_rfl) (by kernel_rfl) (Below.refl _ _).drew ?_;repeat (go_big_quiet_step (fail))
   refine wpQuiet_nil ?_;rintro w2 ⟨nq,hnq⟩;have hb2:Below (wr).heap.size wr w2:=(by rw [hnq];exact nq.h);clear hnq nq;clear e0 e1 ne;have hr0:=HR0.out;have hN2:i=pos+N:=(by have:=HRN.out;rw [hr0]at this;omega);have HN2:=Lib.hid hN2;have HI2:=Lib.hid (HIN.out.below hb2);have HK2:=Lib.hid (HKP.out.step hb2 HH.out.hB);obtain ⟨c0,c1,c2,c3⟩:=HI2.out.pr.cells;clear hb2 hN2 hr0;have hlc:=HI2.out.lc;have d0:w2.drew.cell? ⟨b,0,none⟩=some (.slice (some ⟨g,o,none⟩) ls.length lcap):=c0;have d1:w2.drew.cell? ⟨b,1,none⟩=some (.int .i64 (i:Int)):=c1;clear c0 c1 c2 c3;have k1:i≤lcap:=(by omega);have k2:¬lcap=pos:=(by omega);have hsub:=(HI2.out.lr.below (Below.refl _ w2).drew).sub pos i (by omega) hpi;have hjt:(joinL ((ls.drop pos).take (i - pos))).length≤1000000:=by
    have h1:=join_tot ((ls.drop pos).take (i - pos));have h2:=tot_take (ls.drop pos) (i - pos);have h3:=tot_drop ls pos;have h4:=HI2.out.lt;omega
   have hjl:((ls.drop pos).take (i - pos)).length=i - pos:=(by simp;omega);have hj:=join_any (some ⟨g,o+pos,none⟩) (lcap - pos) _ _ hsub (by omega) (by omega);rw [hjl]at hj;have hjn:i - pos=N:=(by have:=HN2.out;omega);have HJ:=Lib.hid hj;have HJT:=Lib.hid hjt;have HJN:=Lib.hid hjn;clear hsub hjt hjl hj hjn;go_wp2_with fail;refine wp_region_I (S:=fun j W'=>([4,9].contains j=true)→W'.cell? ⟨b,0,none⟩=some (.slice (some ⟨g,o,none⟩) ls.length lcap)∧W'.cell? ⟨b,1,none⟩=some (.int .i64 (i:Int))) (by kernel_rfl) ?_;refine tk0 0 38 ?_ rfl (by kernel_rfl) (fun _ _ _ h=>h) (fun _ h=>absurd h (by decide)) rfl (Or.inl ⟨by rfl,?_⟩) ?_;rotate_left
   ·intro w' _;go_simp<;>with_reducible rfl
   simp only [List.set];refine tk0 1 39 ?_ rfl (by kernel_rfl) (fun _ _ _ h=>h) (fun _ h=>absurd h (by decide)) rfl (Or.inl ⟨by rfl,?_⟩) ?_;rotate_left
   ·intro w' _;go_simp<;>with_reducible rfl
   simp only [List.set];refine tk0 2 40 ?_ rfl (by kernel_rfl) (fun _ _ _ h=>h) (fun _ h=>absurd h (by decide)) rfl (Or.inl ⟨by rfl,?_⟩) ?_;rotate_left
   ·intro w' _;go_simp<;>with_reducible rfl
   simp only [List.set];refine tk0 3 41 ?_ rfl (by kernel_rfl) (fun _ _ _ h=>h) (fun _ h=>absurd h (by decide)) rfl (Or.inl ⟨by rfl,?_⟩) ?_;rotate_left
   ·intro w' _;go_simp<;>with_reducible rfl
   simp only [List.set];refine tk0 5 43 ?_ rfl (by kernel_rfl) (fun _ _ _ h=>h) (fun _ h=>absurd h (by decide)) rfl (Or.inl ⟨by rfl,?_⟩) ?_;rotate_left
   ·intro w' _;go_simp<;>with_reducible rfl
   simp only [List.set];refine tk0 6 44 ?_ rfl (by kernel_rfl) (fun _ _ _ h=>h) (fun _ h=>absurd h (by decide)) rfl (Or.inl ⟨by rfl,?_⟩) ?_;rotate_left
   ·intro w' _;go_simp<;>with_reducible rfl
   simp only [List.set];refine tk0 7 45 ?_ rfl (by kernel_rfl) (fun _ _ _ h=>h) (fun _ h=>absurd h (by decide)) rfl (Or.inl ⟨by rfl,?_⟩) ?_;rotate_left
   ·intro w' _;go_simp<;>with_reducible rfl
   simp only [List.set];refine tk0 8 46 ?_ rfl (by kernel_rfl) (fun _ _ _ h=>h) (fun _ h=>absurd h (by decide)) rfl (Or.inl ⟨by rfl,?_⟩) ?_;rotate_left
   ·intro w' _;go_simp<;>with_reducible rfl
   simp only [List.set];refine tkL 4 42 ?_ rfl [9] (by kernel_rfl) (fun _ _ _ h=>h) (by decide) rfl (Or.inl ⟨by rfl,?_⟩) ⟨d0,d1⟩ ?_;rotate_left
   ·rintro w' ⟨s0,s1⟩;go_simp<;>with_reducible rfl
   simp only [List.set];refine tkL 9 47 ?_ rfl [9] (by kernel_rfl) (fun _ _ _ h=>h) (by decide) rfl (Or.inl ⟨by rfl,?_⟩) ⟨d0,d1⟩ ?_;rotate_left
   ·rintro w' ⟨s0,s1⟩;go_simp<;>with_reducible rfl
   simp only [List.set];refine tk0 10 48 ?_ rfl (by kernel_rfl) (fun _ _ _ h=>h) (fun _ h=>absurd h (by decide)) rfl (Or.inl ⟨by rfl,?_⟩) ?_;rotate_left
   ·intro w' _;go_simp<;>with_reducible rfl
   simp only [List.set];refine wpAnyI_one (i:=11) (by kernel_rfl) rfl (fun K' hK=>?_);have HKK:=Lib.hid hK;clear hK;go_simp
   refine HJ.out.mono ?_;rintro e w3 ⟨rfl,b3⟩;have hb3:Below w2.heap.size w2 w3:=((Below.refl _ w2).drew).trans b3;have HI3:=Lib.hid (HI2.out.below hb3);have HK3:=Lib.hid (HK2.out.step hb3 HH.out.hB);clear b3 hb3 d0 d1;go_wp2_with fail;refine HKK.out _ _ ⟨fun h=>absurd h (by decide),?_⟩;clear HKK K';try simp only [Act.put,List.setIfInBounds_toArray,List.set_cons_zero,List.set_cons_succ,List.getElem_toArray,List.getElem_cons_zero,List.getElem_cons_succ]
   refine tk0 12 50 ?_ rfl (by kernel_rfl) (fun _ _ _ h=>h) (fun _ h=>absurd h (by decide)) rfl (Or.inl ⟨by rfl,?_⟩) ?_;rotate_left
   ·intro w' _;go_simp<;>with_reducible rfl
   simp only [List.set];refine wpAnyI_one (i:=13) (by kernel_rfl) rfl (fun K' hK=>?_);have HKK:=Lib.hid hK;clear hK;go_simp
   refine (bput B b (.slice (some ⟨g,o,none⟩) ls.length lcap) ov i d out ⟨8,0,0,false,joinL ((ls.drop pos).take (i - pos)),[]⟩ w3 HI3.out.pr (by have:=HI3.out.ol;omega)).mono ?_;rintro e w4 ⟨rfl,hp4⟩;have HP4:=Lib.hid (PPost.trans HK3.out (Or.inl rfl) hp4);clear hp4;go_wp2_with fail;refine HKK.out _ _ ⟨fun h=>absurd h (by decide),?_⟩;clear HKK K';try simp only [Act.put,List.setIfInBounds_toArray,List.set_cons_zero,List.set_cons_succ,List.getElem_toArray,List.getElem_cons_zero,List.getElem_cons_succ]
   refine wpAnyI_done (by kernel_rfl) ?_ _;go_wp2_with fail
   go_end0
   refine ⟨rfl,?_⟩;have hp:=HP4.out;rw [HJN.out,HN2.out]at hp;exact hp
theorem wt_cons (c:UInt8) (t:List UInt8):wt (c::t)=wt t+1+if c=9 then 3 else 0:=by
 unfold wt;rw [List.length_cons,List.count_cons];by_cases h:c=9
 ·simp [h];omega
 ·simp [h];omega
theorem wt_drop:∀(l:List UInt8) (n:Nat),wt (l.drop n)≤wt l
 |[],n=>by simp
 |c::t,0=>by simp
 |c::t,n+1=>by rw [List.drop_succ_cons,wt_cons];have:=wt_drop t n;omega
theorem wt_col:∀(l:List UInt8) (c:Nat),colL l c+wt (restB l)≤c+wt l
 |[],c=>by simp [colL,restB]
 |x::t,c=>by
  rw [colL,wt_cons];by_cases h32:x=32
  ·have:=wt_col t (c+1);rw [if_pos h32,rest_white (by rw [h32];rfl)];omega
  ·by_cases h9:x=9
   ·have:=wt_col t (c+(4 - c % 4));rw [if_neg h32,if_pos h9,rest_white (by rw [h9];rfl),if_pos h9];omega
   ·rw [if_neg h32,if_neg h9,restB_black (by unfold blankB;simp [h32,h9]),wt_cons];omega
theorem wt_app (a b:List UInt8):wt (a++b)=wt a+wt b:=by
 unfold wt;rw [List.length_append,List.count_append];omega
theorem wt_blanks (n:Nat):wt (List.replicate n 32)=n:=by
 unfold wt;rw [List.length_replicate,List.count_replicate];simp
theorem wt_strip (s:List UInt8) (n:Nat):wt (stripN s n)≤wt s:=by
 unfold stripN expandL;refine Nat.le_trans (wt_drop _ _) ?_;rw [wt_app,wt_blanks];have:=wt_col s 0;unfold indentL;omega
theorem tot_map (f:List UInt8→List UInt8) (hf:∀x,wt (f x)≤wt x) (ls:List (List UInt8)):tot (ls.map f)≤tot ls:=by
 unfold tot;induction ls with
 |nil=>simp
 |cons y ls ih=>
  simp only [List.map_cons,List.sum_cons,List.map_map]at ih⊢;have:=hf y;omega
theorem StrOwn.snoc {B:Nat} {w:World} {v:Value} {l:List (List UInt8)} {x:List UInt8} {X:ByteArray} (h:w.ownsRow B 9 1 v (l.length+1) (l.map strV++[.string X])) (hx:X.data.toList=x):StrOwn B w v (l++[x]):=by
 unfold StrOwn;rw [List.length_append,List.map_append,List.map_cons,List.map_nil,←hx];unfold strV;rw [Lib.mk_data];exact h
set_option maxHeartbeats 8000000 in
theorem bcode {B b:Nat} {w:World} {lv:Value} {pos d:Nat} {ov:Value} {out:List BlkL} (info:ByteArray) (ao:Option Addr) (cap:Nat) (l:List (List UInt8)) (n:Nat) (h:BpAt B b w lv pos d ov out) (hol:out.length≤100000000) (hR:StrR w ao l) (hT:tot l≤1000000) (hn:n≤1000000000):
  Calls Tryz.prog 174 #[.pointer (some ⟨b,0,none⟩),.string info,.slice ao l.length cap,.int .i64 n] w fun e w'=>e=.returned (.tuple #[])∧PPost B b w lv d ov pos (out++[codeB d info.data.toList l n]) w':=by
 obtain ⟨is,hsi,hs0,hs1,hs2⟩:=info_parts infoStr;have hll:=tot_len l;have HH:=Lib.hid h;have HR:=Lib.hid hR;have HT:=Lib.hid hT;have hB:B≤w.heap.size:=(by have:=h.base;have:=h.lt;omega);have hln:l.length≤1000000:=(by omega);clear h hR hll;go_enter Tryz.func174,Tryz.ntmps174
 go_wp2_with fail;go_loopw [8,13] (fun u8 u13 wr=>∃i:Nat,i≤l.length∧u13=.int .i64 i∧StrOwn w.heap.size wr u8 ((l.take i).map (stripN · n))∧Below w.heap.size w wr) (fun _ u13 _=>l.length - (intOf u13).toNat)
 case atStart=>exact ⟨0,Nat.zero_le _,rfl,World.ownsRow_nil _ _ _ _,Below.refl _ _⟩
 case round=>
  obtain ⟨i,hi,rfl,hown,hbw⟩:=hrel;by_cases hlt:i<l.length
  ·obtain ⟨x,hx⟩:∃x,l[i]? =some x:=⟨_,List.getElem?_eq_getElem hlt⟩
   obtain ⟨g,o,rfl⟩:=StrR.addr HR.out (by omega);have hcl:=StrR.at' (HR.out.below hbw) i x hx;obtain ⟨X,hX⟩:∃X:ByteArray,(⟨x.toArray⟩:ByteArray)=X:=⟨_,rfl⟩
   have hXl:x=X.data.toList:=(by rw [←hX]);rw [hX]at hcl;have hXz:X.size≤1000000:=(by rw [Lib.size_eq,←hXl];have:=len_tot (List.mem_of_getElem? hx);have:=HT.out;omega);have hst:=fun W=>strip_any X n W hXz hn;obtain ⟨Y,hY⟩:∃Y:ByteArray,(⟨(stripN X.data.toList n).toArray⟩:ByteArray)=Y:=⟨_,rfl⟩
   have hYl:Y.data.toList=stripN x n:=(by rw [←hY,hXl]);rw [hY]at hst;have HST:=Lib.hid hst;have HYL:=Lib.hid hYl;have hlen:((l.take i).map (stripN · n)).length=i:=(by simp;omega);obtain ⟨L,hL⟩:∃L,(l.take i).map (stripN · n)=L:=⟨_,rfl⟩
   rw [hL]at hown hlen;have HL:=Lib.hid hL;have HLEN:=Lib.hid hlen;have HOWN:=Lib.hid hown;have HBW:=Lib.hid hbw;have HX:=Lib.hid hx;clear hL hlen;clear hst hY hYl hX hXl hown hbw hx;go_wp2_with fail;refine (HST.out _).mono ?_;rintro e w2 ⟨rfl,b2⟩;have HO2:=Lib.hid (own_below HOWN.out b2);have HB2:=Lib.hid (below_step HBW.out b2);clear b2
   go_wp2_with (first
    |(at_builtin;refine wpList_append_own _ rfl _ _ 28 rfl w.heap.size 9 is (.string ⟨#[]⟩) 1 16 Tryz.underlying28 hsi hs0 hs1 hs2 rfl (by decide) _ _ _ rfl (World.ownsRow.alloc HO2.out _) ⟨w2.heap.size,0,none⟩ 1 1 [.string Y] rfl rfl ?c1 ?c2 ?c3 ?c4 ?c5 ?_))
   case c1=>exact cells_new _ _ _ _ rfl
   case c2=>intro u hu;simp at hu;rcases hu with rfl;rfl
   case c3=>rw [HLEN.out];unfold maxLen;omega
   case c4=>rw [HLEN.out];omega
   case c5=>have:=HB2.out.size;simp;omega
   intro v4 w4 hown4 hgrow _;have hg1:=(World.grownBy_alloc w2 (.cells #[.string Y] 9) u8.ownBlock).trans hgrow;have hO4:=StrOwn.snoc hown4 HYL.out;have hB4:=HB2.out.grown hg1 HB2.out.size (fun j hj=>(World.ownsRow.lt HO2.out j hj).1);have HO4:=Lib.hid (show StrOwn w.heap.size w4 v4 ((l.take (i+1)).map (stripN · n)) by
    rw [take_snoc l i x HX.out,List.map_append,HL.out];exact hO4)
   have HB4:=Lib.hid hB4;clear hgrow hg1 hO4 hB4 hown4;go_wp2_with fail;go_roundw;case rel=>exact ⟨i+1,by omega,by go_num,HO4.out,HB4.out⟩
   case measure=>simp [intOf];omega
  ·obtain rfl:i=l.length:=(by omega);rw [List.take_length]at hown;obtain ⟨vao,vc,hv,hvr,_⟩:=own_slice hown;subst hv;have hjt:(joinL (l.map (stripN · n))).length≤1000000:=by
    have h1:=join_tot (l.map (stripN · n));have h2:=tot_map (stripN · n) (fun x=>wt_strip x n) l;have:=HT.out;omega
   have hjl:(l.map (stripN · n)).length=l.length:=(by simp);have hj:=join_any vao vc _ _ hvr (by omega) (by omega);rw [hjl]at hj⊢;have HJ:=Lib.hid hj;have HI2:=Lib.hid (HH.out.below hbw);have HK2:=Lib.hid (Kp.of_below (b:=b) (ov:=ov) hbw hB);clear hj hjt hjl hvr hown hbw;go_wp2_with fail;refine HJ.out.mono ?_;rintro e w3 ⟨rfl,b3⟩;have HI3:=Lib.hid (HI2.out.below b3);have HK3:=Lib.hid (HK2.out.step b3 hB);clear b3;go_wp2_with fail;refine (bput B b lv ov pos d out ⟨6,0,0,false,joinL (l.map (stripN · n)),info.data.toList⟩ w3 HI3.out (by omega)).mono ?_;rintro e w4 ⟨rfl,hp4⟩;have HP4:=Lib.hid (PPost.trans HK3.out (Or.inl rfl) hp4);clear hp4;go_wp2_with fail
   go_end0
   exact ⟨rfl,HP4.out⟩
set_option maxHeartbeats 4000000 in
theorem with_any {w:World} {ao:Option Addr} {cap:Nat} {l:List (List UInt8)} (X:ByteArray) (hR:StrR w ao l) (hc:ao=none→cap=0) (hl:l.length≤1000000):
  Calls Tryz.prog 24 #[.slice ao l.length cap,.string X] w fun e w'=>∃v,e=.returned v∧StrOwn w.heap.size w' v (l++[X.data.toList])∧Below w.heap.size w w':=by
 obtain ⟨is,hsi,hs0,hs1,hs2⟩:=info_parts infoStr;have HR:=Lib.hid hR;have HC:=Lib.hid hc;clear hR hc;go_enter Tryz.func24,Tryz.ntmps24
 go_wp2_with (first
  |(at_builtin;refine wpList_append_row w rfl _ _ 28 rfl w.heap.size 9 is (.string ⟨#[]⟩) 1 16 Tryz.underlying28 hsi hs0 hs1 hs2 rfl (by decide) _ 0 [] rfl (World.ownsRow_nil _ _ _ _) ao l.length cap (l.map strV) rfl HR.out HC.out (strV_one l) ?c3 ?c4 ?c5 ?_))
 case c3=>unfold maxLen;omega
 case c4=>omega
 case c5=>exact Nat.le_refl _
 intro v1 w1 hown1 hgrow1;have hB1:=(Below.refl w.heap.size w).grown hgrow1 (Nat.le_refl _) (fun j hj=>by simp [Value.ownBlock]at hj);have HO1:=Lib.hid hown1;have HB1:=Lib.hid hB1;obtain ⟨vao,vc,hv,_⟩:=own_slice hown1;subst hv;clear hown1 hgrow1 hB1
 go_wp2_with (first
  |(at_builtin;refine wpList_append_own _ rfl _ _ 28 rfl w.heap.size 9 is (.string ⟨#[]⟩) 1 16 Tryz.underlying28 hsi hs0 hs1 hs2 rfl (by decide) _ _ _ rfl (World.ownsRow.alloc HO1.out _) ⟨w1.heap.size,0,none⟩ 1 1 [.string X] rfl rfl ?d1 ?d2 ?d3 ?d4 ?d5 ?_))
 case d1=>exact cells_new _ _ _ _ rfl
 case d2=>intro u hu;simp at hu;rcases hu with rfl;rfl
 case d3=>unfold maxLen;omega
 case d4=>omega
 case d5=>have:=HB1.out.size;simp;omega
 intro v4 w4 hown4 hgrow4 _;have hg1:=(World.grownBy_alloc w1 (.cells #[.string X] 9) (Value.slice vao l.length vc).ownBlock).trans hgrow4;have hB4:=HB1.out.grown hg1 HB1.out.size (fun j hj=>(World.ownsRow.lt HO1.out j hj).1);have HO4:=Lib.hid (StrOwn.snoc hown4 rfl);have HB4:=Lib.hid hB4;clear hown4 hgrow4 hg1 hB4;go_wp2_with fail;go_ret;exact ⟨v4,rfl,HO4.out,HB4.out⟩
theorem LatAt.mono {B:Nat} {w:World} {b n:Nat} {U D:List Nat} (h:LatAt B w b n U D):LatAt 0 w b n U D:=by
 obtain ⟨v,j1,j2⟩:=h.join;obtain ⟨v2,m1,m2⟩:=h.meet;exact ⟨h.lt,Nat.zero_le _,h.up,⟨v,j1,j2.mono (Nat.zero_le _)⟩,⟨v2,m1,m2.mono (Nat.zero_le _)⟩,h.small⟩
set_option maxHeartbeats 4000000 in
theorem right1_ok (a c:Int) (n:Nat) (w:World) (nb:Nat) (hc:w.cell? ⟨nb,0,none⟩=some (.int .i64 (n:Int))) (ha:0≤a∧a<n) (hc2:0≤c∧c<n) (hne:a≠c):
  Calls Tryz.prog 76 #[.agg #[.int .i64 a,.int .i64 c],.pointer (some ⟨nb,0,none⟩)] w fun e w'=>e=.returned (.bool false)∧Below w.heap.size w w':=by
 have hba:=(Below.refl w.heap.size w).alloc (Nat.le_refl _) (.cells #[.int .i64 a,.int .i64 c] 94);have hc':=(hba.cell (p:=⟨nb,0,none⟩) (World.block_lt_of_cell? _ _ hc)).trans hc;have h1:(a==c)=false:=(by simpa using hne);have HB:=Lib.hid hba;clear hba hc;have h2:decide (min a c<0)=false:=decide_eq_false (by omega);have h3:decide ((n:Int)≤max a c)=false:=decide_eq_false (by omega);clear ha hc2 hne;go_enter Tryz.func76,Tryz.ntmps76
 go_wp2_with fail;go_ret;exact ⟨by simp [h2,h3],HB.out⟩
set_option maxHeartbeats 4000000 in
theorem idxf_ok (n nb:Nat) (P:Nat→Int×Int) {w:World} {g o m cp:Nat} (hp:IsPairs w (some ⟨g,o,none⟩) m P) (hc:w.cell? ⟨nb,0,none⟩=some (.int .i64 (n:Int))) (hm:m≤1000) (hP:∀i,i<m→(0≤(P i).1∧(P i).1<n)∧(0≤(P i).2∧(P i).2<n)∧(P i).1≠(P i).2):
  Calls Tryz.prog 94 #[.slice (some ⟨g,o,none⟩) m cp,.func (.func 76) #[] #[.pointer (some ⟨nb,0,none⟩)]] w fun e w'=>e=.returned (.int .i64 (-1))∧Below w.heap.size w w':=by
 have HPP:=Lib.hid hP;have HQ:=Lib.hid hp;have HC:=Lib.hid hc;clear hP hp hc;go_enter Tryz.func94,Tryz.ntmps94
 go_wp2_with fail;go_loopw [8] (fun u8 wr=>∃i:Nat,u8=.int .i64 (i:Int)∧i≤m∧Below w.heap.size w wr) (fun u8 _=>m - (intOf u8).toNat)
 case atStart=>exact ⟨0,by go_num,Nat.zero_le _,Below.refl _ _⟩
 case round=>
  obtain ⟨i,rfl,hi,hb⟩:=hrel;have HB:=Lib.hid hb;by_cases hlt:i<m
  ·obtain ⟨b2,off,e1,e2,e3⟩:=pairs_below hb HQ.out;have e1':=e1 (by omega);obtain ⟨rfl,rfl⟩:g=b2∧o=off:=(by simpa using e1');obtain ⟨d0,d1⟩:=e3 i hlt;obtain ⟨p1,p2,p3⟩:=HPP.out i hlt;have hn':=(hb.cell (p:=⟨nb,0,none⟩) (World.block_lt_of_cell? _ _ HC.out)).trans HC.out;have HR:=Lib.hid (right1_ok (P i).1 (P i).2 n wr nb hn' p1 p2 p3);obtain ⟨x,hx⟩:∃x,(P i).1=x:=⟨_,rfl⟩
   obtain ⟨y,hy⟩:∃y,(P i).2=y:=⟨_,rfl⟩
   rw [hx]at d0 HR;rw [hy]at d1 HR;clear e1 e2 e3 e1' p1 p2 p3 hx hy hn' hb;go_wp2_with fail;refine HR.out.mono ?_;rintro e w2 ⟨rfl,hb2⟩;have HB2:=Lib.hid (below_step HB.out hb2);clear hb2;go_wp2_with fail;go_roundw;case rel=>exact ⟨i+1,by go_num,by omega,HB2.out⟩
   case measure=>simp [intOf];omega
  ·clear hb;go_wp2_with fail;go_ret;exact ⟨rfl,HB.out⟩
set_option maxHeartbeats 4000000 in
theorem contf_ok (n nb:Nat) (P:Nat→Int×Int) {w:World} {g o m cp:Nat} (hp:IsPairs w (some ⟨g,o,none⟩) m P) (hc:w.cell? ⟨nb,0,none⟩=some (.int .i64 (n:Int))) (hm:m≤1000) (hP:∀i,i<m→(0≤(P i).1∧(P i).1<n)∧(0≤(P i).2∧(P i).2<n)∧(P i).1≠(P i).2):
  Calls Tryz.prog 75 #[.slice (some ⟨g,o,none⟩) m cp,.func (.func 76) #[] #[.pointer (some ⟨nb,0,none⟩)]] w fun e w'=>e=.returned (.bool false)∧Below w.heap.size w w':=by
 have HI:=Lib.hid (idxf_ok n nb P (cp:=cp) hp hc hm hP);clear hp hc hP;go_enter Tryz.func75,Tryz.ntmps75
 go_wp2_with fail;refine HI.out.mono ?_;rintro e w2 ⟨rfl,hb⟩;have HB:=Lib.hid hb;clear hb;go_wp2_with fail;go_ret;exact ⟨rfl,HB.out⟩
set_option maxHeartbeats 8000000 in
theorem right_ok {w:World} {gn on g o m cp ncap:Nat} {l:List (List UInt8)} (P:Nat→Int×Int) (hR:StrR w (some ⟨gn,on,none⟩) l) (hl:1≤l.length∧l.length≤64) (hlow:∀x∈l,1≤x.length∧x.length≤20∧∀b∈x,97≤b.toNat∧b.toNat≤122) (hix:∀(i:Nat) x,l[i]? =some x→pIdx l x=(i:Int))
  (hp:IsPairs w (some ⟨g,o,none⟩) m P) (hm:m≤1000) (hP:∀i,i<m→(0≤(P i).1∧(P i).1<l.length)∧(0≤(P i).2∧(P i).2<l.length)∧(P i).1≠(P i).2):
  Calls Tryz.prog 42 #[.agg #[.slice (some ⟨gn,on,none⟩) l.length ncap,.slice (some ⟨g,o,none⟩) m cp]] w fun e w'=>e=.returned (.bool true)∧Below w.heap.size w w':=by
 have hb1:=(Below.refl w.heap.size w).alloc (Nat.le_refl _) (.cells #[.slice (some ⟨gn,on,none⟩) l.length ncap,.slice (some ⟨g,o,none⟩) m cp] 51);have hb2:=hb1.alloc hb1.size (.cells #[.int .i64 (l.length:Int)] 3);have HR:=Lib.hid hR;have HLW:=Lib.hid hlow;have HIX:=Lib.hid hix;have HP:=Lib.hid (And.intro hp hP);have HB2:=Lib.hid hb2;clear hR hlow hix hp hP hb1 hb2;obtain ⟨n,hn⟩:∃n,l.length=n:=⟨_,rfl⟩
 rw [hn]at hl HB2 HP;have HN:=Lib.hid hn;have hl1:(1:Int)≤(n:Int):=(by omega);have hl2:(n:Int)≤64:=(by omega);rw [hn];clear hn;have d0:((w.alloc (.cells #[.slice (some ⟨gn,on,none⟩) n ncap,.slice (some ⟨g,o,none⟩) m cp] 51)).alloc (.cells #[.int .i64 (n:Int)] 3)).heap[w.heap.size]? =some (.cells #[.slice (some ⟨gn,on,none⟩) n ncap,.slice (some ⟨g,o,none⟩) m cp] 51 (0,0)):=by
  have hb:=(Below.refl (w.heap.size+1) (w.alloc (.cells #[.slice (some ⟨gn,on,none⟩) n ncap,.slice (some ⟨g,o,none⟩) m cp] 51))).alloc (by simp) (.cells #[.int .i64 (n:Int)] 3);exact (hb.block w.heap.size (by omega)).trans (heap_alloc_new w _)
 have d1:((w.alloc (.cells #[.slice (some ⟨gn,on,none⟩) n ncap,.slice (some ⟨g,o,none⟩) m cp] 51)).alloc (.cells #[.int .i64 (n:Int)] 3)).heap[w.heap.size+1]? =some (.cells #[.int .i64 (n:Int)] 3 (0,0)):=by
  have:=heap_alloc_new (w.alloc (.cells #[.slice (some ⟨gn,on,none⟩) n ncap,.slice (some ⟨g,o,none⟩) m cp] 51)) (.cells #[.int .i64 (n:Int)] 3)
  rwa [World.size_alloc]at this
 have HD:=Lib.hid (And.intro d0 d1);clear d0 d1;go_enter Tryz.func42,Tryz.ntmps42
 go_upto_region 4 with (fail)
 have hs0:w.heap.size+2≤((w.alloc (.cells #[.slice (some ⟨gn,on,none⟩) n ncap,.slice (some ⟨g,o,none⟩) m cp] 51)).alloc (.cells #[.int .i64 (n:Int)] 3)).heap.size:=(by simp);generalize ((w.alloc (.cells #[.slice (some ⟨gn,on,none⟩) n ncap,.slice (some ⟨g,o,none⟩) m cp] 51)).alloc (.cells #[.int .i64 (n:Int)] 3))=W at HD HB2 hs0⊢;have c0:W.cell? ⟨w.heap.size,0,none⟩=some (.slice (some ⟨gn,on,none⟩) n ncap):=(by rw [cell_of_row W w.heap.size _ _ _ _ HD.out.1];rfl);go_wp2_with fail;clear c0;go_loopw [18] (fun u18 wr=>∃i:Nat,u18=.int .i64 (i:Int)∧i≤n∧Below W.heap.size W wr) (fun u18 _=>n - (intOf u18).toNat)
 case atStart=>exact ⟨0,by go_num,Nat.zero_le _,Below.refl _ _⟩
 case round=>
  obtain ⟨i,rfl,hi,hb⟩:=hrel;have HB:=Lib.hid hb;have e0:=(hb.block w.heap.size (by omega)).trans HD.out.1;have e1:=(hb.block (w.heap.size+1) (by omega)).trans HD.out.2;have HEE:=Lib.hid (And.intro e0 e1);by_cases hlt:i<n
  ·obtain ⟨x,hx⟩:∃x,l[i]? =some x:=⟨_,List.getElem?_eq_getElem (by rw [HN.out];exact hlt)⟩
   have hRr:=(HR.out.below HB2.out).below hb;have cx:=hRr.at' i x hx;obtain ⟨q1,q2,q3⟩:=HLW.out x (List.mem_of_getElem? hx);have hix:=HIX.out i x hx;obtain ⟨X,hX⟩:∃X:ByteArray,(⟨x.toArray⟩:ByteArray)=X:=⟨_,rfl⟩
   have hXl:X.data.toList=x:=(by rw [←hX]);have hXs:X.size=x.length:=(by rw [Lib.size_eq,hXl]);rw [hX]at cx;have HNM:=Lib.hid (fun W'=>name_low X W' (by omega) (by omega) (by rw [hXl];exact q3));have HIN:=Lib.hid (fun W' (hW:StrR W' (some ⟨gn,on,none⟩) l)=>index_any (cap:=ncap) (some ⟨g,o,none⟩) m cp X hW (by rw [HN.out];omega));rw [hXl,hix,HN.out]at HIN;have HRR:=Lib.hid hRr;clear hX hXl hXs q1 q2 q3 hix hx hb e0 e1 hRr;go_wp2_with fail;refine (HNM.out _).mono ?_;rintro e w2 ⟨rfl,hb2⟩;have HB2':=Lib.hid (below_step HB.out hb2);have f0:=(hb2.block _ (Array.getElem?_eq_some_iff.1 HEE.out.1).1).trans HEE.out.1;have c0:w2.cell? ⟨w.heap.size,0,none⟩=some (.slice (some ⟨gn,on,none⟩) n ncap):=(by rw [cell_of_row w2 w.heap.size _ _ _ _ f0];rfl);have c1:w2.cell? ⟨w.heap.size,1,none⟩=some (.slice (some ⟨g,o,none⟩) m cp):=(by rw [cell_of_row w2 w.heap.size _ _ _ _ f0];rfl);have HI2:=Lib.hid (HIN.out w2 (HRR.out.below hb2));clear hb2 f0;go_wp2_with fail;refine HI2.out.mono ?_;rintro e w3 ⟨rfl,hb3⟩;have HB3:=Lib.hid (below_step HB2'.out hb3);clear hb3 c0 c1;go_wp2_with fail;go_roundw;case rel=>exact ⟨i+1,by go_num,by omega,HB3.out⟩
   case measure=>simp [intOf];omega
  ·have c1:wr.cell? ⟨w.heap.size,1,none⟩=some (.slice (some ⟨g,o,none⟩) m cp):=(by rw [cell_of_row wr w.heap.size _ _ _ _ e0];rfl);have cn:wr.cell? ⟨w.heap.size+1,0,none⟩=some (.int .i64 (n:Int)):=(by rw [cell_of_row wr (w.heap.size+1) _ _ _ _ e1];rfl);have HCF:=Lib.hid (contf_ok n (w.heap.size+1) P (cp:=cp) (pairs_below hb (pairs_below HB2.out HP.out.1)) cn hm HP.out.2);clear hb e0 e1 cn;go_wp2_with fail;refine HCF.out.mono ?_;rintro e w3 ⟨rfl,hb3⟩;have HB3:=Lib.hid (below_step HB2.out (below_step HB.out hb3));clear hb3;go_wp2_with fail;go_ret;exact ⟨rfl,HB3.out⟩
theorem infoPart:(Tryz.prog.info? 74).map (fun i=>(i.zero,i.size,i.bytes))=some (some (.agg #[.int .i64 0,.bool false,.string ⟨#[]⟩,.bool false,.slice none 0 0]),5,64):=by kernel_rfl
theorem infoInt8:(Tryz.prog.info? 3).map (fun i=>(i.zero,i.size,i.bytes))=some (some (.int .i64 0),1,8):=by kernel_rfl
abbrev PartV:=PartL×Value
def partCells (x:PartV):List Value:=[.int .i64 (x.1.depth:Int),.bool x.1.div,.string ⟨x.1.label.toArray⟩,.bool x.1.opn,x.2]
theorem part_len (x:PartV):(partCells x).length=5:=rfl
structure PartsOwn (B:Nat) (w:World) (v:Value) (l:List PartV):Prop where
 row:w.ownsRow B 74 5 v l.length (l.flatMap partCells)
 lines:∀(i:Nat) (x:PartV),l[i]? =some x→StrOwn B w x.2 x.1.lines
 apart:∀(i j:Nat) (x y:PartV),l[i]? =some x→l[j]? =some y→i≠j→x.2.ownBlock=none∨x.2.ownBlock≠y.2.ownBlock
theorem PartsOwn.nil (B:Nat) (w:World):PartsOwn B w (.slice none 0 0) []:=⟨World.ownsRow_nil _ _ _ _,fun i x h=>by simp at h,fun i j x y h=>by simp at h⟩
theorem PartsOwn.below {B:Nat} {w w':World} {v:Value} {l:List PartV} (h:PartsOwn B w v l) (hb:Below w.heap.size w w'):PartsOwn B w' v l:=
 ⟨own_below h.row hb,fun i x hx=>own_below (h.lines i x hx) hb,h.apart⟩
theorem PartsOwn.alloc {B:Nat} {w:World} {v:Value} {l:List PartV} (h:PartsOwn B w v l) (o:Obj):PartsOwn B (w.alloc o) v l:=h.below ((Below.refl _ _).alloc (Nat.le_refl _) _)
theorem PartsOwn.mono {B B':Nat} {w:World} {v:Value} {l:List PartV} (h:PartsOwn B w v l) (hb:B'≤B):PartsOwn B' w v l:=
 ⟨own_mono h.row hb,fun i x hx=>own_mono (h.lines i x hx) hb,h.apart⟩
theorem PartsOwn.grown {B b2:Nat} {w w':World} {v v2:Value} {l:List PartV} {e2:TypeId} {z2 n2:Nat} {x2:List Value} (h:PartsOwn B w v l) (h2:w.ownsRow b2 e2 z2 v2 n2 x2) (he1:74≠e2) (he2:9≠e2) (hg:w.grownBy w' v2.ownBlock):PartsOwn B w' v l:=
 ⟨World.ownsRow.kept h.row hg (own_apart h.row h2 he1),fun i x hx=>World.ownsRow.kept (h.lines i x hx) hg (own_apart (h.lines i x hx) h2 he2),h.apart⟩
theorem PartsOwn.push {B:Nat} {w w':World} {v v':Value} {l:List PartV} (h:PartsOwn B w v l) (p:PartL) (vl:Value) (hg:w.grownBy w' v.ownBlock) (hrow:w'.ownsRow B 74 5 v' (l.length+1) (l.flatMap partCells++partCells (p,vl)))
  (hl:StrOwn B w vl p.lines) (hap:∀(i:Nat) (x:PartV),l[i]? =some x→(x.2.ownBlock=none∨x.2.ownBlock≠vl.ownBlock)∧(vl.ownBlock=none∨vl.ownBlock≠x.2.ownBlock)):PartsOwn B w' v' (l++[(p,vl)]):=by
 have hk:∀u (ls:List (List UInt8)),StrOwn B w u ls→StrOwn B w' u ls:=fun u ls hu=>World.ownsRow.kept hu hg (own_apart hu h.row (by decide));refine ⟨?_,fun i x hx=>?_,fun i j x y hx hy hij=>?_⟩
 ·rw [List.length_append,List.flatMap_append,List.flatMap_cons,List.flatMap_nil,List.append_nil];exact hrow
 ·rcases Nat.lt_or_ge i l.length with hi|hi
  ·rw [List.getElem?_append_left hi]at hx;exact hk _ _ (h.lines i x hx)
  ·rw [List.getElem?_append_right hi]at hx;have:i - l.length=0:=by
    have:=(List.getElem?_eq_some_iff.1 hx).1;simp at this;omega
   rw [this]at hx;obtain rfl:=Option.some.inj hx;exact hk _ _ hl
 ·rcases Nat.lt_or_ge i l.length with hi|hi
  ·rw [List.getElem?_append_left hi]at hx;rcases Nat.lt_or_ge j l.length with hj|hj
   ·rw [List.getElem?_append_left hj]at hy;exact h.apart i j x y hx hy hij
   ·rw [List.getElem?_append_right hj]at hy;have:j - l.length=0:=by
     have:=(List.getElem?_eq_some_iff.1 hy).1;simp at this;omega
    rw [this]at hy;obtain rfl:=Option.some.inj hy;exact (hap i x hx).1
  ·rw [List.getElem?_append_right hi]at hx;have hi0:i - l.length=0:=by
    have:=(List.getElem?_eq_some_iff.1 hx).1;simp at this;omega
   rw [hi0]at hx;obtain rfl:=Option.some.inj hx;rcases Nat.lt_or_ge j l.length with hj|hj
   ·rw [List.getElem?_append_left hj]at hy;exact (hap j y hy).2
   ·have:j - l.length=0:=by
     have:=(List.getElem?_eq_some_iff.1 hy).1;simp at this;omega
    omega
theorem flat_set {α:Type} (f:α→List Value) (k:Nat) (hf:∀x,(f x).length=k):∀(l:List α) (i j:Nat) (x y:α) (u:Value),l[i]? =some x→j<k→f y=(f x).set j u→(l.flatMap f).set (i*k+j) u=(l.set i y).flatMap f
 |[],i,j,x,y,u,h,_,_=>by simp at h
 |z::l,0,j,x,y,u,h,hj,hy=>by
  simp at h;subst h;rw [List.flatMap_cons,List.set_append_left _ _ (by rw [hf];omega),List.set_cons_zero,List.flatMap_cons,hy];congr 2;omega
 |z::l,i+1,j,x,y,u,h,hj,hy=>by
  rw [List.flatMap_cons,List.set_append_right _ _ (by rw [hf,Nat.add_mul];omega),List.set_cons_succ,List.flatMap_cons,←flat_set f k hf l i j x y u (by simpa using h) hj hy];congr 2;rw [hf,Nat.add_mul];omega
theorem PartsOwn.flag {B:Nat} {w:World} {g cap n:Nat} {l:List PartV} (h:PartsOwn B w (.slice (some ⟨g,0,none⟩) n cap) l) (hn:n=l.length) (i j:Nat) (x:PartV) (p:PartL) (u:Value) (hx:l[i]? =some x) (hj:j<5) (hp:partCells (p,x.2)=(partCells x).set j u) (hl:p.lines=x.1.lines):
  PartsOwn B (w.setCell ⟨g,i*5+j,none⟩ u) (.slice (some ⟨g,0,none⟩) n cap) (l.set i (p,x.2)):=by
 subst hn;have hst:=World.ownsRow.stored h.row (i*5+j) u;have hil:i<l.length:=(List.getElem?_eq_some_iff.1 hx).1;refine ⟨?_,fun k y hy=>?_,fun k m y z hy hz hkm=>?_⟩
 ·have:=hst.1;rw [flat_set partCells 5 part_len l i j x (p,x.2) u hx hj hp]at this;rw [List.length_set];exact this
 ·have hk:∀v ls,StrOwn B w v ls→StrOwn B (w.setCell ⟨g,i*5+j,none⟩ u) v ls:=fun v ls hv=>World.ownsRow.kept hv hst.2 (own_apart hv h.row (by decide));rw [List.getElem?_set]at hy;split at hy
  ·obtain rfl:=Option.some.inj hy;simp only;rw [hl];exact hk _ _ (h.lines i x hx)
  ·exact hk _ _ (h.lines k y hy)
 ·have q:∀a (c:PartV),(l.set i (p,x.2))[a]? =some c→∃d:PartV,l[a]? =some d∧d.2=c.2:=fun a c hc=>by
   rw [List.getElem?_set]at hc;split at hc
   ·rename_i e;obtain rfl:=Option.some.inj hc;exact ⟨x,by rw [←e];exact hx,rfl⟩
   ·exact ⟨c,hc,rfl⟩
  obtain ⟨d,hd,e1⟩:=q k y hy;obtain ⟨d',hd',e2⟩:=q m z hz;rw [←e1,←e2];exact h.apart k m d d' hd hd' hkm
theorem PartsOwn.more {B:Nat} {w w4:World} {g cap m:Nat} {l:List PartV} {x:PartV} {v4:Value} {s:List UInt8} (h:PartsOwn B w (.slice (some ⟨g,0,none⟩) (m+1) cap) l) (hm:m+1=l.length) (hx:l[m]? =some x)
  (hg:w.grownBy w4 x.2.ownBlock) (hown:StrOwn B w4 v4 (x.1.lines++[s])) (hat:v4.ownBlock=x.2.ownBlock∨∃k,v4.ownBlock=some k∧w.heap.size≤k):
  PartsOwn B (w4.setCell ⟨g,m*5+4,none⟩ v4) (.slice (some ⟨g,0,none⟩) (m+1) cap) (l.set m ({x.1 with lines:=x.1.lines++[s]},v4)):=by
 have hrow4:w4.ownsRow B 74 5 (.slice (some ⟨g,0,none⟩) l.length cap) l.length (l.flatMap partCells):=by
  have:=World.ownsRow.kept h.row hg (own_apart h.row (h.lines m x hx) (by decide))
  rwa [hm]at this
 have hst:=World.ownsRow.stored hrow4 (m*5+4) v4;have hk:∀v ls,StrOwn B w4 v ls→StrOwn B (w4.setCell ⟨g,m*5+4,none⟩ v4) v ls:=fun v ls hv=>World.ownsRow.kept hv hst.2 (own_apart hv hrow4 (by decide));refine ⟨?_,fun k y hy=>?_,fun k j y z hy hz hkj=>?_⟩
 ·have:=hst.1;rw [flat_set partCells 5 part_len l m 4 x ({x.1 with lines:=x.1.lines++[s]},v4) v4 hx (by omega) rfl]at this;rw [List.length_set,hm];exact this
 ·rw [List.getElem?_set]at hy;split at hy
  ·split at hy
   ·obtain rfl:=Option.some.inj hy;exact hk _ _ hown
   ·cases hy
  ·rename_i hne;have hap:=h.apart k m y x hy hx (fun e=>hne e.symm);exact hk _ _ (World.ownsRow.kept (h.lines k y hy) hg hap)
 ·have hold:∀a (y:PartV),l[a]? =some y→a≠m→(y.2.ownBlock=none∨y.2.ownBlock≠v4.ownBlock)∧(v4.ownBlock=none∨v4.ownBlock≠y.2.ownBlock):=fun a y hy ha=>by
   rcases hat with e|⟨k,e,hk⟩
   ·rw [e];exact ⟨h.apart a m y x hy hx ha,h.apart m a x y hx hy (fun e=>ha e.symm)⟩
   ·have hlt:=World.ownsRow.lt (h.lines a y hy);rw [e];refine ⟨Or.inr fun e2=>?_,Or.inr fun e2=>?_⟩
    ·have:=(hlt k e2).2;omega
    ·have:=(hlt k e2.symm).2;omega
  rw [List.getElem?_set]at hy hz;split at hy
  ·rename_i e1;split at hy
   ·obtain rfl:=Option.some.inj hy;split at hz
    ·omega
    ·exact (hold j z hz (fun e=>by omega)).2
   ·cases hy
  ·rename_i e1;split at hz
   ·split at hz
    ·obtain rfl:=Option.some.inj hz;exact (hold k y hy (fun e=>e1 e.symm)).1
    ·cases hz
   ·exact h.apart k j y z hy hz hkj
theorem shuts_any (s:ByteArray) (w:World) (hs:s.size≤1000000000):
  Calls Tryz.prog 51 #[.string s] w fun e w'=>e=.returned (.bool (shutsD s.data.toList))∧Below w.heap.size w w':=by
 obtain ⟨X,hX⟩:∃X:ByteArray,(⟨(rtrimS s.data.toList).toArray⟩:ByteArray)=X:=⟨_,rfl⟩
 have hT:∀W,Calls Tryz.prog 80 #[.string s,.string ⟨#[32]⟩] W fun e w'=>e=.returned (.string X)∧w'=W:=fun W=>by
  refine (Tryz.strings_TrimRight_one s 32 (by decide) W (by omega)).mono ?_;rintro e w' ⟨rfl,rfl⟩;exact ⟨by rw [←hX];rfl,rfl⟩
 have HT:=Lib.hid hT;have hv:shutsD s.data.toList=(X.toList==[58,58,58]):=by
  have hXl:rtrimS s.data.toList=X.data.toList:=(by rw [←hX]);unfold shutsD;rw [hXl,Lib.toList_data]
 have HV:=Lib.hid hv;clear hX hT hv;go_enter Tryz.func51,Tryz.ntmps51
 go_wp2_with fail;refine (HT.out _).mono ?_;rintro e w2 ⟨rfl,rfl⟩;go_wp2_with fail;go_ret;refine ⟨?_,Below.refl _ _⟩;rw [HV.out];rfl
def labelSigns:List UInt8:=[123,125,124,58,32,9]
theorem label_eq (l:List UInt8):labelL l=(!(l.any fun c=>labelSigns.contains c)&&l !=[]&&decide (l.length≤40)):=by
 unfold labelL;congr 2;rw [List.not_any_eq_all_not];rfl
theorem hasRune_nil (S:List UInt8) (n:Nat):hasRune S n []=false:=by cases n<;>simp [hasRune]
set_option maxHeartbeats 4000000 in
theorem label_any (s:ByteArray) (w:World) (hs:s.size≤1000000000):
  Calls Tryz.prog 82 #[.string s] w fun e w'=>e=.returned (.bool (labelL s.data.toList))∧Below w.heap.size w w':=by
 have hla:=label_eq s.data.toList;have hany:=hasRune_any labelSigns (by decide) s.data.toList.length s.data.toList (Nat.le_refl _);rw [show (s.data.toList.any fun c=>labelSigns.contains c)=s.data.toList.any (labelSigns.contains ·)from rfl,←hany]at hla;have HLA:=Lib.hid hla;clear hla hany;go_enter Tryz.func82,Tryz.ntmps82
 go_wp2_with fail;go_loopw [] (fun wr=>∃pos f:Nat,wr.heap[w.heap.size]? =some (.stringIter s pos)∧Below w.heap.size w wr∧hasRune labelSigns f (s.data.toList.drop pos)=hasRune labelSigns s.data.toList.length s.data.toList∧s.size≤pos+f) (fun wr=>s.size - wr.iterPos w.heap.size)
 case atStart=>
  refine ⟨0,s.size,?_,(Below.refl _ w).alloc (Nat.le_refl _) _,by rw [←Lib.size_eq];rfl,by omega⟩;have:=World.iter_heap w s 0;simpa using this
 case round=>
  obtain ⟨pos,f,hit,hbw,hbad,hfu⟩:=hrel;have hsz:w.heap.size<wr.heap.size:=(Array.getElem?_eq_some_iff.1 hit).1;by_cases hp:pos<s.size
  ·have hnx:∀ty,(Instr.next (.pointer (some ⟨w.heap.size,0,none⟩)) true ty).run Tryz.prog wr=_:=fun ty=>Lib.run_next_any_at wr w.heap.size s pos ty hit hp;have hit2:=Lib.iterAt_heap wr w.heap.size s pos (pos+(Utf8.decode s pos).2) hit;have hbw2:=Lib.below_iterAt hbw (k:=w.heap.size) (by omega) s (pos+(Utf8.decode s pos).2);obtain ⟨f,rfl⟩:∃g,f=g+1:=⟨f - 1,by omega⟩
   have hdl:=Lib.decodeL_drop s pos;have hwd:=Lib.decodeL_width (s.data.toList.drop pos);have hrl:=Lib.decodeL_rune (s.data.toList.drop pos);have hne:s.data.toList.drop pos≠[]:=(by intro h0;have:=congrArg List.length h0;simp at this;omega);rw [hasRune,if_neg hne,List.drop_drop]at hbad;rw [←hdl]at hnx hit2 hbw2;obtain ⟨r,n,hrn⟩:∃r n,Lib.decodeL (s.data.toList.drop pos)=(r,n):=⟨_,_,rfl⟩
   rw [hrn]at hnx hit2 hbw2 hwd hrl hbad;simp only at hnx hit2 hbw2 hwd hrl hbad;clear hrn hdl hbw;have hcr:=fun W=>containsRune_nat ⟨#[123,125,124,58,32,9]⟩ r W (by unfold AllAscii;decide) (by decide) hrl;rw [show (ByteArray.mk #[123,125,124,58,32,9]).data.toList=labelSigns from rfl]at hcr;have HCR:=Lib.hid hcr;have HBAD:=Lib.hid hbad;clear hcr hbad;cases hb:labelSigns.any (fun b=>b.toNat==r)
   ·have HN:=Lib.hid (show hasRune labelSigns f (s.data.toList.drop (pos+n))=hasRune labelSigns s.data.toList.length s.data.toList by have:=HBAD.out;rw [hb,Bool.false_or]at this;exact this);have HB:=Lib.hid hb;clear hb;go_wp2_with fail;refine (HCR.out _).mono ?_;rintro e w2 ⟨rfl,b2⟩;rw [HB.out];have hit3:=iter_below hit2 b2;have hbw3:=below_step hbw2 b2;go_wp2_with fail;go_roundw;case rel=>exact ⟨pos+n,f,hit3,hbw3,HN.out,by omega⟩
    case measure=>simp only [World.iterPos,hit3,hit];omega
   ·have HN:=Lib.hid (show labelL s.data.toList=false by
     rw [HLA.out,←HBAD.out,hb];rfl)
    have HB:=Lib.hid hb;clear hb;go_wp2_with fail;refine (HCR.out _).mono ?_;rintro e w2 ⟨rfl,b2⟩;rw [HB.out];have hbw3:=below_step hbw2 b2;go_wp2_with fail;go_ret;exact ⟨by rw [HN.out];try rfl,hbw3⟩
  ·have hnx:∀ty,(Instr.next (.pointer (some ⟨w.heap.size,0,none⟩)) true ty).run Tryz.prog wr=_:=fun ty=>Lib.run_next_end_at wr w.heap.size s pos ty hit hp;rw [drop_end s pos (by omega),hasRune_nil]at hbad;have hla:=HLA.out;rw [←hbad]at hla;have HB:=Lib.hid hbw;by_cases h0:0<s.size
   ·have he:=empty_no h0;have hne:(s.data.toList !=[])=true:=by
     have:s.data.toList≠[]:=(by intro h;rw [Lib.size_eq,h]at h0;exact absurd h0 (by simp));simpa using this
    rw [hne,←Lib.size_eq]at hla;have HQ:=Lib.hid (show labelL s.data.toList=decide ((s.size:Int)≤40) by
     rw [hla];by_cases h:s.size≤40
     ·rw [decide_eq_true h,decide_eq_true (by omega)];rfl
     ·rw [decide_eq_false h,decide_eq_false (by omega)];rfl)
    clear hla hne hbad hbw;go_wp2_with fail;go_ret;exact ⟨by rw [HQ.out];try rfl,HB.out⟩
   ·have he:=empty_yes (s:=s) (by omega);have hne:(s.data.toList !=[])=false:=(by rw [head_nil s (by omega)];rfl);rw [hne]at hla;have HQ:=Lib.hid (show labelL s.data.toList=false by rw [hla];rfl);clear hla hne hbad hbw;go_wp2_with fail;go_ret;exact ⟨by rw [HQ.out];try rfl,HB.out⟩
theorem suffix_one (l:List UInt8) (c:UInt8):Lib.hasSuffix l [c]=decide (l.getLast? =some c)∧(l.getLast? =some c→Lib.trimSuffix l [c]=l.dropLast):=by
 have h1:Lib.hasSuffix l [c]=decide (l.getLast? =some c):=by
  unfold Lib.hasSuffix;rw [Bool.eq_iff_iff,decide_eq_true_eq,List.isSuffixOf_iff_suffix];constructor
  ·rintro ⟨t,rfl⟩;simp
  ·intro h;obtain ⟨t,rfl⟩:=List.getLast?_eq_some_iff.1 h;exact ⟨t,rfl⟩
 refine ⟨h1,fun h=>?_⟩;unfold Lib.trimSuffix;rw [h1,decide_eq_true h,if_pos rfl,List.dropLast_eq_take];rfl
set_option maxHeartbeats 4000000 in
theorem opens_any (s:ByteArray) (w:World) (hs:s.size≤1000000000):
  Calls Tryz.prog 50 #[.string s] w fun e w'=>e=.returned (.tuple #[.string ⟨(opensD s.data.toList).1.toArray⟩,.bool (opensD s.data.toList).2])∧Below w.heap.size w w':=by
 have ht:=fun W=>trR1_any s 32 (by decide) W hs;have hXz:=rstrip_le (·==32) s.data.toList;obtain ⟨X,hX⟩:∃X:ByteArray,(⟨(rstripL (·==32) s.data.toList).toArray⟩:ByteArray)=X:=⟨_,rfl⟩
 have hXl:rtrimS s.data.toList=X.data.toList:=(by rw [←hX];rfl);rw [hX]at ht;rw [show rstripL (·==32) s.data.toList=X.data.toList from hXl,←Lib.size_eq,←Lib.size_eq]at hXz;have hp:=fun W=>Tryz.strings_CutPrefix X ⟨#[58,58,58,123]⟩ W;rw [show (ByteArray.mk #[58,58,58,123]).data.toList=[58,58,58,123]from rfl]at hp;obtain ⟨P,hP⟩:∃P,Lib.hasPrefix X.data.toList [58,58,58,123]=P:=⟨_,rfl⟩
 obtain ⟨R,hR⟩:∃R:ByteArray,(⟨(Lib.trimPrefix X.data.toList [58,58,58,123]).toArray⟩:ByteArray)=R:=⟨_,rfl⟩
 have hRl:Lib.trimPrefix X.data.toList [58,58,58,123]=R.data.toList:=(by rw [←hR]);have hRz:R.size≤X.size:=by
  rw [Lib.size_eq,Lib.size_eq,←hRl];unfold Lib.trimPrefix;split
  ·simp
  ·exact Nat.le_refl _
 rw [hP,hR]at hp;have hv:opensD s.data.toList=if P=false then ([],false)else if R.data.toList.getLast? =some 125 then (R.data.toList.dropLast,labelL R.data.toList.dropLast)else (R.data.toList,false):=by
  unfold opensD;simp only;rw [hXl,hP,hRl]
 have hq:=fun W=>Tryz.strings_CutSuffix R ⟨#[125]⟩ W (by omega);rw [show (ByteArray.mk #[125]).data.toList=[125]from rfl]at hq;have HT:=Lib.hid ht;have HP:=Lib.hid hp;have HV:=Lib.hid hv;clear ht hp hv hX hXl hP hR hRl;cases P
 ·have HQ:=Lib.hid (show opensD s.data.toList=([],false) by rw [HV.out,if_pos rfl]);clear hq;go_enter Tryz.func50,Tryz.ntmps50
  go_wp2_with fail;refine (HT.out _).mono ?_;rintro e w2 ⟨rfl,hw2⟩;obtain rfl:=hw2.symm;go_wp2_with fail;refine (HP.out _).mono ?_;rintro e w3 ⟨rfl,hw3⟩;obtain rfl:=hw3.symm;go_wp2_with fail
  go_ret2
  exact ⟨by rw [HQ.out];try rfl,Below.refl _ _⟩
 ·have hsf:=suffix_one R.data.toList 125;by_cases hl:R.data.toList.getLast? =some 125
  ·have hts:=hsf.2 hl;have hhs:=hsf.1;rw [decide_eq_true hl]at hhs;rw [hhs,hts]at hq;obtain ⟨N,hN⟩:∃N:ByteArray,(⟨R.data.toList.dropLast.toArray⟩:ByteArray)=N:=⟨_,rfl⟩
   have hNl:R.data.toList.dropLast=N.data.toList:=(by rw [←hN]);have hNz:N.size≤R.size:=(by rw [Lib.size_eq,Lib.size_eq,←hNl];simp);rw [hN]at hq;have hla:=fun W=>label_any N W (by omega);obtain ⟨L,hL⟩:∃L,labelL N.data.toList=L:=⟨_,rfl⟩
   rw [hL]at hla;have HQ:=Lib.hid (show opensD s.data.toList=(N.data.toList,L) by rw [HV.out,if_neg (by simp),if_pos hl,hNl,hL]);have HQS:=Lib.hid hq;have HLA:=Lib.hid hla;clear hq hla hL hN hNl hNz hhs hts hl hsf;go_enter Tryz.func50,Tryz.ntmps50
   go_wp2_with fail;refine (HT.out _).mono ?_;rintro e w2 ⟨rfl,hw2⟩;obtain rfl:=hw2.symm;go_wp2_with fail;refine (HP.out _).mono ?_;rintro e w3 ⟨rfl,hw3⟩;obtain rfl:=hw3.symm;go_wp2_with fail;refine (HQS.out _).mono ?_;rintro e w4 ⟨rfl,hw4⟩;obtain rfl:=hw4.symm;go_wp2_with fail;refine (HLA.out _).mono ?_;rintro e w5 ⟨rfl,b5⟩;go_wp2_with fail
   go_ret2
   exact ⟨ret_sb HQ.out,b5⟩
  ·have hhs:=hsf.1;rw [decide_eq_false hl]at hhs;have hts:Lib.trimSuffix R.data.toList [125]=R.data.toList:=(by unfold Lib.trimSuffix;rw [hhs];rfl);rw [hhs,hts,Lib.mk_data]at hq;have HQ:=Lib.hid (show opensD s.data.toList=(R.data.toList,false) by rw [HV.out,if_neg (by simp),if_neg hl]);have HQS:=Lib.hid hq;clear hq hhs hts hl hsf;go_enter Tryz.func50,Tryz.ntmps50
   go_wp2_with fail;refine (HT.out _).mono ?_;rintro e w2 ⟨rfl,hw2⟩;obtain rfl:=hw2.symm;go_wp2_with fail;refine (HP.out _).mono ?_;rintro e w3 ⟨rfl,hw3⟩;obtain rfl:=hw3.symm;go_wp2_with fail;refine (HQS.out _).mono ?_;rintro e w4 ⟨rfl,hw4⟩;obtain rfl:=hw4.symm;go_wp2_with fail
   go_ret2
   exact ⟨ret_sb HQ.out,Below.refl _ _⟩
def intV (n:Nat):Value:=.int .i64 (n:Int)
def fr0:FrSt:=⟨[],[],false⟩
structure FpRel (ls:List (List UInt8)) (w:World) (i:Nat) (st:FrSt) (l:List PartV) (vout vin:Value) (wr:World):Prop where
 out:PartsOwn w.heap.size wr vout l
 map:l.map (·.1)=st.out
 inn:wr.ownsRow w.heap.size 3 1 vin st.inn.length (st.inn.map intV)
 bel:Below w.heap.size w wr
 fold:(ls.drop i).foldl frameStep st=ls.foldl frameStep fr0
 len:l.length≤i
 ilen:st.inn.length≤i
 lens:∀x∈l,x.1.lines.length≤i
 inlt:∀n∈st.inn,n<l.length
 run:st.run=true→0<l.length
theorem map_set:∀(l:List PartV) (k:Nat) (x:PartV) (f:PartL→PartL) (v:Value),l[k]? =some x→(l.set k (f x.1,v)).map (·.1)=(l.map (·.1)).modify k f
 |[],k,x,f,v,h=>by simp at h
 |y::l,0,x,f,v,h=>by simp at h;subst h;simp
 |y::l,k+1,x,f,v,h=>by
  rw [List.set_cons_succ,List.map_cons,List.map_cons,List.modify_succ_cons,map_set l k x f v (by simpa using h)]
theorem step_open {st:FrSt} {s n:List UInt8} (h:opensD s=(n,true)):frameStep st s=⟨st.out++[⟨st.inn.length,true,n,true,[]⟩],st.inn++[st.out.length],false⟩:=by
 unfold frameStep;rw [h,if_pos rfl]
theorem step_shut {st:FrSt} {s n:List UInt8} (h:opensD s=(n,false)) (h2:shutsD s=true) (h3:0<st.inn.length):frameStep st s=⟨st.out.modify (st.inn.getLast?.getD 0) (fun p=>{p with opn:=false}),st.inn.dropLast,false⟩:=by
 unfold frameStep;rw [h,if_neg (by simp),if_pos ⟨h2,h3⟩]
theorem step_run {st:FrSt} {s n:List UInt8} (h:opensD s=(n,false)) (h2:¬(shutsD s=true∧0<st.inn.length)) (h3:st.run=true):frameStep st s=⟨st.out.modify (st.out.length - 1) (fun p=>{p with lines:=p.lines++[s]}),st.inn,true⟩:=by
 unfold frameStep;rw [h,if_neg (by simp),if_neg h2,if_pos h3]
theorem step_new {st:FrSt} {s n:List UInt8} (h:opensD s=(n,false)) (h2:¬(shutsD s=true∧0<st.inn.length)) (h3:st.run=false):frameStep st s=⟨st.out++[⟨st.inn.length,false,[],false,[s]⟩],st.inn,true⟩:=by
 unfold frameStep;rw [h,if_neg (by simp),if_neg h2,if_neg (by rw [h3];simp)]
theorem own_zero {w:World} {base:Nat} {e:TypeId} {size g o n k c:Nat} {xs:List Value} (h:w.ownsRow base e size (.slice (some ⟨g,o,none⟩) n c) k xs):o=0∧∃cs,w.heap[g]? =some (.cells cs e (0,0)):=by
 rcases h.2 with ⟨h0,_⟩|⟨g',c',cur,h0,_,hg,_⟩
 ·simp at h0
 ·simp only [Value.slice.injEq,Option.some.injEq,Addr.mk.injEq,and_true]at h0;exact ⟨h0.1.2,cur,by rw [h0.1.1];exact hg⟩
theorem drop_line {α:Type} (ls:List α) (i:Nat) (s:α) (h:ls[i]? =some s):ls.drop i=s::ls.drop (i+1):=by
 obtain ⟨hi,rfl⟩:=List.getElem?_eq_some_iff.1 h;exact List.drop_eq_getElem_cons hi
set_option maxHeartbeats 8000000 in
theorem parse_lines (ao:Option Addr) (cap:Nat) (ls:List (List UInt8)) (w:World) (hR:StrR w ao ls) (hn:ls.length≤1000000) (hs:∀x∈ls,x.length≤1000000):
  Calls Tryz.prog 20 #[.slice ao ls.length cap] w fun e w'=>∃v l,e=.returned v∧PartsOwn w.heap.size w' v l∧l.map (·.1)=frameL ls∧Below w.heap.size w w':=by
 obtain ⟨ip,hpi,hp0,hp1,hp2⟩:=info_parts infoPart;obtain ⟨ii,hii,hi0,hi1,hi2⟩:=info_parts infoInt8;obtain ⟨is,hsi,hs0,hs1,hs2⟩:=info_parts infoStr;obtain ⟨F,hF⟩:∃F,frameL ls=F:=⟨_,rfl⟩
 rw [hF];have HF:=Lib.hid hF;have HR:=Lib.hid hR;have HS:=Lib.hid hs;clear hR hs hF;go_enter Tryz.func20,Tryz.ntmps20
 go_wp2_with fail;go_loopw [3,4,5,12] (fun u3 u4 u5 u12 wr=>∃(i:Nat) (st:FrSt) (l:List PartV) (ru:Bool),i≤ls.length∧u5=.bool ru∧st.run=ru∧u12=.int .i64 i∧FpRel ls w i st l u3 u4 wr) (fun _ _ _ u12 _=>ls.length - (intOf u12).toNat)
 case atStart=>exact ⟨0,fr0,[],false,Nat.zero_le _,rfl,rfl,rfl,⟨PartsOwn.nil _ _,rfl,World.ownsRow_nil _ _ _ _,Below.refl _ _,rfl,Nat.zero_le _,Nat.zero_le _,fun x h=>(by cases h),fun x h=>(by cases h),fun h=>(by cases h)⟩⟩
 case round=>
  obtain ⟨i,st,l,ru,hi,rfl,hru,rfl,hrel⟩:=hrel;by_cases hlt:i<ls.length
  ·obtain ⟨s,hs⟩:∃s,ls[i]? =some s:=⟨_,List.getElem?_eq_getElem hlt⟩
   have hsz:=HS.out s (List.mem_of_getElem? hs);obtain ⟨g0,o0,rfl⟩:=StrR.addr HR.out (by omega);have hcl:=StrR.at' (HR.out.below hrel.bel) i s hs;have hfold:=hrel.fold;rw [drop_line ls i s hs,List.foldl_cons]at hfold;obtain ⟨X,hX⟩:∃X:ByteArray,(⟨s.toArray⟩:ByteArray)=X:=⟨_,rfl⟩
   have hXl:s=X.data.toList:=(by rw [←hX]);rw [hX]at hcl;have hXz:X.size≤1000000:=(by rw [Lib.size_eq,←hXl];exact hsz);have hop:=fun W=>opens_any X W (by omega);have hsh:=fun W=>shuts_any X W (by omega);rw [←hXl]at hop hsh;obtain ⟨N,b1,hN⟩:∃(N:ByteArray) (b:Bool),opensD s=(N.data.toList,b):=⟨⟨(opensD s).1.toArray⟩,(opensD s).2,rfl⟩
   rw [hN]at hop;simp only [Lib.mk_data]at hop;obtain ⟨b2,hb2⟩:∃b,shutsD s=b:=⟨_,rfl⟩
   rw [hb2]at hsh;have HOP:=Lib.hid hop;have HSH:=Lib.hid hsh;have HREL:=Lib.hid hrel;have HFOLD:=Lib.hid hfold;have HN:=Lib.hid hN;have HB2:=Lib.hid hb2;have HX:=Lib.hid hXl;clear hop hsh hfold hN hb2 hXl hX hsz hs hrel;go_wp2_with fail;refine (HOP.out _).mono ?_;rintro e w2 ⟨rfl,b2w⟩;have HO:=Lib.hid (HREL.out.out.below b2w);have HI:=Lib.hid (own_below HREL.out.inn b2w);have HB:=Lib.hid (below_step HREL.out.bel b2w);clear b2w;obtain ⟨q,hq⟩:∃q,st.inn.length=q:=⟨_,rfl⟩
   have hil:=HREL.out.ilen;have hll:=HREL.out.len;have HQ:=Lib.hid hq;have hI:=HI.out;rw [hq]at hI hil;have HI:=Lib.hid hI;have HRU:=Lib.hid hru;clear hq hI hru;obtain ⟨iao,icap,hiv,_⟩:=own_slice HI.out;subst hiv;cases b1
   ·go_wp2_with fail;refine (HSH.out _).mono ?_;rintro e w3 ⟨rfl,b3w⟩;have HO3:=Lib.hid (HO.out.below b3w);have HI3:=Lib.hid (own_below HI.out b3w);have HB3:=Lib.hid (below_step HB.out b3w);clear b3w HO HI HB HOP HSH;have HO:=HO3;have HI:=HI3;have HB:=HB3;clear HO3 HI3 HB3;cases b2
    ·cases ru
     ·have HST:=Lib.hid (step_new HN.out (by rintro ⟨h,_⟩;rw [HB2.out]at h;cases h) HRU.out);have hmem:w3.heap.size<(w3.alloc (.cells #[.string X] 9)).heap.size:=(by simp);have hrl:StrOwn w.heap.size (w3.alloc (.cells #[.string X] 9)) (.slice (some ⟨w3.heap.size,0,none⟩) 1 1) [s]:=by
       have:=World.ownsRow_lit (base:=w.heap.size) (e:=9) (size:=1) w3 #[.string X] 1 HB.out.size (by unfold maxLen;omega) rfl;unfold StrOwn strV;rw [HX.out];simp only [List.map_cons,List.map_nil,Lib.mk_data];exact this
      have hoa:=HO.out.alloc (.cells #[.string X] 9);have hia:=World.ownsRow.alloc HI.out (.cells #[.string X] 9);have hba:=HB.out.alloc HB.out.size (.cells #[.string X] 9);have hfr:∀(i:Nat) (x:PartV),l[i]? =some x→(x.2.ownBlock=none∨x.2.ownBlock≠some w3.heap.size)∧((some w3.heap.size:Option Nat)=none∨some w3.heap.size≠x.2.ownBlock):=fun i x hx=>by
       have hlt:=World.ownsRow.lt (HO.out.lines i x hx);exact ⟨Or.inr fun e=>by have:=(hlt _ e).2;omega,Or.inr fun e=>by have:=(hlt _ e.symm).2;omega⟩
      obtain ⟨wA,hwA⟩:∃W,w3.alloc (.cells #[.string X] 9)=W:=⟨_,rfl⟩
      rw [hwA]at hmem hrl hoa hia hba;have HOA:=Lib.hid hoa;have HIA:=Lib.hid hia;have HBA:=Lib.hid hba;have HRL:=Lib.hid hrl;have HFR:=Lib.hid hfr;clear hoa hia hba hrl hfr
      go_wp2_with (first
       |(at_builtin;refine wpList_append_own _ rfl _ _ 69 rfl w.heap.size 74 ip (.agg #[.int .i64 0,.bool false,.string ⟨#[]⟩,.bool false,.slice none 0 0]) 5 64 Tryz.underlying69 hpi hp0 hp1 hp2 rfl (by decide) _ _ _ rfl (World.ownsRow.alloc HOA.out.row _) ⟨wA.heap.size,0,none⟩ 1 1 [.int .i64 (q:Int),.bool false,.string ⟨#[]⟩,.bool false,.slice (some ⟨w3.heap.size,0,none⟩) 1 1] rfl rfl ?c1 ?c2 ?c3 ?c4 ?c5 ?_))
      case c1=>exact cells_new _ _ _ _ rfl
      case c2=>intro u hu;simp at hu;rcases hu with rfl|rfl|rfl|rfl|rfl<;>rfl
      case c3=>unfold maxLen;omega
      case c4=>omega
      case c5=>have:=HBA.out.size;simp;omega
      intro v4 w4 hown4 hgrow _;have hg1:wA.grownBy w4 u3.ownBlock:=(World.grownBy_alloc wA _ _).trans hgrow;have hI4:=World.ownsRow.kept HIA.out hg1 (own_apart HIA.out HOA.out.row (by decide));have hB4:=HBA.out.grown hg1 HBA.out.size (fun j hj=>(World.ownsRow.lt HOA.out.row j hj).1);have hown4':=hown4;obtain ⟨oao,ocap,hov,_⟩:=own_slice hown4';subst hov;clear hown4';have hO4:=PartsOwn.push HOA.out ⟨st.inn.length,false,[],false,[s]⟩ (.slice (some ⟨w3.heap.size,0,none⟩) 1 1) hg1 (by rw [HQ.out];exact hown4) HRL.out HFR.out;have HR4:=Lib.hid (show FpRel ls w (i+1) (frameStep st s) (l++[(⟨st.inn.length,false,[],false,[s]⟩,.slice (some ⟨w3.heap.size,0,none⟩) 1 1)]) (.slice oao (l.length+1) ocap) (.slice iao q icap) w4 from by
       refine ⟨hO4,?_,?_,hB4,HFOLD.out,?_,?_,?_,?_,?_⟩
       ·rw [HST.out,List.map_append,HREL.out.map];rfl
       ·rw [HST.out];simp only;rw [HQ.out];exact hI4
       ·rw [List.length_append];simp;omega
       ·rw [HST.out];simp only;rw [HQ.out];omega
       ·intro x hx;rcases List.mem_append.1 hx with hx|hx
        ·have:=HREL.out.lens x hx;omega
        ·rw [List.mem_singleton.1 hx];simp
       ·intro n hn;rw [HST.out]at hn;rw [List.length_append];have:=HREL.out.inlt n hn;omega
       ·intro _;rw [List.length_append];simp)
      have HRUN:=Lib.hid (show (frameStep st s).run=true by rw [HST.out]);clear hO4 hI4 hB4 hown4 hgrow hg1;go_wp2_with fail;go_roundw;case rel=>exact ⟨i+1,frameStep st s,_,true,by omega,rfl,HRUN.out,by go_num,HR4.out⟩
      case measure=>simp [intOf];omega
     ·have HST:=Lib.hid (step_run HN.out (by rintro ⟨h,_⟩;rw [HB2.out]at h;cases h) HRU.out);have hl0:=HREL.out.run HRU.out;obtain ⟨p,hp⟩:∃p,l.length=p+1:=⟨l.length - 1,by omega⟩
      obtain ⟨x,hx⟩:∃x,l[p]? =some x:=⟨_,List.getElem?_eq_getElem (by omega)⟩
      have hxl:=HO.out.lines p x hx;have hxn:=HREL.out.lens x (List.mem_of_getElem? hx);obtain ⟨oao,ocap,hov,hor,_⟩:=own_slice HO.out.row;rw [hp]at hov hor;subst hov;obtain ⟨go,oo,rfl⟩:=hor.addr (by omega);obtain rfl:oo=0:=(own_zero HO.out.row).1;obtain ⟨x1,xv⟩:=x;obtain ⟨xao,xcap,hxv,hxr,hxc,_⟩:=own_slice hxl;simp only at hxv hxr hxl;subst hxv;have hcl4:=RowR.cell (f:=partCells) (k:=5) hor part_len p 4 _ _ hx (by omega) rfl;simp only [Nat.zero_add]at hcl4;have hO':=HO.out;have HOP:=Lib.hid hO';have HXL:=Lib.hid hxl;have HXX:=Lib.hid hx;have HPP:=Lib.hid hp;have hxn2:x1.lines.length≤1000000:=(by simp only at hxn;omega);clear hO' hxl hx hor hxr HO
      go_wp2_with (first
       |(at_builtin;refine wpList_append_keep _ rfl _ _ 28 rfl w.heap.size 9 is (.string ⟨#[]⟩) 1 16 Tryz.underlying28 hsi hs0 hs1 hs2 rfl (by decide) _ _ _ rfl (World.ownsRow.alloc HXL.out _) ⟨w3.heap.size,0,none⟩ 1 1 [.string X] rfl rfl ?c1 ?c2 ?c3 ?c4 ?c5 ?_))
      case c1=>exact cells_new _ _ _ _ rfl
      case c2=>intro u hu;simp at hu;rcases hu with rfl;rfl
      case c3=>unfold maxLen;omega
      case c4=>omega
      case c5=>have:=HB.out.size;simp;omega
      intro v4 w4 hown4 honto hat;have hg1:=(World.grownBy_alloc w3 (.cells #[.string X] 9) (Value.slice xao x1.lines.length xcap).ownBlock).trans honto.grown;have hstr:StrOwn w.heap.size w4 v4 (x1.lines++[s]):=by
       unfold StrOwn;rw [List.map_append,List.length_append,List.map_cons,List.map_nil,HX.out];unfold strV;simp only [Lib.mk_data];exact hown4
      have hrow4:=World.ownsRow.kept HOP.out.row hg1 (own_apart HOP.out.row HXL.out (by decide));have hat2:v4.ownBlock=(Value.slice xao x1.lines.length xcap).ownBlock∨∃k,v4.ownBlock=some k∧w3.heap.size≤k:=by
       rcases hat with h|h
       ·exact Or.inl h
       ·exact Or.inr ⟨_,h,by simp⟩
      have hmore:=PartsOwn.more HOP.out (by rw [HPP.out]) HXX.out hg1 hstr hat2;have hI4:=World.ownsRow.kept HI.out hg1 (own_apart HI.out HXL.out (by decide));have hB4:=HB.out.grown hg1 HB.out.size (fun j hj=>(World.ownsRow.lt HXL.out j hj).1);obtain ⟨vao,vcap,hvv,_⟩:=own_slice hown4;subst hvv;have hfz:w4.frozen? ⟨go,p*5+4,none⟩=false:=by
       have h4:=hrow4;rw [HPP.out]at h4;exact World.ownsRow.frozenAt h4 _
      have hbg:w.heap.size≤go:=(World.ownsRow.lt HOP.out.row go rfl).1;have hgh:=(own_zero hrow4).2;have hcl5:w4.cell? ⟨go,p*5+4,none⟩=some (.slice xao x1.lines.length xcap):=by
       have h6:=(own_rowR hrow4).2.1;have:=RowR.cell (f:=partCells) (k:=5) h6 part_len p 4 _ _ HXX.out (by omega) rfl;simpa only [Nat.zero_add]using this
      have HI5:=Lib.hid (show (w4.setCell ⟨go,p*5+4,none⟩ (.slice vao (x1.lines.length+1) vcap)).ownsRow w.heap.size 3 1 (.slice iao q icap) q (st.inn.map intV)from by
       obtain ⟨cs,hcs⟩:=hgh;exact own_setCell (a:=⟨go,p*5+4,none⟩) hI4 hcs (by decide) _)
      have HB5:=Lib.hid (hB4.setCell (p:=⟨go,p*5+4,none⟩) hbg (.slice vao (x1.lines.length+1) vcap));have HMORE:=Lib.hid hmore;clear hmore hI4 hB4 hrow4 hstr hown4 honto hat hat2 hg1 hgh hbg hcl4;go_wp2_with fail;go_roundw
      case rel=>
       refine ⟨i+1,frameStep st s,l.set p ({x1 with lines:=x1.lines++[s]},.slice vao (x1.lines.length+1) vcap),true,by omega,rfl,(by rw [HST.out]),by go_num,HMORE.out,?_,?_,HB5.out,HFOLD.out,?_,?_,?_,?_,?_⟩
       ·have hm:=map_set l p (x1,.slice xao x1.lines.length xcap) (fun p=>{p with lines:=p.lines++[s]}) (.slice vao (x1.lines.length+1) vcap) HXX.out;rw [HST.out];simp only;rw [hm,HREL.out.map];congr 1;rw [←HREL.out.map,List.length_map,HPP.out];rfl
       ·rw [HST.out];simp only;rw [HQ.out];exact HI5.out
       ·rw [List.length_set];omega
       ·rw [HST.out];simp only;rw [HQ.out];omega
       ·intro y hy;rcases List.mem_or_eq_of_mem_set hy with h|h
        ·have:=HREL.out.lens y h;omega
        ·rw [h];simp only [List.length_append,List.length_cons,List.length_nil];omega
       ·intro n hn;rw [HST.out]at hn;rw [List.length_set];exact HREL.out.inlt n hn
       ·intro _;rw [List.length_set];omega
      case measure=>simp [intOf];omega
    ·by_cases h0:0<q
     ·have HST:=Lib.hid (step_shut HN.out HB2.out (by rw [HQ.out];exact h0));obtain ⟨m,rfl⟩:∃m,q=m+1:=⟨q - 1,by omega⟩
      obtain ⟨inn0,k,hin⟩:∃a b,st.inn=a++[b]:=by
       have hne:st.inn≠[]:=fun e=>by have:=HQ.out;rw [e]at this;simp at this
       exact ⟨st.inn.dropLast,st.inn.getLast hne,(List.dropLast_concat_getLast hne).symm⟩
      have hm0:inn0.length=m:=(by have:=HQ.out;rw [hin]at this;simpa using this);have hkl:=HREL.out.inlt k (by rw [hin];simp);obtain ⟨x,hx⟩:∃x,l[k]? =some x:=⟨_,List.getElem?_eq_getElem hkl⟩
      obtain ⟨gi,rfl⟩:∃g,iao=some ⟨g,0,none⟩:=by
       rcases HI.out.2 with ⟨h,_⟩|⟨g,c,cur,h,_⟩
       ·cases h
       ·cases h;exact ⟨g,rfl⟩
      have hci:w3.cell? ⟨gi,m,none⟩=some (.int .i64 (k:Int)):=by
       rw [World.ownsRow.cellAt HI.out m (by omega),hin,List.map_append,List.getElem?_append_right (by simp [hm0])];simp [hm0,intV]
      obtain ⟨oao,ocap,hov,hor,_⟩:=own_slice HO.out.row;subst hov;obtain ⟨go,rfl⟩:∃g,oao=some ⟨g,0,none⟩:=by
       rcases HO.out.row.2 with ⟨_,h⟩|⟨g,c,cur,h,_⟩
       ·omega
       ·cases h;exact ⟨g,rfl⟩
      have hco:=RowR.cell (f:=partCells) (k:=5) hor part_len k 3 x _ hx (by omega) rfl;simp only [Nat.zero_add]at hco;have hfz:=World.ownsRow.frozenAt HO.out.row (k*5+3);have hbg:w.heap.size≤go:=(World.ownsRow.lt HO.out.row go rfl).1;have hgh:=(own_zero HO.out.row).2;have hflag:=PartsOwn.flag HO.out rfl k 3 x {x.1 with opn:=false} (.bool false) hx (by omega) rfl rfl;have hI5:(w3.setCell ⟨go,k*5+3,none⟩ (.bool false)).ownsRow w.heap.size 3 1 (.slice (some ⟨gi,0,none⟩) m icap) m (inn0.map intV):=by
       obtain ⟨cs,hcs⟩:=hgh;have h1:=own_setCell (a:=⟨go,k*5+3,none⟩) HI.out hcs (by decide) (.bool false);have h2:=own_take h1 m (by omega) _ _ _ rfl;rw [hin,List.map_append,Nat.mul_one,List.take_left' (by simp [hm0])]at h2;exact h2
      have hB5:=HB.out.setCell (p:=⟨go,k*5+3,none⟩) hbg (.bool false);have HFL:=Lib.hid hflag;have HI5:=Lib.hid hI5;have HB5:=Lib.hid hB5;have HIN:=Lib.hid hin;have HM0:=Lib.hid hm0;have HX2:=Lib.hid hx;have hk1:(0:Int)≤(k:Int):=(by omega);have hk2:(k:Int)<(l.length:Int):=(by omega);clear hflag hI5 hB5 hin hm0 hgh hor hx h0;go_wp2_with fail;go_roundw
      case rel=>
       refine ⟨i+1,frameStep st s,l.set k ({x.1 with opn:=false},x.2),false,by omega,rfl,(by rw [HST.out]),by go_num,HFL.out,?_,?_,HB5.out,HFOLD.out,?_,?_,?_,?_,?_⟩
       ·have hm:=map_set l k x (fun p=>{p with opn:=false}) x.2 HX2.out;rw [HST.out];simp only;rw [hm,HREL.out.map,HIN.out];simp
       ·rw [HST.out];simp only;rw [HIN.out,List.dropLast_concat,HM0.out];exact HI5.out
       ·rw [List.length_set];omega
       ·rw [HST.out];simp only;rw [HIN.out,List.dropLast_concat,HM0.out];omega
       ·intro y hy;rcases List.mem_or_eq_of_mem_set hy with h|h
        ·have:=HREL.out.lens y h;omega
        ·rw [h];have:=HREL.out.lens x (List.mem_of_getElem? HX2.out);simp only;omega
       ·intro n hn;rw [HST.out]at hn;rw [List.length_set];refine HREL.out.inlt n ?_;exact List.dropLast_subset _ hn
       ·intro h;rw [HST.out]at h;cases h
      case measure=>simp [intOf];omega
     ·have q0:¬(0:Int)<(q:Int):=(by omega);cases ru
      ·have HST:=Lib.hid (step_new HN.out (by rintro ⟨_,h⟩;rw [HQ.out]at h;omega) HRU.out);have hmem:w3.heap.size<(w3.alloc (.cells #[.string X] 9)).heap.size:=(by simp);have hrl:StrOwn w.heap.size (w3.alloc (.cells #[.string X] 9)) (.slice (some ⟨w3.heap.size,0,none⟩) 1 1) [s]:=by
        have:=World.ownsRow_lit (base:=w.heap.size) (e:=9) (size:=1) w3 #[.string X] 1 HB.out.size (by unfold maxLen;omega) rfl;unfold StrOwn strV;rw [HX.out];simp only [List.map_cons,List.map_nil,Lib.mk_data];exact this
       have hoa:=HO.out.alloc (.cells #[.string X] 9);have hia:=World.ownsRow.alloc HI.out (.cells #[.string X] 9);have hba:=HB.out.alloc HB.out.size (.cells #[.string X] 9);have hfr:∀(i:Nat) (x:PartV),l[i]? =some x→(x.2.ownBlock=none∨x.2.ownBlock≠some w3.heap.size)∧((some w3.heap.size:Option Nat)=none∨some w3.heap.size≠x.2.ownBlock):=fun i x hx=>by
        have hlt:=World.ownsRow.lt (HO.out.lines i x hx);exact ⟨Or.inr fun e=>by have:=(hlt _ e).2;omega,Or.inr fun e=>by have:=(hlt _ e.symm).2;omega⟩
       obtain ⟨wA,hwA⟩:∃W,w3.alloc (.cells #[.string X] 9)=W:=⟨_,rfl⟩
       rw [hwA]at hmem hrl hoa hia hba;have HOA:=Lib.hid hoa;have HIA:=Lib.hid hia;have HBA:=Lib.hid hba;have HRL:=Lib.hid hrl;have HFR:=Lib.hid hfr;clear hoa hia hba hrl hfr
       go_wp2_with (first
        |(at_builtin;refine wpList_append_own _ rfl _ _ 69 rfl w.heap.size 74 ip (.agg #[.int .i64 0,.bool false,.string ⟨#[]⟩,.bool false,.slice none 0 0]) 5 64 Tryz.underlying69 hpi hp0 hp1 hp2 rfl (by decide) _ _ _ rfl (World.ownsRow.alloc HOA.out.row _) ⟨wA.heap.size,0,none⟩ 1 1 [.int .i64 (q:Int),.bool false,.string ⟨#[]⟩,.bool false,.slice (some ⟨w3.heap.size,0,none⟩) 1 1] rfl rfl ?c1 ?c2 ?c3 ?c4 ?c5 ?_))
       case c1=>exact cells_new _ _ _ _ rfl
       case c2=>intro u hu;simp at hu;rcases hu with rfl|rfl|rfl|rfl|rfl<;>rfl
       case c3=>unfold maxLen;omega
       case c4=>omega
       case c5=>have:=HBA.out.size;simp;omega
       intro v4 w4 hown4 hgrow _;have hg1:wA.grownBy w4 u3.ownBlock:=(World.grownBy_alloc wA _ _).trans hgrow;have hI4:=World.ownsRow.kept HIA.out hg1 (own_apart HIA.out HOA.out.row (by decide));have hB4:=HBA.out.grown hg1 HBA.out.size (fun j hj=>(World.ownsRow.lt HOA.out.row j hj).1);have hown4':=hown4;obtain ⟨oao,ocap,hov,_⟩:=own_slice hown4';subst hov;clear hown4';have hO4:=PartsOwn.push HOA.out ⟨st.inn.length,false,[],false,[s]⟩ (.slice (some ⟨w3.heap.size,0,none⟩) 1 1) hg1 (by rw [HQ.out];exact hown4) HRL.out HFR.out;have HR4:=Lib.hid (show FpRel ls w (i+1) (frameStep st s) (l++[(⟨st.inn.length,false,[],false,[s]⟩,.slice (some ⟨w3.heap.size,0,none⟩) 1 1)]) (.slice oao (l.length+1) ocap) (.slice iao q icap) w4 from by
        refine ⟨hO4,?_,?_,hB4,HFOLD.out,?_,?_,?_,?_,?_⟩
        ·rw [HST.out,List.map_append,HREL.out.map];rfl
        ·rw [HST.out];simp only;rw [HQ.out];exact hI4
        ·rw [List.length_append];simp;omega
        ·rw [HST.out];simp only;rw [HQ.out];omega
        ·intro x hx;rcases List.mem_append.1 hx with hx|hx
         ·have:=HREL.out.lens x hx;omega
         ·rw [List.mem_singleton.1 hx];simp
        ·intro n hn;rw [HST.out]at hn;rw [List.length_append];have:=HREL.out.inlt n hn;omega
        ·intro _;rw [List.length_append];simp)
       have HRUN:=Lib.hid (show (frameStep st s).run=true by rw [HST.out]);clear hO4 hI4 hB4 hown4 hgrow hg1;go_wp2_with fail;go_roundw;case rel=>exact ⟨i+1,frameStep st s,_,true,by omega,rfl,HRUN.out,by go_num,HR4.out⟩
       case measure=>simp [intOf];omega
      ·have HST:=Lib.hid (step_run HN.out (by rintro ⟨_,h⟩;rw [HQ.out]at h;omega) HRU.out);have hl0:=HREL.out.run HRU.out;obtain ⟨p,hp⟩:∃p,l.length=p+1:=⟨l.length - 1,by omega⟩
       obtain ⟨x,hx⟩:∃x,l[p]? =some x:=⟨_,List.getElem?_eq_getElem (by omega)⟩
       have hxl:=HO.out.lines p x hx;have hxn:=HREL.out.lens x (List.mem_of_getElem? hx);obtain ⟨oao,ocap,hov,hor,_⟩:=own_slice HO.out.row;rw [hp]at hov hor;subst hov;obtain ⟨go,oo,rfl⟩:=hor.addr (by omega);obtain rfl:oo=0:=(own_zero HO.out.row).1;obtain ⟨x1,xv⟩:=x;obtain ⟨xao,xcap,hxv,hxr,hxc,_⟩:=own_slice hxl;simp only at hxv hxr hxl;subst hxv;have hcl4:=RowR.cell (f:=partCells) (k:=5) hor part_len p 4 _ _ hx (by omega) rfl;simp only [Nat.zero_add]at hcl4;have hO':=HO.out;have HOP:=Lib.hid hO';have HXL:=Lib.hid hxl;have HXX:=Lib.hid hx;have HPP:=Lib.hid hp;have hxn2:x1.lines.length≤1000000:=(by simp only at hxn;omega);clear hO' hxl hx hor hxr HO
       go_wp2_with (first
        |(at_builtin;refine wpList_append_keep _ rfl _ _ 28 rfl w.heap.size 9 is (.string ⟨#[]⟩) 1 16 Tryz.underlying28 hsi hs0 hs1 hs2 rfl (by decide) _ _ _ rfl (World.ownsRow.alloc HXL.out _) ⟨w3.heap.size,0,none⟩ 1 1 [.string X] rfl rfl ?c1 ?c2 ?c3 ?c4 ?c5 ?_))
       case c1=>exact cells_new _ _ _ _ rfl
       case c2=>intro u hu;simp at hu;rcases hu with rfl;rfl
       case c3=>unfold maxLen;omega
       case c4=>omega
       case c5=>have:=HB.out.size;simp;omega
       intro v4 w4 hown4 honto hat;have hg1:=(World.grownBy_alloc w3 (.cells #[.string X] 9) (Value.slice xao x1.lines.length xcap).ownBlock).trans honto.grown;have hstr:StrOwn w.heap.size w4 v4 (x1.lines++[s]):=by
        unfold StrOwn;rw [List.map_append,List.length_append,List.map_cons,List.map_nil,HX.out];unfold strV;simp only [Lib.mk_data];exact hown4
       have hrow4:=World.ownsRow.kept HOP.out.row hg1 (own_apart HOP.out.row HXL.out (by decide));have hat2:v4.ownBlock=(Value.slice xao x1.lines.length xcap).ownBlock∨∃k,v4.ownBlock=some k∧w3.heap.size≤k:=by
        rcases hat with h|h
        ·exact Or.inl h
        ·exact Or.inr ⟨_,h,by simp⟩
       have hmore:=PartsOwn.more HOP.out (by rw [HPP.out]) HXX.out hg1 hstr hat2;have hI4:=World.ownsRow.kept HI.out hg1 (own_apart HI.out HXL.out (by decide));have hB4:=HB.out.grown hg1 HB.out.size (fun j hj=>(World.ownsRow.lt HXL.out j hj).1);obtain ⟨vao,vcap,hvv,_⟩:=own_slice hown4;subst hvv;have hfz:w4.frozen? ⟨go,p*5+4,none⟩=false:=by
        have h4:=hrow4;rw [HPP.out]at h4;exact World.ownsRow.frozenAt h4 _
       have hbg:w.heap.size≤go:=(World.ownsRow.lt HOP.out.row go rfl).1;have hgh:=(own_zero hrow4).2;have hcl5:w4.cell? ⟨go,p*5+4,none⟩=some (.slice xao x1.lines.length xcap):=by
        have h6:=(own_rowR hrow4).2.1;have:=RowR.cell (f:=partCells) (k:=5) h6 part_len p 4 _ _ HXX.out (by omega) rfl;simpa only [Nat.zero_add]using this
       have HI5:=Lib.hid (show (w4.setCell ⟨go,p*5+4,none⟩ (.slice vao (x1.lines.length+1) vcap)).ownsRow w.heap.size 3 1 (.slice iao q icap) q (st.inn.map intV)from by
        obtain ⟨cs,hcs⟩:=hgh;exact own_setCell (a:=⟨go,p*5+4,none⟩) hI4 hcs (by decide) _)
       have HB5:=Lib.hid (hB4.setCell (p:=⟨go,p*5+4,none⟩) hbg (.slice vao (x1.lines.length+1) vcap));have HMORE:=Lib.hid hmore;clear hmore hI4 hB4 hrow4 hstr hown4 honto hat hat2 hg1 hgh hbg hcl4;go_wp2_with fail;go_roundw
       case rel=>
        refine ⟨i+1,frameStep st s,l.set p ({x1 with lines:=x1.lines++[s]},.slice vao (x1.lines.length+1) vcap),true,by omega,rfl,(by rw [HST.out]),by go_num,HMORE.out,?_,?_,HB5.out,HFOLD.out,?_,?_,?_,?_,?_⟩
        ·have hm:=map_set l p (x1,.slice xao x1.lines.length xcap) (fun p=>{p with lines:=p.lines++[s]}) (.slice vao (x1.lines.length+1) vcap) HXX.out;rw [HST.out];simp only;rw [hm,HREL.out.map];congr 1;rw [←HREL.out.map,List.length_map,HPP.out];rfl
        ·rw [HST.out];simp only;rw [HQ.out];exact HI5.out
        ·rw [List.length_set];omega
        ·rw [HST.out];simp only;rw [HQ.out];omega
        ·intro y hy;rcases List.mem_or_eq_of_mem_set hy with h|h
         ·have:=HREL.out.lens y h;omega
         ·rw [h];simp only [List.length_append,List.length_cons,List.length_nil];omega
        ·intro n hn;rw [HST.out]at hn;rw [List.length_set];exact HREL.out.inlt n hn
        ·intro _;rw [List.length_set];omega
       case measure=>simp [intOf];omega
   ·have HST:=Lib.hid (step_open (st:=st) HN.out);have HOA:=HO;have HIA:=HI;have HBA:=HB
    go_wp2_with (first
     |(at_builtin;refine wpList_append_own _ rfl _ _ 69 rfl w.heap.size 74 ip (.agg #[.int .i64 0,.bool false,.string ⟨#[]⟩,.bool false,.slice none 0 0]) 5 64 Tryz.underlying69 hpi hp0 hp1 hp2 rfl (by decide) _ _ _ rfl (World.ownsRow.alloc HOA.out.row _) ⟨w2.heap.size,0,none⟩ 1 1 [.int .i64 (q:Int),.bool true,.string N,.bool true,.slice none 0 0] rfl rfl ?c1 ?c2 ?c3 ?c4 ?c5 ?_))
    case c1=>exact cells_new _ _ _ _ rfl
    case c2=>intro u hu;simp at hu;rcases hu with rfl|rfl|rfl|rfl|rfl<;>rfl
    case c3=>unfold maxLen;omega
    case c4=>omega
    case c5=>have:=HBA.out.size;simp;omega
    intro v4 w4 hown4 hgrow _;have hg1:w2.grownBy w4 u3.ownBlock:=(World.grownBy_alloc w2 _ _).trans hgrow;have hI4:=World.ownsRow.kept HIA.out hg1 (own_apart HIA.out HOA.out.row (by decide));have hB4:=HBA.out.grown hg1 HBA.out.size (fun j hj=>(World.ownsRow.lt HOA.out.row j hj).1);have hown4':=hown4;obtain ⟨oao,ocap,hov,_⟩:=own_slice hown4';subst hov;clear hown4';have hO4:=PartsOwn.push HOA.out ⟨st.inn.length,true,N.data.toList,true,[]⟩ (.slice none 0 0) hg1 (by rw [HQ.out];simpa [partCells]using hown4) (World.ownsRow_nil _ _ _ _) (fun i x hx=>⟨by
     rcases hx':x.2.ownBlock with _|k
     ·exact Or.inl rfl
     ·exact Or.inr (by simp [Value.ownBlock]),Or.inl rfl⟩)
    have HO4:=Lib.hid hO4;have HI4:=Lib.hid hI4;have HB4:=Lib.hid hB4;clear hgrow hg1 hO4 hI4 hB4 hown4
    go_wp2_with (first
     |(at_builtin;refine wpList_append_own _ rfl _ _ 105 rfl w.heap.size 3 ii (.int .i64 0) 1 8 Tryz.underlying105 hii hi0 hi1 hi2 rfl (by decide) _ _ _ rfl (World.ownsRow.alloc HI4.out _) ⟨w4.heap.size,0,none⟩ 1 1 [.int .i64 (l.length:Int)] rfl rfl ?d1 ?d2 ?d3 ?d4 ?d5 ?_))
    case d1=>exact cells_new _ _ _ _ rfl
    case d2=>intro u hu;simp at hu;rcases hu with rfl;rfl
    case d3=>unfold maxLen;omega
    case d4=>omega
    case d5=>have:=HB4.out.size;simp;omega
    intro v5 w5 hown5 hgrow _;have hg2:=(World.grownBy_alloc w4 (.cells #[.int .i64 (l.length:Int)] 3) (Value.slice iao q icap).ownBlock).trans hgrow;have hO5:=PartsOwn.grown HO4.out HI4.out (by decide) (by decide) hg2;have hB5:=HB4.out.grown hg2 HB4.out.size (fun j hj=>(World.ownsRow.lt HI4.out j hj).1);have HO5:=Lib.hid hO5;have HB5:=Lib.hid hB5;have HI5:=Lib.hid hown5;clear hgrow hg2 hO5 hB5 hown5;go_wp2_with fail;go_roundw
    case rel=>
     refine ⟨i+1,frameStep st s,_,false,by omega,rfl,(by rw [HST.out]),by go_num,HO5.out,?_,?_,HB5.out,HFOLD.out,?_,?_,?_,?_,?_⟩
     ·rw [HST.out,List.map_append,HREL.out.map];rfl
     ·rw [HST.out];simp only;rw [List.length_append,List.map_append,HQ.out,←HREL.out.map,List.length_map];exact HI5.out
     ·rw [List.length_append];simp;omega
     ·rw [HST.out];simp only;rw [List.length_append,HQ.out];simp;omega
     ·intro x hx;rcases List.mem_append.1 hx with hx|hx
      ·have:=HREL.out.lens x hx;omega
      ·rw [List.mem_singleton.1 hx];simp
     ·intro n hn;rw [HST.out]at hn;rw [List.length_append];rcases List.mem_append.1 hn with hn|hn
      ·have:=HREL.out.inlt n hn;simp;omega
      ·rw [List.mem_singleton.1 hn,←HREL.out.map,List.length_map];simp
     ·intro h;rw [HST.out]at h;cases h
    case measure=>simp [intOf];omega
  ·obtain rfl:i=ls.length:=(by omega);have hfold:=hrel.fold;rw [List.drop_length,List.foldl_nil]at hfold;have HE:=Lib.hid (show l.map (·.1)=F by rw [hrel.map,hfold,←HF.out];rfl);have HREL:=Lib.hid hrel;clear hrel hfold hru;go_wp2_with fail;go_ret;exact ⟨_,l,rfl,HREL.out.out,HE.out,HREL.out.bel⟩
theorem dia_low:∀x∈diaNames,1≤x.length∧x.length≤20∧∀b∈x,97≤b.toNat∧b.toNat≤122:=by decide+kernel
theorem dia_ix4:∀i:Fin 4,∀x,diaNames[i.val]? =some x→pIdx diaNames x=(i.val:Int):=by
 intro i x hx;have h4:∀i:Fin 4,diaNames[i.val]?.map (pIdx diaNames)=some (i.val:Int):=(by decide+kernel);have:=h4 i;rw [hx]at this;exact Option.some.inj this
theorem dia_ix:∀(i:Nat) x,diaNames[i]? =some x→pIdx diaNames x=(i:Int):=fun i x hx=>
 dia_ix4 ⟨i,by have:=(List.getElem?_eq_some_iff.1 hx).1;exact this⟩ x hx
theorem P4_ok:∀i,i<4→(0≤(P4 i).1∧(P4 i).1<(4:Int))∧(0≤(P4 i).2∧(P4 i).2<(4:Int))∧(P4 i).1≠(P4 i).2:=by decide
set_option maxHeartbeats 8000000 in
theorem new4_any {w:World} {gn g ncap cp k:Nat} {x:List UInt8} (hR:StrR w (some ⟨gn,0,none⟩) diaNames) (hp:IsPairs w (some ⟨g,0,none⟩) 4 P4) (hk:k<4) (hx:diaNames[k]? =some x):
  Calls Tryz.prog 13 #[.agg #[.slice (some ⟨gn,0,none⟩) 4 ncap,.slice (some ⟨g,0,none⟩) 4 cp],.string ⟨x.toArray⟩] w fun e w'=>∃sb,e=.returned (.tuple #[.pointer (some ⟨sb,0,none⟩),.int .i64 0])∧SeerAt w' sb k∧Below w.heap.size w w':=by
 obtain ⟨is,hsi,hs0,hs1,hs2⟩:=info_parts infoStr;have hba:=(Below.refl w.heap.size w).alloc (Nat.le_refl _) (.cells #[.slice (some ⟨gn,0,none⟩) 4 ncap,.slice (some ⟨g,0,none⟩) 4 cp] 51);have hpx:=heap_alloc_new w (.cells #[.slice (some ⟨gn,0,none⟩) 4 ncap,.slice (some ⟨g,0,none⟩) 4 cp] 51);have hr1:=right_ok (ncap:=ncap) (cp:=cp) (m:=4) P4 (hR.below hba) (by decide) dia_low dia_ix (pairs_below hba hp) (by omega) P4_ok;have hix:=fun W (hW:StrR W (some ⟨gn,0,none⟩) diaNames)=>index_any (cap:=ncap) (some ⟨g,0,none⟩) 4 cp ⟨x.toArray⟩ hW (by decide);have e4:diaNames.length=4:=rfl;rw [e4]at hr1;rw [e4,show (({data:=x.toArray}:ByteArray).data.toList)=x from rfl,dia_ix k x hx]at hix;have HX:=Lib.hid (And.intro hba hpx);have HR:=Lib.hid hR;have HP:=Lib.hid hp;have HR1:=Lib.hid hr1;have HIX:=Lib.hid hix;have hk0:¬(k:Int)<0:=(by omega);clear hR hp hba hpx hr1 hix hx e4;go_enter Tryz.func13,Tryz.ntmps13
 go_wp2_with fail;refine HR1.out.mono ?_;rintro e w2 ⟨rfl,hb2⟩;have HB2:=Lib.hid (HX.out.1.trans (hb2.mono HX.out.1.size));have hpx2:=(hb2.block _ (Array.getElem?_eq_some_iff.1 HX.out.2).1).trans HX.out.2;have HPX2:=Lib.hid hpx2;have c0:w2.cell? ⟨w.heap.size,0,none⟩=some (.slice (some ⟨gn,0,none⟩) 4 ncap):=(by rw [cell_of_row w2 w.heap.size _ _ _ _ hpx2];rfl);have c1:w2.cell? ⟨w.heap.size,1,none⟩=some (.slice (some ⟨g,0,none⟩) 4 cp):=(by rw [cell_of_row w2 w.heap.size _ _ _ _ hpx2];rfl);have HNW:=Lib.hid (new_p_fine (cp:=cp) (by omega) (by omega) (by omega) (pairs_below HB2.out HP.out) P4_in P4_fine);clear hb2 hpx2 HR1 HX;go_wp2_with fail;refine HNW.out.mono ?_;rintro e w3 ⟨lb,rfl,hb3,hla⟩;have HB3:=Lib.hid (HB2.out.trans (hb3.mono HB2.out.size));have hpx3:=(hb3.block _ (Array.getElem?_eq_some_iff.1 HPX2.out).1).trans HPX2.out;have HPX3:=Lib.hid hpx3;have HLA:=Lib.hid hla.mono;clear c0 c1 hla hb3 HNW HPX2 HB2;have c0:w3.cell? ⟨w.heap.size,0,none⟩=some (.slice (some ⟨gn,0,none⟩) 4 ncap):=(by rw [cell_of_row w3 w.heap.size _ _ _ _ hpx3];rfl);have c1:w3.cell? ⟨w.heap.size,1,none⟩=some (.slice (some ⟨g,0,none⟩) 4 cp):=(by rw [cell_of_row w3 w.heap.size _ _ _ _ hpx3];rfl);have HI3:=Lib.hid (HIX.out w3 (HR.out.below HB3.out));clear hpx3 HIX;go_wp2_with fail;refine HI3.out.mono ?_;rintro e w4 ⟨rfl,hb4⟩;have HB4:=Lib.hid (HB3.out.trans (hb4.mono HB3.out.size));have hpx4:=(hb4.block _ (Array.getElem?_eq_some_iff.1 HPX3.out).1).trans HPX3.out;have HLA4:=Lib.hid (HLA.out.keep hb4);clear c0 c1 hb4 HLA HPX3 HB3 HI3;have c0:w4.cell? ⟨w.heap.size,0,none⟩=some (.slice (some ⟨gn,0,none⟩) 4 ncap):=(by rw [cell_of_row w4 w.heap.size _ _ _ _ hpx4];rfl);have hR4:=HR.out.below HB4.out;have HR4:=Lib.hid hR4;clear hpx4 hR4
 go_wp2_with (first
  |(at_builtin;refine wpList_append_row w4 rfl _ _ 28 rfl w4.heap.size 9 is (.string ⟨#[]⟩) 1 16 Tryz.underlying28 hsi hs0 hs1 hs2 rfl (by decide) _ 0 [] rfl (World.ownsRow_nil _ _ _ _) (some ⟨gn,0,none⟩) 4 ncap (diaNames.map strV) rfl HR4.out (fun h=>by cases h) (strV_one diaNames) ?c3 ?c4 ?c5 ?_))
 case c3=>unfold maxLen;omega
 case c4=>omega
 case c5=>exact Nat.le_refl _
 intro v5 w5 hown5 hgrow5;have hb5:=(Below.refl w4.heap.size w4).grown hgrow5 (Nat.le_refl _) (fun j hj=>by simp [Value.ownBlock]at hj);obtain ⟨vao,vc,hv,hvr,hvn,_⟩:=own_slice hown5;subst hv;obtain ⟨g5,o5,rfl⟩:=hvr.addr (by omega);obtain ⟨rfl,_⟩:=own_zero hown5;have HB5:=Lib.hid (HB4.out.trans (hb5.mono HB4.out.size));have HV5:=Lib.hid (show StrR w5 (some ⟨g5,0,none⟩) diaNames from hvr);have HLA5:=Lib.hid (HLA4.out.keep hb5);clear hown5 hgrow5 hb5 hvr hvn c0 HLA4 HR4;go_wp2_with fail
 go_ret2
 have hbA:=(Below.refl w5.heap.size w5).alloc (Nat.le_refl _) (.cells #[.slice (some ⟨g5,0,none⟩) 4 vc,.slice none 0 0] 51);have hbB:=hbA.alloc hbA.size (.cells #[.slice (some ⟨g5,0,none⟩) 4 vc,.slice none 0 0,.pointer (some ⟨lb,0,none⟩),.int .i64 (k:Int)] 60);refine ⟨_,rfl,⟨hk,g5,vc,lb,?_,HV5.out.below hbB,HLA5.out.keep hbB⟩,HB5.out.trans (hbB.mono HB5.out.size)⟩;have:=heap_alloc_new (w5.alloc (.cells #[.slice (some ⟨g5,0,none⟩) 4 vc,.slice none 0 0] 51)) (.cells #[.slice (some ⟨g5,0,none⟩) 4 vc,.slice none 0 0,.pointer (some ⟨lb,0,none⟩),.int .i64 (k:Int)] 60)
 rwa [World.size_alloc]at this
theorem dia_join:∀a,a<4→∀c,c<4→joinF 4 (upOf 4 4 P4) a c=((a ||| c:Nat):Int):=by decide+kernel
theorem dia_leq:∀a,a<4→∀c,c<4→((upOf 4 4 P4).getD a 0).testBit c=((a ||| c)==c):=by decide+kernel
theorem dia_or:∀a,a<4→∀c,c<4→∀k,k<4→(((a ||| c) ||| k)==k)=(((a ||| k)==k)&&((c ||| k)==k))∧a ||| c<4:=by decide+kernel
theorem dia_idx (x:List UInt8):diaIdx x<4∧(diaNames.contains x=true→pIdx diaNames x=(diaIdx x:Nat))∧(diaNames.contains x=false→pIdx diaNames x= -1∧diaIdx x=3):=by
 unfold diaIdx pIdx;cases h:diaNames.contains x
 ·simp
 ·have h1:diaNames.idxOf x<diaNames.length:=List.idxOf_lt_length_iff.2 (by simpa using h);have h2:diaNames.length=4:=rfl;exact ⟨by rw [if_pos rfl];omega,fun _=>by rw [if_pos rfl,if_pos rfl],fun h=>by cases h⟩
set_option maxHeartbeats 8000000 in
theorem sees_any {w:World} {sb k:Nat} (h:SeerAt w sb k) {ao:Option Addr} {cap:Nat} {l:List (List UInt8)} (hR:StrR w ao l) (hl:l.length≤1000000):
  Calls Tryz.prog 7 #[.pointer (some ⟨sb,0,none⟩),.slice ao l.length cap] w fun e w'=>e=.returned (.bool ((diaSeer k).sees l))∧Below w.heap.size w w':=by
 have hk4:=h.kb;obtain ⟨_,gn,ncap,lb,h2,h3,h4⟩:=id h;have c2:w.cell? ⟨sb,2,none⟩=some (.pointer (some ⟨lb,0,none⟩)):=(by rw [cell_of_row w sb _ _ _ _ h2];rfl);have HB0:=Lib.hid (at_bottom h4 (by omega) (by omega) (fun x y hx hy=>(P4_fine x y hx hy).2.2));rw [b4]at HB0;obtain ⟨S,hS⟩:∃S,(diaSeer k).sees l=S:=⟨_,rfl⟩
 rw [hS];have HS:=Lib.hid hS;have HA:=Lib.hid (And.intro h2 (And.intro h3 h4));have HR:=Lib.hid hR;clear h2 h3 h4 hS hR h;go_enter Tryz.func7,Tryz.ntmps7
 go_wp2_with fail;refine HB0.out.mono ?_;rintro e w1 ⟨rfl,rfl⟩;clear HB0;go_wp2_with fail;go_loopw [5,18] (fun u5 u18 wr=>∃(i acc:Nat),u5=.int .i64 (acc:Int)∧u18=.int .i64 (i:Int)∧i≤l.length∧acc<4∧Below w.heap.size w wr∧Hid ((((acc ||| k)==k)&&(l.drop i).all (diaSeer k).see1)=S)) (fun _ u18 _=>l.length - (intOf u18).toNat)
 case atStart=>exact ⟨0,0,by go_num,by go_num,Nat.zero_le _,by omega,Below.refl _ _,Lib.hid (by have:=HS.out;unfold SeerL.sees at this;rw [List.drop_zero];simpa using this)⟩
 case round=>
  obtain ⟨i,acc,rfl,rfl,hi,ha4,hbw,HT⟩:=hrel;clear c2;have HBW:=Lib.hid hbw;have h2:=(hbw.block sb (Array.getElem?_eq_some_iff.1 HA.out.1).1).trans HA.out.1;have c0:wr.cell? ⟨sb,0,none⟩=some (.slice (some ⟨gn,0,none⟩) diaNames.length ncap):=(by rw [cell_of_row wr sb _ _ _ _ h2];rfl);have c1:wr.cell? ⟨sb,1,none⟩=some (.slice none 0 0):=(by rw [cell_of_row wr sb _ _ _ _ h2];rfl);have c2:wr.cell? ⟨sb,2,none⟩=some (.pointer (some ⟨lb,0,none⟩)):=(by rw [cell_of_row wr sb _ _ _ _ h2];rfl);have c3:wr.cell? ⟨sb,3,none⟩=some (.int .i64 (k:Int)):=(by rw [cell_of_row wr sb _ _ _ _ h2];rfl);clear h2 hbw;by_cases hlt:i<l.length
  ·obtain ⟨x,hx⟩:∃x,l[i]? =some x:=⟨_,List.getElem?_eq_getElem hlt⟩
   obtain ⟨g,o,rfl⟩:=StrR.addr HR.out (by omega);have hcl:=StrR.at' (HR.out.below HBW.out) i x hx;obtain ⟨X,hX⟩:∃X:ByteArray,(⟨x.toArray⟩:ByteArray)=X:=⟨_,rfl⟩
   have hXl:X.data.toList=x:=(by rw [←hX]);rw [hX]at hcl;have hall:(l.drop i).all (diaSeer k).see1=((diaSeer k).see1 x&&(l.drop (i+1)).all (diaSeer k).see1):=by
    obtain ⟨hk,rfl⟩:=List.getElem?_eq_some_iff.1 hx;rw [List.drop_eq_getElem_cons hk,List.all_cons]
   obtain ⟨d1,d2,d3⟩:=dia_idx x;have hor:=dia_or acc ha4 (diaIdx x) d1 k hk4;have HT2:=Lib.hid (show ((((acc ||| diaIdx x) ||| k)==k)&&(l.drop (i+1)).all (diaSeer k).see1)=S by
    have h1:=HT.out;rw [hall]at h1;rw [hor.1,Bool.and_assoc];exact h1)
   have HI:=Lib.hid (index_any (cap:=ncap) none 0 0 X (HA.out.2.1.below HBW.out) (by decide));rw [hXl]at HI;obtain ⟨n,hn⟩:∃n,diaNames.length=n:=⟨_,rfl⟩
   rw [hn]at c0 HI;have HOR:=Lib.hid hor.2;clear hx hX hXl hall hor hn HT;cases hc:diaNames.contains x
   ·obtain ⟨d4,d5⟩:=d3 hc;rw [d4]at HI;rw [d5]at HT2 HOR;clear d1 d2 d3 d4 d5 hc;go_wp2_with fail;refine HI.out.mono ?_;rintro e w2 ⟨rfl,hb⟩;have HB2:=Lib.hid (below_step HBW.out hb);have h2:=(HB2.out.block sb (Array.getElem?_eq_some_iff.1 HA.out.1).1).trans HA.out.1;have c2:w2.cell? ⟨sb,2,none⟩=some (.pointer (some ⟨lb,0,none⟩)):=(by rw [cell_of_row w2 sb _ _ _ _ h2];rfl);have hla:=HA.out.2.2.keep HB2.out;have HTP:=Lib.hid (at_top hla (by omega) (by omega) (fun x y hx hy=>(P4_fine x y hx hy).2.1));rw [t4]at HTP;have HJ:=Lib.hid (at_join hla (by omega) (acc:Int) 3 (by omega) (by omega) (by omega) (by omega));rw [show joinF 4 (upOf 4 4 P4) (Int.toNat (acc:Int)) (Int.toNat 3)=((acc ||| 3:Nat):Int)from dia_join acc ha4 3 (by omega)]at HJ;clear hb h2 hla c0 c1 hcl HI;go_wp2_with fail;refine HTP.out.mono ?_;rintro e w3 ⟨rfl,rfl⟩;go_wp2_with fail;refine HJ.out.mono ?_;rintro e w3 ⟨rfl,rfl⟩;go_wp2_with fail;go_roundw;case rel=>exact ⟨i+1,acc ||| 3,rfl,by go_num,by omega,HOR.out,HB2.out,HT2⟩
    case measure=>simp [intOf];omega
   ·have d4:=d2 hc;rw [d4]at HI;obtain ⟨D,hD⟩:∃D,diaIdx x=D:=⟨_,rfl⟩
    rw [hD]at HI HT2 HOR d1;clear d2 d3 d4 hD hc;go_wp2_with fail;refine HI.out.mono ?_;rintro e w2 ⟨rfl,hb⟩;have HB2:=Lib.hid (below_step HBW.out hb);have h2:=(HB2.out.block sb (Array.getElem?_eq_some_iff.1 HA.out.1).1).trans HA.out.1;have c2:w2.cell? ⟨sb,2,none⟩=some (.pointer (some ⟨lb,0,none⟩)):=(by rw [cell_of_row w2 sb _ _ _ _ h2];rfl);have hla:=HA.out.2.2.keep HB2.out;have HJ:=Lib.hid (at_join hla (by omega) (acc:Int) (D:Int) (by omega) (by omega) (by omega) (by omega));rw [show joinF 4 (upOf 4 4 P4) (Int.toNat (acc:Int)) (Int.toNat (D:Int))=((acc ||| D:Nat):Int)from dia_join acc ha4 D d1]at HJ;have hD0:¬(D:Int)<0:=(by omega);clear hb h2 hla c0 c1 hcl HI;go_wp2_with fail;refine HJ.out.mono ?_;rintro e w3 ⟨rfl,rfl⟩;go_wp2_with fail;go_roundw;case rel=>exact ⟨i+1,acc ||| D,rfl,by go_num,by omega,HOR.out,HB2.out,HT2⟩
    case measure=>simp [intOf];omega
  ·have HSS:=Lib.hid (show ((acc ||| k)==k)=S by
    have h1:=HT.out;rw [List.drop_eq_nil_of_le (by omega)]at h1;simpa using h1)
   have HLQ:=Lib.hid (fun i:ExtW (Below wr.heap.size wr)=>(at_leq ((HA.out.2.2.keep HBW.out).keep i.h) (by omega) (acc:Int) (k:Int) (by omega) (by omega) (by omega) (by omega)).mono (fun e w' (hq:e=.returned (.bool (((upOf 4 4 P4).getD (Int.toNat (acc:Int)) 0).testBit (Int.toNat (k:Int))))∧i.w=w')=>(show e=.returned (.bool S)∧Below i.w.heap.size i.w w' from ⟨by rw [hq.1,←HSS.out,←dia_leq acc ha4 k hk4];rfl,by rw [←hq.2];exact Below.refl _ _⟩)));have ne:Nonempty (ExtW (Below wr.heap.size wr)):=⟨⟨wr,Below.refl _ _⟩⟩
   have e2:=ext_cell c2;have e3:=ext_cell c3;clear c0 c1 c2 c3;go_wp2_with fail;refine wp_region_ext (R:=Below wr.heap.size wr) (by kernel_rfl) (by kernel_rfl) (Below.refl _ _).drew ?_;repeat (go_big_quiet_step ((go_at_call 19;exact calls_ext (HLQ.out _))))
   refine wpQuiet_nil ?_;rintro wn ⟨nq,hnq⟩;have hbn:Below wr.heap.size wr wn:=(by rw [hnq];exact nq.h);clear hnq nq e2 e3 ne HLQ;have HBE:=Lib.hid (below_step HBW.out hbn);clear hbn;go_wp2_with fail;go_ret;exact ⟨rfl,HBE.out⟩
end Go.Proofs.YtkphljggkajlkaaGreatDoor
