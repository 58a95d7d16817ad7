import Derived.Test.YtcannffahjbjnaaGreatDoorVwBZb
import Derived.Test.YtcannffahjbjnaaGreatDoorVwBY
set_option linter.unusedVariables false
set_option linter.unusedSimpArgs false
set_option maxRecDepth 100000
set_option maxHeartbeats 64000000
namespace Go.Proofs.YtcannffahjbjnaaGreatDoor
open Go.RowKit
theorem ot {w:World} {ao:Option Addr} {cap:Nat} {l:List (List UInt8)} (X:ByteArray) (hR:bO w ao l) (hc:ao=none ->cap=0) (hl:l.length <= 1000000):
  Calls Tryz.prog 39 #[.slice ao l.length cap,.string X] w fun e w'=>∃v,e=.returned v∧ah w.heap.size w' v (l++[X.data.toList])∧Below w.heap.size w w':=by
 obtain ⟨is,hsi,hs0,hs1,hs2⟩:=info_parts ft;have HR:=zh hR;have HC:=zh hc;clear hR hc;go_enter Tryz.func39,Tryz.ntmps39
 go_wp2_with (first
  |(at_builtin;refine dS w rfl _ _ 22 rfl w.heap.size 9 is (.string ⟨#[]⟩) 1 16 Tryz.underlying22 hsi hs0 hs1 hs2 rfl (by decide) _ 0 [] rfl (World.ownsRow_nil _ _ _ _) ao l.length cap (l.map fV) rfl HR.out HC.out (kC l) ?c3 ?c4 ?c5 ?_))
 case c3=>unfold maxLen;omega
 case c4=>omega
 case c5=>exact Nat.le_refl _
 intro v1 w1 hown1 hgrow1;have hB1:=(Below.refl w.heap.size w).grown hgrow1 (Nat.le_refl _) (fun j hj=>by simp [Value.ownBlock]at hj);have HO1:=zh hown1;have HB1:=zh hB1;obtain ⟨vao,vc,hv,_⟩:=ab hown1;subst hv;clear hown1 hgrow1 hB1
 go_wp2_with (first
  |(at_builtin;refine wpList_append_own _ rfl _ _ 22 rfl w.heap.size 9 is (.string ⟨#[]⟩) 1 16 Tryz.underlying22 hsi hs0 hs1 hs2 rfl (by decide) _ _ _ rfl (World.ownsRow.alloc HO1.out _) ⟨w1.heap.size,0,none⟩ 1 1 [.string X] rfl rfl ?d1 ?d2 ?d3 ?d4 ?d5 ?_))
 case d1=>exact aL _ _ _ _ rfl
 case d2=>intro u hu;simp at hu;rcases hu with rfl;rfl
 case d3=>unfold maxLen;omega
 case d4=>omega
 case d5=>have:=HB1.out.size;simp;omega
 intro v4 w4 hown4 hgrow4 _;have hg1:=(World.grownBy_alloc w1 (.cells #[.string X] 9) (Value.slice vao l.length vc).ownBlock).trans hgrow4;have hB4:=HB1.out.grown hg1 HB1.out.size (fun j hj=>(World.ownsRow.lt HO1.out j hj).1);have HO4:=zh (ah.snoc hown4 rfl);have HB4:=zh hB4;clear hown4 hgrow4 hg1 hB4;go_wp2_with fail;go_ret;exact ⟨v4,rfl,HO4.out,HB4.out⟩
theorem DP (i j:Nat) (r:List UInt8) (pos:Nat) (h:pos <= i+j):∃t,(List.replicate i (32:UInt8)++(List.replicate j 35++32::r)).drop pos=(if pos<i then 32 else if pos<i+j then 35 else 32)::t:=by
 rcases Nat.lt_or_ge pos i with h1|h1
 ·rw [if_pos h1,List.drop_append_of_le_length (by rw [List.length_replicate];omega),List.drop_replicate];obtain ⟨q,hq⟩:∃q,i - pos=q+1:=⟨i - pos - 1,by omega⟩
  rw [hq,List.replicate_succ];exact ⟨_,rfl⟩
 ·rw [if_neg (by omega),List.drop_append,List.drop_eq_nil_of_le (by rw [List.length_replicate];omega),List.nil_append,List.length_replicate];rcases Nat.lt_or_ge pos (i+j)with h2|h2
  ·rw [if_pos h2,List.drop_append_of_le_length (by rw [List.length_replicate];omega),List.drop_replicate];obtain ⟨q,hq⟩:∃q,j - (pos - i)=q+1:=⟨j - (pos - i) - 1,by omega⟩
   rw [hq,List.replicate_succ];exact ⟨_,rfl⟩
  ·obtain rfl:pos=i+j:=(by omega);rw [if_neg (by omega),List.drop_append,List.drop_eq_nil_of_le (by simp),List.nil_append,List.length_replicate,show i+j - i - j=0 by omega,List.drop_zero];exact ⟨_,rfl⟩
theorem Ah (i j:Nat) (r:List UInt8) (hj:1 <= j) (s:ByteArray) (hs:s.data.toList=List.replicate i 32++(List.replicate j 35++32::r)) (hz:s.size <= 1000000000) (w:World):
  Calls Tryz.prog 77 #[.string s] w fun e w'=>e=.returned (.int .i64 ((i+j:Nat):Int))∧Below w.heap.size w w':=by
 have hsz:i+j<s.size:=(by rw [Lib.size_eq,hs];simp);have HS:=zh hs;clear hs;go_enter Tryz.func77,Tryz.ntmps77
 go_wp2_with fail;go_loopw [3] (fun u3 wr=>∃pos nv:Nat,u3=.int .i64 (nv:Int)∧pos <= i+j∧(pos <= i ->nv=0)∧(i<pos ->nv=pos)∧wr.heap[w.heap.size]? =some (.stringIter s pos)∧Below w.heap.size w wr) (fun _ wr=>s.size - wr.iterPos w.heap.size)
 case atStart=>
  refine ⟨0,0,rfl,Nat.zero_le _,fun _=>rfl,fun h=>absurd h (by omega),?_,(Below.refl _ w).alloc (Nat.le_refl _) _⟩;have:=World.iter_heap w s 0;simpa using this
 case round=>
  obtain ⟨pos,nv,rfl,hpl,hn0,hn1,hit,hbw⟩:=hrel;have hsz2:w.heap.size<wr.heap.size:=(Array.getElem?_eq_some_iff.1 hit).1;have hp:pos<s.size:=(by omega);have hnx:∀ty,(Instr.next (.pointer (some ⟨w.heap.size,0,none⟩)) true ty).run Tryz.prog wr=_:=fun ty=>Lib.run_next_any_at wr w.heap.size s pos ty hit hp;have hit2:=Lib.iterAt_heap wr w.heap.size s pos (pos+(Utf8.decode s pos).2) hit;have hbw2:=Lib.below_iterAt hbw (k:=w.heap.size) (by omega) s (pos+(Utf8.decode s pos).2);have hdl:=Lib.decodeL_drop s pos;obtain ⟨t,ht⟩:=DP i j r pos hpl;rw [<- HS.out]at ht;rw [<- hdl,ht]at hnx hit2 hbw2;clear hdl ht hbw;by_cases h1:pos<i
  ·rw [if_pos h1,Lib.decodeL_ascii 32 t (by decide)]at hnx hit2 hbw2;obtain rfl:nv=0:=hn0 (by omega);clear hn0 hn1;go_wp2_with fail;go_roundw;case rel=>exact ⟨pos+1,0,by go_num,by omega,fun _=>rfl,fun h=>absurd h (by omega),hit2,hbw2⟩
   case measure=>simp only [World.iterPos,hit2,hit];omega
  ·by_cases h2:pos<i+j
   ·rw [if_neg h1,if_pos h2,Lib.decodeL_ascii 35 t (by decide)]at hnx hit2 hbw2;clear hn0 hn1;go_wp2_with fail;go_roundw;case rel=>exact ⟨pos+1,pos+1,by go_num,by omega,fun h=>absurd h (by omega),fun _=>rfl,hit2,hbw2⟩
    case measure=>simp only [World.iterPos,hit2,hit];omega
   ·rw [if_neg h1,if_neg h2,Lib.decodeL_ascii 32 t (by decide)]at hnx hit2 hbw2;obtain rfl:nv=pos:=hn1 (by omega);obtain rfl:nv=i+j:=(by omega);clear hn0 hn1;have h0:(0:Int)<((i+j:Nat):Int):=(by omega);go_wp2_with fail;go_ret;exact ⟨by go_num,hbw2⟩
theorem vB (l:List ai) (i:Nat) (p:ai) (hp:l[i]? =some p):bJ (l.take (i+1))=bJ (l.take i)++fh p∧(bJ (l.take (i+1))).length <= (bJ l).length:=by
 have h1:bJ (l.take (i+1))=bJ (l.take i)++fh p:=by
  rw [oe l i p hp];unfold bJ;simp
 refine ⟨h1,?_⟩;have h2:bJ l=bJ (l.take (i+1))++bJ (l.drop (i+1)):=by
  unfold bJ;rw [<- List.flatMap_append,List.take_append_drop]
 rw [h2,List.length_append];exact Nat.le_add_right _ _
theorem xG {w:World} {ao:Option Addr} {cap:Nat} (l:List ai) (hR:aY w 3 ao l.length (l.flatMap dR)) (hl:(bJ l).length <= 1000000000) (hn:l.length <= 1000000000):
  Calls Tryz.prog 79 #[.slice ao l.length cap] w fun e w'=>e=.returned (.string ⟨(bJ l).toArray⟩)∧Below w.heap.size w w':=by
 have HR:=zh hR;clear hR;go_enter Tryz.func79,Tryz.ntmps79
 go_wp2_with fail;go_loopw [8] (fun u8 wr=>∃i:Nat,u8=.int .i64 (i:Int)∧i <= l.length∧Lib.IsBuilderF 112 5 w.heap.size w.heap.size (Lib.byteCells (bJ (l.take i))) wr∧Below w.heap.size w wr) (fun u8 _=>l.length - (intOf u8).toNat)
 case atStart=>exact ⟨0,rfl,Nat.zero_le _,Lib.IsBuilderF.of (Lib.fresh_isBuilder 112 5 w),(Below.refl _ _).alloc (Nat.le_refl _) _⟩
 case round=>
  obtain ⟨i,rfl,hi,hI,hB⟩:=hrel;by_cases hlt:i<l.length
  ·obtain ⟨p,hp⟩:=bG l i hlt;obtain ⟨g,o,rfl⟩:=aY.addr HR.out (by omega);obtain ⟨c0,c1,c2⟩:=(aY.below HR.out hB).pce i p hp;obtain ⟨u1,u2⟩:=vB l i p hp;obtain ⟨sp,lab,txt⟩:=p;simp only at c0 c1 c2;have hba:=(Below.refl wr.heap.size wr).alloc (Nat.le_refl _) (.cells #[.bool sp,.string ⟨lab.toArray⟩,.string ⟨txt.toArray⟩] 138);have HI:=zh (aU hI hba);have HBA:=zh (aa hB hba);obtain ⟨X,hX⟩:∃X:ByteArray,(⟨lab.toArray⟩:ByteArray)=X:=⟨_,rfl⟩
   have hXl:lab=X.data.toList:=(by rw [<- hX]);obtain ⟨Y,hY⟩:∃Y:ByteArray,(⟨txt.toArray⟩:ByteArray)=Y:=⟨_,rfl⟩
   have hYl:txt=Y.data.toList:=(by rw [<- hY]);rw [hX]at c1 HI HBA;rw [hY]at c2 HI HBA;rw [u1,List.length_append]at u2;have HL:=zh hB;cases sp
   ·have hpt:fh ⟨false,lab,txt⟩=Y.data.toList:=hYl;rw [hpt,<- Lib.size_eq]at u2;rw [hpt]at u1;have HU:=zh u1;have HU2:=zh u2;clear hI hB hba hp u1 u2 hX hXl hY hYl hpt;go_wp2_with fail;refine (dH w.heap.size w.heap.size _ Y _ HI.out (by rw [Lib.byteCells_length];have:=HU2.out;omega) HBA.out.size).mono ?_;rintro e w6 ⟨rfl,h6,b6,k6⟩;go_wp2_with fail;go_roundw;case rel=>exact ⟨i+1,by go_num,by omega,by rw [HU.out,Lib.byteCells_append];exact Or.inr h6,HBA.out.trans b6⟩
    case measure=>simp [intOf];omega
   ·obtain ⟨Z,hZ⟩:∃Z:ByteArray,(⟨#[123,124]⟩:ByteArray)++X++(⟨#[58]⟩:ByteArray)++Y++(⟨#[124,125]⟩:ByteArray)=Z:=⟨_,rfl⟩
    have hpt:fh ⟨true,lab,txt⟩=Z.data.toList:=by
     rw [<- hZ,hXl,hYl];simp only [ByteArray.data_append,Array.toList_append];show 123::124::(X.data.toList++58::(Y.data.toList++[124,125]))=_;simp
    have hZz:Z.size=X.size+Y.size+5:=by
     rw [<- hZ];simp only [ByteArray.size_append];rw [show (⟨#[123,124]⟩:ByteArray).size=2 from rfl,show (⟨#[58]⟩:ByteArray).size=1 from rfl,show (⟨#[124,125]⟩:ByteArray).size=2 from rfl];omega
    rw [hpt,<- Lib.size_eq]at u2;rw [hpt]at u1;have s2:(⟨#[123,124]⟩:ByteArray).size=2:=rfl;have s1:(⟨#[58]⟩:ByteArray).size=1:=rfl;have s5:(⟨#[124,125]⟩:ByteArray).size=2:=rfl;have q1:¬(9223372036854775807:Int)<((⟨#[123,124]⟩:ByteArray).size:Int)+(X.size:Int):=(by omega);have q2:¬(9223372036854775807:Int)<(((⟨#[123,124]⟩:ByteArray)++X).size:Int)+((⟨#[58]⟩:ByteArray).size:Int):=(by rw [ByteArray.size_append];omega);have q3:¬(9223372036854775807:Int)<(((⟨#[123,124]⟩:ByteArray)++X++(⟨#[58]⟩:ByteArray)).size:Int)+(Y.size:Int):=(by rw [ByteArray.size_append,ByteArray.size_append];omega);have q4:¬(9223372036854775807:Int)<(((⟨#[123,124]⟩:ByteArray)++X++(⟨#[58]⟩:ByteArray)++Y).size:Int)+((⟨#[124,125]⟩:ByteArray).size:Int):=(by rw [ByteArray.size_append,ByteArray.size_append,ByteArray.size_append];omega);have HU:=zh u1;have HU2:=zh u2;clear hI hB hba hp u1 u2 hX hXl hY hYl hpt hZz s1 s2 s5;go_wp2_with fail;refine (dH w.heap.size w.heap.size _ Z _ HI.out (by rw [Lib.byteCells_length];have:=HU2.out;omega) HBA.out.size).mono ?_;rintro e w6 ⟨rfl,h6,b6,k6⟩;go_wp2_with fail;go_roundw;case rel=>exact ⟨i+1,by go_num,by omega,by rw [HU.out,Lib.byteCells_append];exact Or.inr h6,HBA.out.trans b6⟩
    case measure=>simp [intOf];omega
  ·obtain rfl:i=l.length:=(by omega);rw [List.take_length]at hI;have HI:=zh hI;clear hI;go_wp2_with fail;refine (Tryz.Builder_String_any_k w.heap.size w.heap.size _ wr HI.out hB.size).mono ?_;rintro e w2 ⟨rfl,_,hb2,_⟩;go_wp2_with fail;go_ret;exact ⟨rfl,hB.trans hb2⟩
theorem x9 {α:Type} (em:α ->α) (l:List α) (i:Nat) (p:α) (hp:l[i]? =some p):((l.take i).map em++l.drop i)[i]? =some p∧((l.take i).map em++l.drop i).set i (em p)=(l.take (i+1)).map em++l.drop (i+1)∧(em p=p ->(l.take i).map em++l.drop i=(l.take (i+1)).map em++l.drop (i+1))∧((l.take i).map em++l.drop i).length=l.length:=by
 obtain ⟨hi,rfl⟩:=List.getElem?_eq_some_iff.1 hp;have hl:((l.take i).map em).length=i:=(by simp;omega);have h1:l.drop i=l[i]::l.drop (i+1):=List.drop_eq_getElem_cons hi;have h2:(l.take (i+1)).map em=(l.take i).map em++[em l[i]]:=(by rw [List.take_succ_eq_append_getElem hi,List.map_append];rfl);refine ⟨?_,?_,fun e=>?_,by simp;omega⟩
 ·rw [List.getElem?_append_right (by omega),hl,Nat.sub_self,h1];rfl
 ·rw [List.set_append_right _ _ (by omega),hl,Nat.sub_self,h1,List.set_cons_zero,h2];simp
 ·rw [h1,h2,e];simp
theorem DI (l:List ai) (i:Nat) (p:ai) (hp:l[i]? =some p):(l.flatMap dR).set (i*3+2) (.string ⟨#[]⟩)=(l.set i {p with text:=[]}).flatMap dR:=
 j7 dR 3 pw l i 2 p _ _ hp (by omega) rfl
theorem rk (z:aS) (under:List (List UInt8)) (s:List UInt8):(bJ ((bX s).map (qW z under))).length <= s.length:=by
 rw [c6 (eO z under)];exact iG (eO z under) _ _
theorem AA {B sb:Nat} {w:World} {z:aS} (hS:jL B w sb z) (hB:B <= w.heap.size) (hE:lx w) (S:ByteArray) {ao:Option Addr} {cap:Nat} {under:List (List UInt8)} (hU:bO w ao under) (hUc:ao=none ->cap=0) (hs:S.size <= 1000000) (hul:under.length <= 100000):
  Calls Tryz.prog 40 #[.pointer (some ⟨sb,0,none⟩),.string S,.slice ao under.length cap] w fun e w'=>e=.returned (.string ⟨(au z under S.data.toList).toArray⟩)∧Below w.heap.size w w':=by
 have hfh:=mQ S w (by omega);obtain ⟨R,hR⟩:∃R,au z under S.data.toList=R:=⟨_,rfl⟩
 have hlv:=hR;unfold au at hlv;have hhd:(aj S.data.toList).2.2=true ->∃a lab k,aj S.data.toList=(a,lab,true)∧bh lab=true∧mA a∧S.data.toList=a++d9 lab k:=fun h=>eY h;obtain ⟨A,L,is,hAL⟩:∃(A L:List UInt8) (is:Bool),aj S.data.toList=(A,L,is):=⟨_,_,_,rfl⟩
 rw [hAL]at hfh hlv hhd;simp only at hfh hlv hhd;have HFH:=zh hfh;have HLV:=zh hlv;have HHD:=zh hhd;have HS:=zh hS;have HE:=zh hE;have HU:=zh hU;have HR:=zh hR;rw [hR];clear hfh hlv hhd hS hE hU hAL hR;go_enter Tryz.func40,Tryz.ntmps40
 go_wp2_with fail;refine HFH.out.mono ?_;rintro e w2 ⟨rfl,hb2⟩;have HB2:=zh hb2;clear hb2 HFH
 go_upto_if 21 with (fail)
 go_cut [2] (fun u2 wc=>∃(ao2:Option Addr) (cap2:Nat) (under2:List (List UInt8)),u2=.slice ao2 under2.length cap2∧bO wc ao2 under2∧(ao2=none ->cap2=0)∧Below w.heap.size w wc∧Hid (bJ ((bX S.data.toList).map (qW z under2))=R)∧under2.length <= 100001)
 case first=>
  cases is
  ·have HR1:=zh (show bJ ((bX S.data.toList).map (qW z under))=R by have:=HLV.out;rw [if_neg (by simp)]at this;exact this);go_wp2_with fail
   go_meet
   case rel=>exact ⟨ao,cap,under,rfl,HU.out.below HB2.out,hUc,HB2.out,HR1,by omega⟩
  ·obtain ⟨a',lab',k,e1,hlab,hpre,hSe⟩:=HHD.out rfl;obtain ⟨rfl,rfl⟩:A=a'∧L=lab':=by
    simp only [Prod.mk.injEq]at e1;exact ⟨e1.1,e1.2.1⟩
   have hll:=(kh hlab).2;have hSz:A.length+L.length+3 <= S.size:=by
    rw [Lib.size_eq,hSe];unfold d9;simp;omega
   have HPR:=zh hpre;have HW:=zh (ot (cap:=cap) ⟨L.toArray⟩ (HU.out.below HB2.out) hUc (by omega));clear e1 hlab hpre hSe;go_wp2_with fail;refine HW.out.mono ?_;rintro e w3 ⟨v3,rfl,hv3,hb3⟩;replace hv3:ah w2.heap.size w3 v3 (under++[L]):=hv3;obtain ⟨ao3,c3,hv3e,hr3,hc3,hn3⟩:=ab hv3;subst hv3e;have HB3:=zh (aa HB2.out hb3);have HR3:=zh (show bO w3 ao3 (under++[L])from hr3);have HC3:=zh hc3;have hls:(under++[L]).length=under.length+1:=(by simp);have HSE:=zh ((HS.out.below (HB3.out.mono hB)).sees (ao:=ao3) (cap:=c3) (l:=under++[L]) hr3 (by omega));obtain ⟨ln,hln⟩:∃n,(under++[L]).length=n:=⟨_,rfl⟩
   rw [hln]at HSE⊢;have HLN:=zh (And.intro hln hls);clear hv3 hr3 hn3 hb3 hc3 hln hls HW;obtain ⟨se,hse⟩:∃x,z.sees (under++[L])=x:=⟨_,rfl⟩
   rw [hse]at HSE;have HSEE:=zh hse;clear hse;go_wp2_with fail;refine HSE.out.mono ?_;rintro e w4 ⟨rfl,hb4⟩;have HB4:=zh (aa HB3.out hb4);have HR4:=zh (HR3.out.below hb4);clear hb4 HSE HR3;cases se
   ·obtain ⟨i,j,r,hi,hj,hj6,hA⟩:=HPR.out;obtain ⟨X,hX⟩:∃X:ByteArray,(⟨A.toArray⟩:ByteArray)=X:=⟨_,rfl⟩
    have hXl:X.data.toList=A:=(by rw [<- hX]);obtain ⟨Y,hY⟩:∃Y:ByteArray,(⟨L.toArray⟩:ByteArray)=Y:=⟨_,rfl⟩
    have hYl:Y.data.toList=L:=(by rw [<- hY]);have hXz:X.size=A.length:=(by rw [Lib.size_eq,hXl]);have hYz:Y.size=L.length:=(by rw [Lib.size_eq,hYl]);have hsg:=fun W=>Ah i j r hj X (by rw [hXl,hA]) (by omega) W;obtain ⟨n,hn⟩:∃n,i+j=n:=⟨_,rfl⟩
    have hnz:n <= X.size:=(by rw [hXz,hA];simp;omega);have hres:R=A.take n++32::d9 L 0:=by
     have:=HLV.out;rw [if_pos trivial,if_pos HSEE.out,hA,iO i j r hj,hn]at this;rw [<- this,hA]
    obtain ⟨T,hT⟩:∃T:ByteArray,X.extract 0 n=T:=⟨_,rfl⟩
    have hTl:T.data.toList=A.take n:=(by rw [<- hT,<- hXl];simp [ByteArray.data_extract]);have hTz:T.size=n:=(by rw [Lib.size_eq,hTl,List.length_take];omega);have hnI:(n:Int) <= (X.size:Int):=(by omega);have s3:(⟨#[32,123,61]⟩:ByteArray).size=3:=rfl;have s1:(⟨#[125]⟩:ByteArray).size=1:=rfl;have q1:¬(9223372036854775807:Int)<(T.size:Int)+((⟨#[32,123,61]⟩:ByteArray).size:Int):=(by omega);have q2:¬(9223372036854775807:Int)<((T++(⟨#[32,123,61]⟩:ByteArray)).size:Int)+(Y.size:Int):=(by rw [ByteArray.size_append];omega);have q3:¬(9223372036854775807:Int)<((T++(⟨#[32,123,61]⟩:ByteArray)++Y).size:Int)+((⟨#[125]⟩:ByteArray).size:Int):=(by rw [ByteArray.size_append,ByteArray.size_append];omega);have HRES:=zh (show (T++(⟨#[32,123,61]⟩:ByteArray)++Y++(⟨#[125]⟩:ByteArray)).data.toList=R by
     rw [hres];simp only [ByteArray.data_append,Array.toList_append,hTl,hYl];unfold d9;simp)
    have HSG:=zh hsg;rw [hX,hY];rw [hn]at HSG;clear hsg hn hres hTl hTz hXl hYl hXz hYz hA hi hj hj6 hX hY s3 s1;go_wp2_with fail;refine (HSG.out _).mono ?_;rintro e w5 ⟨rfl,hb5⟩;have HB5:=zh (aa HB4.out hb5);clear hb5;go_wp2_with fail;go_ret;exact ⟨by rw [<- HRES.out,Lib.mk_data];rfl,HB5.out⟩
   ·have HR1:=zh (show bJ ((bX S.data.toList).map (qW z (under++[L])))=R by
     have:=HLV.out;rw [if_pos trivial,if_neg (by rw [HSEE.out];simp)]at this;exact this)
    go_wp2_with fail
    go_meet
    case rel=>exact ⟨ao3,c3,under++[L],by rw [HLN.out.1],HR4.out,HC3.out,HB4.out,HR1,by rw [HLN.out.2];omega⟩
 case rest=>
  obtain ⟨ao2,cap2,under2,rfl,hU2,hUc2,hbc,HR2,hul2⟩:=hcut;have HU2:=zh hU2;have HBC:=zh hbc;have hsp:=sw S wc (HE.out.below hbc) hs;have hcnt:=fm S.data.toList;have hlen:=sA S.data.toList;have hue:=rk z under2 S.data.toList;rw [<- Lib.size_eq]at hcnt hlen hue;obtain ⟨l,hl⟩:∃l,bX S.data.toList=l:=⟨_,rfl⟩
  rw [hl]at hsp hcnt hlen hue HR2;have HSP:=zh hsp;clear hU2 hbc hsp hl hcnt HLV HHD HU;go_wp2_with fail;refine HSP.out.mono ?_;rintro e w3 ⟨pv,rfl,hpc,hb3⟩;obtain ⟨pao,pcap,hpve,hpr,_⟩:=ab hpc;subst hpve;have hpc0:w3.ownsRow wc.heap.size 138 3 (.slice pao l.length pcap) l.length (((l.take 0).map (qW z under2)++l.drop 0).flatMap dR):=by
   rw [List.take_zero,List.map_nil,List.nil_append,List.drop_zero];exact hpc
  have HP0:=zh (And.intro hpc0 hb3);clear hpc hpc0 hpr hb3 HSP;go_wp2_with fail;go_loopw [41] (fun u41 wr=>∃i:Nat,u41=.int .i64 (i:Int)∧i <= l.length∧wr.ownsRow wc.heap.size 138 3 (.slice pao l.length pcap) l.length (((l.take i).map (qW z under2)++l.drop i).flatMap dR)∧Below wc.heap.size wc wr) (fun u41 _=>l.length - (intOf u41).toNat)
  case atStart=>exact ⟨0,by go_num,Nat.zero_le _,HP0.out.1,HP0.out.2⟩
  case round=>
   obtain ⟨i,rfl,hi,hown,hbw⟩:=hrel;clear HP0;by_cases hlt:i<l.length
   ·obtain ⟨p,hp⟩:=bG l i hlt;obtain ⟨m1,m2,m3,m4⟩:=x9 (qW z under2) l i p hp;obtain ⟨M,hM⟩:∃M,(l.take i).map (qW z under2)++l.drop i=M:=⟨_,rfl⟩
    rw [hM]at hown m1 m2 m3 m4;have hpr:=(bT hown).2.1;obtain ⟨g,o,rfl⟩:=hpr.addr (by omega);obtain rfl:o=0:=(fx hown).1;obtain ⟨c0,c1,c2⟩:=hpr.pce i p m1;simp only [Nat.zero_add]at c0 c1 c2;have hem:qW z under2 p=if p.span=true∧z.sees (under2++[p.label])=false then ⟨true,p.label,[]⟩else p:=rfl;have hps:=DI M i p m1;obtain ⟨sp,lab,txt⟩:=p;simp only at c0 c1 c2 hem hps;have hba:=(Below.refl wr.heap.size wr).alloc (Nat.le_refl _) (.cells #[.bool sp,.string ⟨lab.toArray⟩,.string ⟨txt.toArray⟩] 138);have HOW:=zh (ae hown hba);have HBW:=zh (aa hbw hba);cases sp
    ·have HN:=zh (m3 (by rw [hem,if_neg (by simp)]));clear hown hbw hpr hp m1 m2 m3 m4 hM hem hps hba;go_wp2_with fail;go_roundw;case rel=>exact ⟨i+1,by go_num,by omega,by rw [<- HN.out];exact HOW.out,HBW.out⟩
     case measure=>simp [intOf];omega
    ·have HUW:=zh (HU2.out.below HBW.out);have HWI:=zh (ot (cap:=cap2) ⟨lab.toArray⟩ HUW.out hUc2 (by omega));obtain ⟨se,hse⟩:∃x,z.sees (under2++[lab])=x:=⟨_,rfl⟩
     rw [hse]at hem;have HSEE:=zh hse;have HM:=zh (And.intro m2 (And.intro m3 (And.intro hem hps)));have HM1:=zh m1;clear hown hbw hpr hp m1 m2 m3 m4 hM hem hps hba hse;go_wp2_with fail;refine HWI.out.mono ?_;rintro e w4 ⟨v4,rfl,hv4,hb4⟩;replace hv4:ah _ w4 v4 (under2++[lab]):=hv4;obtain ⟨ao4,cp4,hv4e,hr4,_,_⟩:=ab hv4;subst hv4e;have HB4:=zh (aa HBW.out hb4);have HO4:=zh (ae HOW.out hb4);have hls:(under2++[lab]).length <= 1000000:=(by simp;omega);have HSE:=zh ((HS.out.below ((HBC.out.trans (HB4.out.mono HBC.out.size)).mono hB)).sees (ao:=ao4) (cap:=cp4) (l:=under2++[lab]) hr4 hls);obtain ⟨ln,hln⟩:∃n,(under2++[lab]).length=n:=⟨_,rfl⟩
     rw [HSEE.out,hln]at HSE;rw [hln];clear hv4 hr4 hls hln hb4 HWI c0 c1 c2 HOW HBW HUW;go_wp2_with fail;refine HSE.out.mono ?_;rintro e w5 ⟨rfl,hb5⟩;have HB5:=zh (aa HB4.out hb5);have HO5:=zh (ae HO4.out hb5);clear hb5 HSE HB4 HO4;cases se
     ·have hst:=World.ownsRow.stored HO5.out (i*3+2) (.string ⟨#[]⟩);have hfz:w5.frozen? ⟨g,i*3+2,none⟩=false:=World.ownsRow.frozenAt HO5.out _;have hge:wc.heap.size <= g:=(World.ownsRow.lt HO5.out g rfl).1;have hcl:=((bT HO5.out).2.1.pce i _ HM1.out).2.2;simp only [Nat.zero_add]at hcl;have HO6:=zh (show (w5.setCell ⟨g,i*3+2,none⟩ (.string ⟨#[]⟩)).ownsRow wc.heap.size 138 3 (.slice (some ⟨g,0,none⟩) l.length pcap) l.length (((l.take (i+1)).map (qW z under2)++l.drop (i+1)).flatMap dR)from by
       rw [<- HM.out.1,HM.out.2.2.1,if_pos (by simp),<- HM.out.2.2.2];exact hst.1)
      have HB6:=zh (HB5.out.setCell (p:=⟨g,i*3+2,none⟩) hge (.string ⟨#[]⟩));clear hst hge HB5 HO5;go_wp2_with fail;go_roundw;case rel=>exact ⟨i+1,by go_num,by omega,HO6.out,HB6.out⟩
      case measure=>simp [intOf];omega
     ·have HN:=zh (HM.out.2.1 (by rw [HM.out.2.2.1,if_neg (by simp)]));go_wp2_with fail;go_roundw;case rel=>exact ⟨i+1,by go_num,by omega,by rw [<- HN.out];exact HO5.out,HB5.out⟩
      case measure=>simp [intOf];omega
   ·obtain rfl:i=l.length:=(by omega);rw [List.take_length,List.drop_length,List.append_nil]at hown;have HUN:=zh (xG (w:=wr) (ao:=pao) (cap:=pcap) (l.map (qW z under2)) (by have:=(bT hown).2.1;rw [List.length_map];exact this) (by omega) (by rw [List.length_map];omega));rw [List.length_map,HR2.out]at HUN;have HBW:=zh (HBC.out.trans (hbw.mono HBC.out.size));clear hown hbw;go_wp2_with fail;refine HUN.out.mono ?_;rintro e w4 ⟨rfl,hb4⟩;have HB4:=zh (aa HBW.out hb4);clear hb4;go_wp2_with fail;go_ret;exact ⟨rfl,HB4.out⟩
abbrev C6:=List af×List (List UInt8)×Option Nat
structure sP (z:aS) (l:List af) (R:List af) (i:Nat) (q:C6):Prop where
 fo:((l.drop i).foldl (ar z) q).1=R
 ch:∃T,fE T (l.drop i)∧(q.2.2=none ->q.2.1.length=T)∧(∀h,q.2.2=some h ->q.2.1.length=h+1)
 ul:q.2.1.length <= i
 ql:q.1.length <= i
theorem sP.start (z:aS) {l:List af} (h:fE 0 l):sP z l (bE z l) 0 ([],[],none):=
 ⟨by rw [List.drop_zero];rfl,⟨0,by rw [List.drop_zero];exact h,fun _=>rfl,fun h e=>(by cases e)⟩,Nat.le_refl _,Nat.le_refl _⟩
theorem sP.depth {z:aS} {l:List af} {R:List af} {i:Nat} {q:C6} (h:sP z l R i q) {p:af} (hp:l[i]? =some p) (hs:(q.2.2.any fun h=>decide (h<p.depth))=false):p.depth <= q.2.1.length:=by
 obtain ⟨T,h1,h2,h3⟩:=h.ch;have:=(iY hp h1).1;cases ho:q.2.2 with
 |none=>rw [h2 ho];exact this
 |some d=>
  rw [ho]at hs;have:=h3 d ho;simp at hs;omega
theorem sP.next {z:aS} {l:List af} {R:List af} {i:Nat} {q:C6} (h:sP z l R i q) {p:af} (hp:l[i]? =some p):sP z l R (i+1) (ar z q p):=by
 obtain ⟨st,under,hd⟩:=q;have hdep:=h.depth hp;obtain ⟨q1,⟨T,h1,h2,h3⟩,q10,q11⟩:=h;have hc:=iY hp h1;have hfo:((l.drop (i+1)).foldl (ar z) (ar z (st,under,hd) p)).1=R:=(by rw [<- q1,kN (ar z) l i p (st,under,hd) hp]);simp only at q10 q11 h2 h3 hdep;by_cases hs:(hd.any fun h=>decide (h<p.depth))=true
 ·have e:ar z (st,under,hd) p=(st,under,hd):=(by unfold ar;rw [if_pos hs]);rw [e]at hfo⊢;refine ⟨hfo,⟨_,hc.2,fun hn=>?_,h3⟩,by simp only;omega,by simp only;omega⟩;simp only at hn;rw [hn]at hs;cases hs
 ·have hs':(hd.any fun h=>decide (h<p.depth))=false:=(by simpa using hs);have htl:(under.take p.depth).length=p.depth:=(by rw [List.length_take];have:=hdep hs';omega);have:=hdep hs';by_cases hdv:p.div=false
  ·have e:ar z (st,under,hd) p=(st++[{p with lines:=p.lines.map (au z (under.take p.depth))}],under.take p.depth,none):=by
    unfold ar;rw [if_neg hs,if_pos hdv]
   rw [e]at hfo⊢;exact ⟨hfo,⟨_,hc.2,fun _=>by simp only;rw [htl];unfold gg;rw [hdv];simp,fun h e=>(by cases e)⟩,by simp only;omega,by simp only [List.length_append,List.length_cons,List.length_nil];omega⟩
  ·have hdv':p.div=true:=(by simpa using hdv);have hul:(under.take p.depth++[p.label]).length=p.depth+1:=(by rw [List.length_append,htl];rfl);have e:ar z (st,under,hd) p=(st++[{p with lines:=p.lines.map (au z (under.take p.depth++[p.label]))}],under.take p.depth++[p.label],if z.sees (under.take p.depth++[p.label])=false then some p.depth else none):=by
    unfold ar;rw [if_neg hs,if_neg hdv]
   rw [e]at hfo⊢;refine ⟨hfo,⟨_,hc.2,fun _=>by simp only;rw [hul];unfold gg;rw [hdv'];simp,fun h e=>?_⟩,by simp only;omega,by simp only [List.length_append,List.length_cons,List.length_nil];omega⟩;simp only at e⊢;split at e
   ·obtain rfl:=Option.some.inj e;exact hul
   ·cases e
theorem aT.line {B:Nat} {w:World} {v:Value} {l:List aW} {k lg lc n:Nat} {p:af} (h:aT B w v l) (hx:l[k]? =some (p,.slice (some ⟨lg,0,none⟩) n lc)) (hn:n=p.lines.length) (j:Nat) (s:List UInt8):
  aT B (w.setCell ⟨lg,j,none⟩ (fV s)) v (l.set k ({p with lines:=p.lines.set j s},.slice (some ⟨lg,0,none⟩) n lc)):=by
 subst hn;have hkl:k<l.length:=(List.getElem?_eq_some_iff.1 hx).1;have hl:=h.lines k _ hx;have hl2:w.ownsRow B 9 1 (.slice (some ⟨lg,0,none⟩) p.lines.length lc) p.lines.length (p.lines.map fV):=hl;have hst:=World.ownsRow.stored hl2 j (fV s);refine ⟨?_,fun m y hy=>?_,fun m m' y y' hy hy' hne=>?_⟩
 ·have:=World.ownsRow.kept h.row hst.2 (aZ h.row hl2 (by decide));rw [List.length_set];have e:(l.set k ({p with lines:=p.lines.set j s},Value.slice (some ⟨lg,0,none⟩) p.lines.length lc)).flatMap aq=l.flatMap aq:=by
   have h1:∀(l:List aW) (k:Nat) (x y:aW),l[k]? =some x ->aq y=aq x ->(l.set k y).flatMap aq=l.flatMap aq:=by
    intro l;induction l with
    |nil=>intro k x y h;simp at h
    |cons a l ih=>
     intro k x y h e;cases k with
     |zero=>simp at h;subst h;rw [List.set_cons_zero,List.flatMap_cons,List.flatMap_cons,e]
     |succ k=>rw [List.set_cons_succ,List.flatMap_cons,List.flatMap_cons,ih k x y (by simpa using h) e]
   exact h1 l k _ _ hx rfl
  rw [e];exact this
 ·rw [List.getElem?_set]at hy;split at hy
  ·obtain rfl:=Option.some.inj hy;have h1:=hst.1;unfold ah;simp only [List.length_set,List.map_set];exact h1
  ·rename_i hne;exact World.ownsRow.kept (h.lines m y hy) hst.2 (h.apart m k y _ hy hx (fun e=>hne e.symm))
 ·have q:∀a (c:aW),(l.set k ({p with lines:=p.lines.set j s},Value.slice (some ⟨lg,0,none⟩) p.lines.length lc))[a]? =some c ->∃d:aW,l[a]? =some d∧d.2=c.2:=fun a c hc=>by
   rw [List.getElem?_set]at hc;split at hc
   ·rename_i e;obtain rfl:=Option.some.inj hc;exact ⟨(p,.slice (some ⟨lg,0,none⟩) p.lines.length lc),by rw [<- e];exact hx,rfl⟩
   ·exact ⟨c,hc,rfl⟩
  obtain ⟨d,hd,e1⟩:=q m y hy;obtain ⟨d',hd',e2⟩:=q m' y' hy';rw [<- e1,<- e2];exact h.apart m m' d d' hd hd' hne
structure kH (w:World) (ao:Option Addr) (l:List aW):Prop where
 row:aY w 5 ao l.length (l.flatMap aq)
 lines:∀x∈l,∃lao lcap,x.2=.slice lao x.1.lines.length lcap∧bO w lao x.1.lines∧(lao=none ->lcap=0)
theorem kH.below {w w':World} {ao:Option Addr} {l:List aW} (h:kH w ao l) (hb:Below w.heap.size w w'):kH w' ao l:=
 ⟨aY.below h.row hb,fun x hx=>by
  obtain ⟨lao,lcap,h1,h2,h3⟩:=h.lines x hx;exact ⟨lao,lcap,h1,h2.below hb,h3⟩⟩
theorem Cd (s:ByteArray) (d pb:Nat) (w:World) (hc:w.cell? ⟨pb,0,none⟩=some (.int .i64 (d:Int))) (ho:(bf s.data.toList).2=false) (hsh:0<d ->cq s.data.toList=false) (h10:(10:UInt8)∉s.data.toList) (hs:s.size <= 1000000000):
  Calls Tryz.prog 140 #[.string s,.pointer (some ⟨pb,0,none⟩)] w fun e w'=>e=.returned (.bool false)∧Below w.heap.size w w':=by
 have hin:∀W,Calls Tryz.prog 141 #[.string s,.string ⟨#[10]⟩] W fun e w'=>e=.returned (.bool false)∧w'=W:=fun W=>by
  refine (Tryz.strings_Contains_one s 10 W).mono ?_;rintro e w' ⟨rfl,rfl⟩;rw [jY,show s.data.toList.contains 10=false from by simpa using h10];exact ⟨rfl,rfl⟩
 have hop:=sd s w hs;have hsu:=fun W=>sq s W hs;rw [ho]at hop;have HOP:=zh hop;obtain ⟨b,hb⟩:∃b,cq s.data.toList=b:=⟨_,rfl⟩
 rw [hb]at hsu hsh;have HSU:=zh hsu;have HIN:=zh hin;have HC:=zh hc;have HD:=zh hsh;clear hop hsu hin hc ho h10 hb hsh;go_enter Tryz.func140,Tryz.ntmps140
 go_wp2_with fail;refine HOP.out.mono ?_;rintro e w2 ⟨rfl,hb2⟩;have HB2:=zh hb2;clear hb2 HOP;go_wp2_with fail;refine (HSU.out _).mono ?_;rintro e w3 ⟨rfl,hb3⟩;have HB3:=zh (aa HB2.out hb3);clear hb3;cases b
 ·go_wp2_with fail;refine (HIN.out _).mono ?_;rintro e w4 ⟨rfl,hw4⟩;obtain rfl:=hw4.symm;go_wp2_with fail;go_ret;exact ⟨rfl,HB3.out⟩
 ·obtain rfl:d=0:=Nat.eq_zero_of_not_pos fun h=>by cases HD.out h
  have c0:=(HB3.out.cell (p:=⟨pb,0,none⟩) (World.block_lt_of_cell? _ _ HC.out)).trans HC.out;go_wp2_with fail;refine (HIN.out _).mono ?_;rintro e w4 ⟨rfl,hw4⟩;obtain rfl:=hw4.symm;go_wp2_with fail;go_ret;exact ⟨rfl,HB3.out⟩
def AL (d:Nat) (s:List UInt8):Prop:=((bf s).2=false∧(0<d ->cq s=false))∧(10:UInt8)∉s∧s.length <= 1000000
theorem Dw (d pb:Nat) {w:World} {g o cp:Nat} {l:List (List UInt8)} (hR:bO w (some ⟨g,o,none⟩) l) (hc:w.cell? ⟨pb,0,none⟩=some (.int .i64 (d:Int))) (hl:∀s∈l,AL d s) (hn:l.length <= 1000000):
  Calls Tryz.prog 174 #[.slice (some ⟨g,o,none⟩) l.length cp,.func (.func 140) #[] #[.pointer (some ⟨pb,0,none⟩)]] w fun e w'=>e=.returned (.int .i64 (-1))∧Below w.heap.size w w':=by
 have HL:=zh hl;have HR:=zh hR;have HC:=zh hc;clear hl hR hc;go_enter Tryz.func174,Tryz.ntmps174
 go_wp2_with fail;go_loopw [8] (fun u8 wr=>∃i:Nat,u8=.int .i64 (i:Int)∧i <= l.length∧Below w.heap.size w wr) (fun u8 _=>l.length - (intOf u8).toNat)
 case atStart=>exact ⟨0,by go_num,Nat.zero_le _,Below.refl _ _⟩
 case round=>
  obtain ⟨i,rfl,hi,hb⟩:=hrel;have HB:=zh hb;by_cases hlt:i<l.length
  ·obtain ⟨x,hx⟩:=bG l i hlt;have cx:=bO.at' (HR.out.below hb) i x hx;obtain ⟨⟨q1,q2⟩,q3,q4⟩:=HL.out x (List.mem_of_getElem? hx);have cd:=(hb.cell (p:=⟨pb,0,none⟩) (World.block_lt_of_cell? _ _ HC.out)).trans HC.out;have HP:=zh (Cd ⟨x.toArray⟩ d pb wr cd q1 q2 q3 (by rw [Lib.size_eq];exact Nat.le_trans q4 (by decide)));clear hx q1 q2 q3 q4 cd hb;go_wp2_with fail;refine HP.out.mono ?_;rintro e w2 ⟨rfl,hb2⟩;have HB2:=zh (aa HB.out hb2);clear hb2;go_wp2_with fail;go_roundw;case rel=>exact ⟨i+1,by go_num,by omega,HB2.out⟩
   case measure=>simp [intOf];omega
  ·clear hb;go_wp2_with fail;go_ret;exact ⟨rfl,HB.out⟩
theorem Bf (d pb:Nat) {w:World} {g o cp:Nat} {l:List (List UInt8)} (hR:bO w (some ⟨g,o,none⟩) l) (hc:w.cell? ⟨pb,0,none⟩=some (.int .i64 (d:Int))) (hl:∀s∈l,AL d s) (hn:l.length <= 1000000):
  Calls Tryz.prog 139 #[.slice (some ⟨g,o,none⟩) l.length cp,.func (.func 140) #[] #[.pointer (some ⟨pb,0,none⟩)]] w fun e w'=>e=.returned (.bool false)∧Below w.heap.size w w':=by
 have HI:=zh (Dw d pb (cp:=cp) hR hc hl hn);clear hR hc hl;go_enter Tryz.func139,Tryz.ntmps139
 go_wp2_with fail;refine HI.out.mono ?_;rintro e w2 ⟨rfl,hb⟩;have HB:=zh hb;clear hb;go_wp2_with fail;go_ret;exact ⟨rfl,HB.out⟩
def vO (p:af):Prop:=(p.div=true ->bh p.label=true∧p.lines=[])∧(p.div=false ->p.label=[]∧p.opn=false∧p.lines≠[]∧∀s∈p.lines,AL p.depth s)
theorem DG {w:World} {p:af} {lao:Option Addr} {lcap:Nat} (hR:bO w lao p.lines) (hok:vO p) (hn:p.lines.length <= 1000000):
  Calls Tryz.prog 108 #[.agg #[.int .i64 (p.depth:Int),.bool p.div,.string ⟨p.label.toArray⟩,.bool p.opn,.slice lao p.lines.length lcap]] w fun e w'=>e=.returned (.bool true)∧Below w.heap.size w w':=by
 obtain ⟨d,dv,lab,op,ls⟩:=p;simp only [vO]at hR hok hn⊢;have hba:=(Below.refl w.heap.size w).alloc (Nat.le_refl _) (.cells #[.int .i64 (d:Int),.bool dv,.string ⟨lab.toArray⟩,.bool op,.slice lao ls.length lcap] 65);have hpx:=heap_alloc_new w (.cells #[.int .i64 (d:Int),.bool dv,.string ⟨lab.toArray⟩,.bool op,.slice lao ls.length lcap] 65);cases dv
 ·obtain ⟨rfl,rfl,hne,hls⟩:=hok.2 rfl;obtain ⟨n,hlen⟩:∃n,ls.length=n+1:=by
   cases ls with
   |nil=>exact absurd rfl hne
   |cons x t=>exact ⟨t.length,rfl⟩
  obtain ⟨g,o,rfl⟩:=hR.addr (by omega);have HCT:=zh (Bf d w.heap.size (cp:=lcap) (hR.below hba) (by rw [cell_of_row _ w.heap.size _ _ _ _ hpx];rfl) hls hn);rw [hlen]at HCT hba⊢;have HB:=zh hba;clear hok hR hba hpx hls hne hlen;go_enter Tryz.func108,Tryz.ntmps108
  go_wp2_with fail;refine HCT.out.mono ?_;rintro e w2 ⟨rfl,hb2⟩;have HB2:=zh (aa HB.out hb2);clear hb2;go_wp2_with fail;go_ret;exact ⟨rfl,HB2.out⟩
 ·obtain ⟨hlab,rfl⟩:=hok.1 rfl;have hll:=(kh hlab).2;have hla:=fun W=>kV ⟨lab.toArray⟩ W (by rw [Lib.size_eq];exact Nat.le_trans hll (by decide));rw [show ({data:=lab.toArray}:ByteArray).data.toList=lab from rfl,hlab]at hla;have HLA:=zh hla;have HB:=zh hba;clear hok hR hba hpx hla hlab;go_enter Tryz.func108,Tryz.ntmps108
  go_wp2_with fail;refine (HLA.out _).mono ?_;rintro e w2 ⟨rfl,hb2⟩;have HB2:=zh (aa HB.out hb2);clear hb2;go_wp2_with fail;go_ret;exact ⟨rfl,HB2.out⟩
end Go.Proofs.YtcannffahjbjnaaGreatDoor
