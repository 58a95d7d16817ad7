import Derived.Test.YtcannffahjbjnaaGreatDoorVwBZd
import Derived.Test.YtcannffahjbjnaaGreatDoorVwBQ
set_option linter.unusedVariables false
set_option linter.unusedSimpArgs false
set_option maxRecDepth 100000
set_option maxHeartbeats 64000000
namespace Go.Proofs.YtcannffahjbjnaaGreatDoor
open Go.RowKit
structure jp (w:World) (ao:Option Addr) (cap:Nat) (ls:List (List UInt8)):Prop where
 lr:bU w ao ls
 lc:ls.length <= cap
 lt:tot ls <= 1000000
 n9:∀s∈ls,(9:UInt8)∉s
theorem jp.below {w w':World} {ao:Option Addr} {cap:Nat} {ls:List (List UInt8)} (h:jp w ao cap ls) (hb:Below w.heap.size w w'):jp w' ao cap ls:=⟨h.lr.below hb,h.lc,h.lt,h.n9⟩
theorem jp.ll {w:World} {ao:Option Addr} {cap:Nat} {ls:List (List UInt8)} (h:jp w ao cap ls):ls.length <= 1000000:=by
 have:=mP ls;have:=h.lt;omega
theorem jp.line {w:World} {g o:Nat} {cap:Nat} {ls:List (List UInt8)} (h:jp w (some ⟨g,o,none⟩) cap ls) (i:Nat) (hi:i<ls.length):
  ∃X:ByteArray,ls[i]? =some X.data.toList∧w.cell? ⟨g,o+i,none⟩=some (.string X)∧X.size <= 1000000∧(9:UInt8)∉X.data.toList∧wt X.data.toList <= 1000000:=by
 obtain ⟨x,hx⟩:∃x,ls[i]? =some x:=⟨_,List.getElem?_eq_getElem hi⟩
 have hm:=List.mem_of_getElem? hx;refine ⟨⟨x.toArray⟩,hx,h.lr.at' i x hx,?_,h.n9 x hm,?_⟩
 ·have:=sy hm;have:=h.lt;rw [Lib.size_eq];simp only;omega
 ·have:=oO hm;have:=h.lt;simp only;omega
theorem jp.addr {w:World} {ao:Option Addr} {cap:Nat} {ls:List (List UInt8)} (h:jp w ao cap ls) (hn:0<ls.length):∃g o,ao=some ⟨g,o,none⟩:=h.lr.addr hn
theorem jp.sub {w:World} {g o:Nat} {cap:Nat} {ls:List (List UInt8)} (h:jp w (some ⟨g,o,none⟩) cap ls) (a b:Nat) (hb:b <= ls.length) (hab:a <= b):jp w (some ⟨g,o+a,none⟩) (cap - a) ((ls.drop a).take (b - a)):=
 ⟨h.lr.sub a b hb hab,by have:=h.lc;rw [List.length_take,List.length_drop];omega,Nat.le_trans (eE _ _) (Nat.le_trans (dN _ _) h.lt),fun s hs=>h.n9 s ((List.drop_sublist _ _).subset ((List.take_sublist _ _).subset hs))⟩
theorem rR (ao:Option Addr) (cap:Nat) (l:List (List UInt8)) (w:World) (hR:bU w ao l) (hl:(bI l).length <= 1000000000) (hn:l.length <= 1000000000):
  Calls Tryz.prog 37 #[.slice ao l.length cap] w fun e w'=>e=.returned (.string ⟨(bI l).toArray⟩)∧w'=w:=by
 have HR:=zh hR;have HJ:=zh hl;clear hR hl;go_enter Tryz.func37,Tryz.ntmps37
 go_wp2_with fail;go_loop [3,4] (fun uo ui=>∃(i:Nat) (O:ByteArray),i <= l.length∧uo=.string O∧ui=.int .i64 i∧Hid (O.data.toList=bI (l.take i))) (fun _ ui=>l.length - (intOf ui).toNat)
 case atStart=>exact ⟨0,⟨#[]⟩,Nat.zero_le _,rfl,rfl,zh (by simp [bI])⟩
 case round=>
  obtain ⟨i,O,hi,rfl,rfl,HO⟩:=hrel;by_cases hlt:i<l.length
  ·obtain ⟨x,hx⟩:∃x,l[i]? =some x:=⟨_,List.getElem?_eq_getElem hlt⟩
   obtain ⟨g,o,rfl⟩:=bU.addr HR.out (by omega);have hc:=bU.at' HR.out i x hx;have hjs:=ro (l.take i) x;have hj2:=fQ l (i+1);rw [<- iB l i x hx]at hjs;rw [hjs,List.length_append,List.length_append]at hj2;obtain ⟨X,hX⟩:∃X:ByteArray,(⟨x.toArray⟩:ByteArray)=X:=⟨_,rfl⟩
   have hXl:x=X.data.toList:=(by rw [<- hX]);rw [hX]at hc;have hOz:O.size <= 1000000000:=(by rw [Lib.size_eq,HO.out];have:=HJ.out;omega);have hXz:X.size <= 1000000000:=(by rw [Lib.size_eq,<- hXl];have:=HJ.out;omega);have HN:=zh (show (O++X++(⟨#[10]⟩:ByteArray)).data.toList=bI (l.take (i+1)) by
    rw [hjs,ByteArray.data_append,Array.toList_append,ByteArray.data_append,Array.toList_append,HO.out,<- hXl];simp)
   have hltI:(i:Int)<(l.length:Int):=(by omega);clear hX hXl hjs hj2 hx HO;go_wp2_with fail;go_round;case rel=>exact ⟨i+1,_,by omega,rfl,by go_num,HN⟩
   case measure=>simp [intOf];omega
  ·obtain rfl:i=l.length:=(by omega);have HE:=zh (show O.data.toList=bI l by rw [HO.out,List.take_length]);clear HO;go_wp2_with fail;go_ret;exact ⟨fA HE.out,rfl⟩
theorem gZ {w:World} {ao:Option Addr} {cap:Nat} {l:List (List UInt8)} (n:Nat) (h:jp w ao cap l) (hn:n <= 1000000000):
  Calls Tryz.prog 29 #[.slice ao l.length cap,.int .i64 n] w fun e w'=>e=.returned (.string ⟨(bI (l.map (aO · n))).toArray⟩)∧Below w.heap.size w w':=by
 obtain ⟨is,hsi,hs0,hs1,hs2⟩:=info_parts eZ;have hln:=h.ll;have HH:=zh h;clear h;go_enter Tryz.func29,Tryz.ntmps29
 go_wp2_with fail;go_loopw [5,6] (fun uo ui wr=>∃i:Nat,i <= l.length∧ui=.int .i64 i∧al w.heap.size wr uo ((l.take i).map (aO · n))∧Below w.heap.size w wr) (fun _ ui _=>l.length - (intOf ui).toNat)
 case atStart=>exact ⟨0,Nat.zero_le _,rfl,World.ownsRow_nil _ _ _ _,Below.refl _ _⟩
 case round=>
  rename World=>w2
  obtain ⟨i,hi,rfl,hown,hbw⟩:=hrel;by_cases hlt:i<l.length
  ·obtain ⟨g,o,rfl⟩:=HH.out.addr (by omega);obtain ⟨X,hx,hcl,hXz,hX9,_⟩:=(HH.out.below hbw).line i hlt;have hst:=lS X n hX9 hXz hn;obtain ⟨Y,hY⟩:∃Y:ByteArray,(⟨(aO X.data.toList n).toArray⟩:ByteArray)=Y:=⟨_,rfl⟩
   have hYl:Y.data.toList=aO X.data.toList n:=(by rw [<- hY]);rw [hY]at hst;have HST:=zh hst;have HYL:=zh hYl;have hlen:((l.take i).map (aO · n)).length=i:=(by simp;omega);obtain ⟨L,hL⟩:∃L,(l.take i).map (aO · n)=L:=⟨_,rfl⟩
   rw [hL]at hown hlen;have HL:=zh hL;have HLEN:=zh hlen;have HO2:=zh hown;have HB2:=zh hbw;have HX:=zh hx;have hltI:(i:Int)<(l.length:Int):=(by omega);clear hL hlen hst hY hYl hown hbw hx hX9;go_wp2_with fail;refine (HST.out _).mono ?_;rintro e w' ⟨rfl,hw'⟩;obtain rfl:=hw'.symm;clear hw'
   go_wp2_with (first
    |(at_builtin;refine wpList_append_own _ rfl _ _ 22 rfl w.heap.size 9 is (.string ⟨#[]⟩) 1 16 Tryz.underlying22 hsi hs0 hs1 hs2 rfl (by decide) _ _ _ rfl (World.ownsRow.alloc HO2.out _) ⟨w2.heap.size,0,none⟩ 1 1 [.string Y] rfl rfl ?c1 ?c2 ?c3 ?c4 ?c5 ?_))
   case c1=>exact ar _ _ _ _ rfl
   case c2=>intro u hu;simp at hu;rcases hu with rfl;rfl
   case c3=>rw [HLEN.out];unfold maxLen;omega
   case c4=>rw [HLEN.out];omega
   case c5=>have:=HB2.out.size;simp;omega
   intro v4 w4 hown4 hgrow _;have hg1:=(World.grownBy_alloc w2 (.cells #[.string Y] 9) u5.ownBlock).trans hgrow;have hO4:=al.snoc hown4 HYL.out;have hB4:=HB2.out.grown hg1 HB2.out.size (fun j hj=>(World.ownsRow.lt HO2.out j hj).1);have HO4:=zh (show al w.heap.size w4 v4 ((l.take (i+1)).map (aO · n)) by
    rw [iB l i _ HX.out,List.map_append,HL.out];exact hO4)
   have HB4:=zh hB4;clear hgrow hg1 hO4 hB4 hown4;go_wp2_with fail;go_roundw;case rel=>exact ⟨i+1,by omega,by go_num,HO4.out,HB4.out⟩
   case measure=>simp [intOf];omega
  ·obtain rfl:i=l.length:=(by omega);rw [List.take_length]at hown;have hjl:(bI (l.map (aO · n))).length <= 1000000:=by
    have h1:=jQ (l.map (aO · n));have h2:=xS (aO · n) (fun x=>qi x n) l;have h3:=HH.out.lt;omega
   have hml:(l.map (aO · n)).length <= 1000000000:=(by rw [List.length_map];omega);obtain ⟨L,hL⟩:∃L,l.map (aO · n)=L:=⟨_,rfl⟩
   rw [hL]at hown hjl hml;have HL:=zh hL;obtain ⟨vao,vc,hv,_,_,_⟩:=ac hown;subst hv;have hj:=rR vao vc L w2 (cF hown).2.1 (by omega) hml;have HJ:=zh hj;have HB2:=zh hbw;clear hown hbw hjl hj hL hml;go_wp2_with fail;refine HJ.out.mono ?_;rintro e w' ⟨rfl,hw'⟩;obtain rfl:=hw'.symm;go_wp2_with fail;go_ret;exact ⟨by rw [HL.out];rfl,HB2.out⟩
theorem kh (s:ByteArray) (d:Nat) (h9:(9:UInt8)∉s.data.toList) (hs:s.size <= 1000000) (hd:d <= 1000) (w:World):
  Calls Tryz.prog 32 #[.string s,.int .i64 (d:Int)] w fun e w'=>e=.returned (.bool (bK d s.data.toList))∧w'=w:=by
 have hq:=qe s h9 hs;have hv:bK d s.data.toList=((bR s.data.toList).2&&decide (d<12)):=rfl;obtain ⟨q,is,hqi⟩:∃q is,bR s.data.toList=(q,is):=⟨_,_,rfl⟩
 rw [hqi]at hq hv;simp only at hq hv;have HQ0:=zh hq;have HV:=zh hv;clear hq hv hqi h9;go_enter Tryz.func32,Tryz.ntmps32
 go_wp2_with fail;refine (HQ0.out _).mono ?_;rintro e w' ⟨rfl,hw'⟩;obtain rfl:=hw'.symm;clear hw';cases is
 ·have HQ:=zh (show bK d s.data.toList=false by rw [HV.out];rfl);go_wp2_with fail;go_ret;exact ⟨by rw [HQ.out];try rfl,rfl⟩
 ·have HQ:=zh (show bK d s.data.toList=decide ((d:Int)<12) by
   rw [HV.out];by_cases h:d<12
   ·rw [decide_eq_true h,decide_eq_true (by omega)];rfl
   ·rw [decide_eq_false h,decide_eq_false (by omega)];rfl)
  go_wp2_with fail;go_ret;exact ⟨by rw [HQ.out];try rfl,rfl⟩
theorem ou (s:ByteArray) (d:Nat) (h9:(9:UInt8)∉s.data.toList) (hs:s.size <= 1000000) (hd:d <= 1000) (w:World):
  Calls Tryz.prog 34 #[.string s,.int .i64 (d:Int)] w fun e w'=>e=.returned (.bool (cw d s.data.toList))∧Below w.heap.size w w':=by
 have hq:=kN s h9 hs;have hv:cw d s.data.toList=((aj s.data.toList).2.2.2.2&&decide (d<11)):=rfl;obtain ⟨q1,q2,q3,q4,is,hqi⟩:∃a b c d e,aj s.data.toList=(a,b,c,d,e):=⟨_,_,_,_,_,rfl⟩
 rw [hqi]at hq hv;simp only at hq hv;have HQ0:=zh hq;have HV:=zh hv;clear hq hv hqi h9;go_enter Tryz.func34,Tryz.ntmps34
 have HB:=zh (Below.refl w.heap.size w);go_wp2_with fail;refine (HQ0.out _).mono ?_;rintro e w2 ⟨rfl,bb⟩;have HB2:=zh (aa (HB).out bb);clear bb;cases is
 ·have HQ:=zh (show cw d s.data.toList=false by rw [HV.out];rfl);go_wp2_with fail;go_ret;exact ⟨by rw [HQ.out];try rfl,(HB2).out⟩
 ·have HQ:=zh (show cw d s.data.toList=decide ((d:Int)<11) by
   rw [HV.out];by_cases h:d<11
   ·rw [decide_eq_true h,decide_eq_true (by omega)];rfl
   ·rw [decide_eq_false h,decide_eq_false (by omega)];rfl)
  go_wp2_with fail;go_ret;exact ⟨by rw [HQ.out];try rfl,(HB2).out⟩
theorem zC (s:ByteArray) (d:Nat) (h9:(9:UInt8)∉s.data.toList) (hs:s.size <= 1000000) (hsw:wt s.data.toList <= 1000000) (hd:d <= 1000) (w:World):
  Calls Tryz.prog 75 #[.string s,.int .i64 (d:Int)] w fun e w'=>e=.returned (.bool (dW d s.data.toList))∧Below w.heap.size w w':=by
 have hfe:=qd s h9 hs;have hhe:=mS s h9 hs;have hit:=kN s h9 hs;have hrw:=gE s.data.toList;have hbl:=cS s (by omega);have hru:=nK s h9 hs;have hqu:=kh s d h9 hs hd;have hli:=ou s d h9 hs hd;have hv:dW d s.data.toList=(af s.data.toList||(bq s.data.toList).2.2.2||(ck s.data.toList).2.2||cZ s.data.toList||bK d s.data.toList||(cw d s.data.toList&& !af (aj s.data.toList).2.2.2.1&&((aj s.data.toList).2.1== -1||(aj s.data.toList).2.1==1))):=rfl;obtain ⟨f1,f2,f3,F,he1⟩:∃a b c e,bq s.data.toList=(a,b,c,e):=⟨_,_,_,_,rfl⟩
 obtain ⟨h1,h2,H,he2⟩:∃a b e,ck s.data.toList=(a,b,e):=⟨_,_,_,rfl⟩
 obtain ⟨q1,v,q3,rest,q5,he3⟩:∃a b c d e,aj s.data.toList=(a,b,c,d,e):=⟨_,_,_,_,_,rfl⟩
 rw [he1]at hfe hv;rw [he2]at hhe hv;rw [he3]at hit hv hrw;simp only at hfe hhe hit hv hrw;obtain ⟨R,hR⟩:∃R,cZ s.data.toList=R:=⟨_,rfl⟩
 obtain ⟨BB,hBB⟩:∃R,af s.data.toList=R:=⟨_,rfl⟩
 obtain ⟨Q,hQ⟩:∃R,bK d s.data.toList=R:=⟨_,rfl⟩
 obtain ⟨L,hL⟩:∃R,cw d s.data.toList=R:=⟨_,rfl⟩
 rw [hR]at hru hv;rw [hBB]at hbl hv;rw [hQ]at hqu hv;rw [hL]at hli hv;obtain ⟨X,hX⟩:∃X:ByteArray,(⟨rest.toArray⟩:ByteArray)=X:=⟨_,rfl⟩
 have hXl:rest=X.data.toList:=(by rw [<- hX]);rw [hX]at hit;rw [hXl]at hrw hv;have hXz:X.size <= 1000000:=(by rw [Lib.size_eq];unfold wt at hrw hsw;omega);have hbr:=cS X (by omega);obtain ⟨BR,hBR⟩:∃R,af X.data.toList=R:=⟨_,rfl⟩
 rw [hBR]at hbr hv;have HFE:=zh hfe;have HHE:=zh hhe;have HIT:=zh hit;have HBL:=zh hbl;have HRU:=zh hru;have HQU:=zh hqu;have HLI:=zh hli;have HBR:=zh hbr;have HV:=zh hv;clear hfe hhe hit hbl hru hqu hli hbr hv he1 he2 he3 hR hBB hQ hL hX hXl hrw hBR h9;go_enter Tryz.func75,Tryz.ntmps75
 have HB:=zh (Below.refl w.heap.size w);go_wp2_with fail;refine (HFE.out _).mono ?_;rintro e w2 ⟨rfl,bb⟩;have HB2:=zh (aa (HB).out bb);clear bb;go_wp2_with fail;refine (HHE.out _).mono ?_;rintro e w' ⟨rfl,hw'⟩;obtain rfl:=hw'.symm;clear hw';go_wp2_with fail;refine (HIT.out _).mono ?_;rintro e w3 ⟨rfl,bb⟩;have HB3:=zh (aa (HB2).out bb);clear bb;go_wp2_with fail;refine (HBL.out _).mono ?_;rintro e w' ⟨rfl,hw'⟩;obtain rfl:=hw'.symm;clear hw';cases BB
 ·cases F
  ·cases H
   ·go_wp2_with fail;refine (HRU.out _).mono ?_;rintro e w4 ⟨rfl,bb⟩;have HB4:=zh (aa (HB3).out bb);clear bb;cases R
    ·go_wp2_with fail;refine (HQU.out _).mono ?_;rintro e w' ⟨rfl,hw'⟩;obtain rfl:=hw'.symm;clear hw';cases Q
     ·go_wp2_with fail;refine (HLI.out _).mono ?_;rintro e w5 ⟨rfl,bb⟩;have HB5:=zh (aa (HB4).out bb);clear bb;cases L
      ·have HQ:=zh (show dW d s.data.toList=false by rw [HV.out];simp);clear HV;go_wp2_with fail;go_ret;exact ⟨by rw [HQ.out];try rfl,(HB5).out⟩
      ·go_wp2_with fail;refine (HBR.out _).mono ?_;rintro e w' ⟨rfl,hw'⟩;obtain rfl:=hw'.symm;clear hw';cases BR
       ·by_cases hv1:v= -1
        ·have k1:(v== -1)=true:=(by rw [hv1];rfl);have HQ:=zh (show dW d s.data.toList=true by rw [HV.out,hv1];rfl);clear HV hv1;go_wp2_with fail;go_ret;exact ⟨by rw [HQ.out];try rfl,(HB5).out⟩
        ·have k1:(v== -1)=false:=(by simpa using hv1);have HQ:=zh (show dW d s.data.toList=(v==1) by rw [HV.out,k1];simp);clear HV hv1;go_wp2_with fail;go_ret;exact ⟨by rw [HQ.out];try rfl,(HB5).out⟩
       ·have HQ:=zh (show dW d s.data.toList=false by rw [HV.out];simp);clear HV;go_wp2_with fail;go_ret;exact ⟨by rw [HQ.out];try rfl,(HB5).out⟩
     ·have HQ:=zh (show dW d s.data.toList=true by rw [HV.out];simp);clear HV;go_wp2_with fail;go_ret;exact ⟨by rw [HQ.out];try rfl,(HB4).out⟩
    ·have HQ:=zh (show dW d s.data.toList=true by rw [HV.out];simp);clear HV;go_wp2_with fail;go_ret;exact ⟨by rw [HQ.out];try rfl,(HB4).out⟩
   ·have HQ:=zh (show dW d s.data.toList=true by rw [HV.out];simp);clear HV;go_wp2_with fail;go_ret;exact ⟨by rw [HQ.out];try rfl,(HB3).out⟩
  ·have HQ:=zh (show dW d s.data.toList=true by rw [HV.out];simp);clear HV;go_wp2_with fail;go_ret;exact ⟨by rw [HQ.out];try rfl,(HB3).out⟩
 ·have HQ:=zh (show dW d s.data.toList=true by rw [HV.out];simp);clear HV;go_wp2_with fail;go_ret;exact ⟨by rw [HQ.out];try rfl,(HB3).out⟩
theorem jP:∀(acc:List (List UInt8)) (x:List UInt8),acc≠[] ->bh (acc++[x])=bh acc++10::x
 |[],x,h=>absurd rfl h
 |[a],x,_=>rfl
 |a::b::t,x,_=>by
  show a++10::bh ((b::t)++[x])=(a++10::bh (b::t))++10::x;rw [jP (b::t) x (by simp)];simp
structure vx (w0 w:World):Prop where
 hp:w.heap[w0.heap.size]? =some (.cells #[.int .i64 0,.int .i64 0,.int .i64 0,.bool false,.string ⟨#[]⟩,.string ⟨#[]⟩] 45 (0,0))
 bw:Below w0.heap.size w0 w
theorem vx.below {w0 w w':World} (h:vx w0 w) (hb:Below w.heap.size w w'):vx w0 w':=⟨(hb.block w0.heap.size (Array.getElem?_eq_some_iff.1 h.hp).1).trans h.hp,aa h.bw hb⟩
theorem vx.cells {w0 w:World} (h:vx w0 w):w.cell? ⟨w0.heap.size,0,none⟩=some (.int .i64 0)∧w.cell? ⟨w0.heap.size,1,none⟩=some (.int .i64 0)∧w.cell? ⟨w0.heap.size,2,none⟩=some (.int .i64 0)∧w.cell? ⟨w0.heap.size,3,none⟩=some (.bool false)∧w.cell? ⟨w0.heap.size,4,none⟩=some (.string ⟨#[]⟩)∧w.cell? ⟨w0.heap.size,5,none⟩=some (.string ⟨#[]⟩)∧
  w.frozen? ⟨w0.heap.size,0,none⟩=false∧w.frozen? ⟨w0.heap.size,1,none⟩=false∧w.frozen? ⟨w0.heap.size,2,none⟩=false∧w.frozen? ⟨w0.heap.size,3,none⟩=false∧w.frozen? ⟨w0.heap.size,4,none⟩=false∧w.frozen? ⟨w0.heap.size,5,none⟩=false:=by
 refine ⟨?_,?_,?_,?_,?_,?_,frozen_of_row w w0.heap.size 0 _ _ h.hp,frozen_of_row w w0.heap.size 1 _ _ h.hp,frozen_of_row w w0.heap.size 2 _ _ h.hp,frozen_of_row w w0.heap.size 3 _ _ h.hp,frozen_of_row w w0.heap.size 4 _ _ h.hp,frozen_of_row w w0.heap.size 5 _ _ h.hp⟩<;>(rw [cell_of_row w w0.heap.size _ _ _ _ h.hp];rfl)
theorem m0 {B:Nat} {w W:World} {k:Nat} {u0 u1 u2 u3 u4 u5:Value} (h:Below B w W) (hk:B <= k):Below B w ((((((W.setCell ⟨k,0,none⟩ u0).setCell ⟨k,1,none⟩ u1).setCell ⟨k,2,none⟩ u2).setCell ⟨k,3,none⟩ u3).setCell ⟨k,4,none⟩ u4).setCell ⟨k,5,none⟩ u5):=
 (((((h.setCell (p:=⟨k,0,none⟩) hk u0).setCell (p:=⟨k,1,none⟩) hk u1).setCell (p:=⟨k,2,none⟩) hk u2).setCell (p:=⟨k,3,none⟩) hk u3).setCell (p:=⟨k,4,none⟩) hk u4).setCell (p:=⟨k,5,none⟩) hk u5
theorem y6 {d U k:Nat} {q:List (List UInt8)×Nat×Nat} {acc:List (List UInt8)} {T:ByteArray} (hq:q=(acc,U,k)) (hU:0<U) (hT:T.data.toList=bh acc):
  (Ending.returned (.tuple #[.agg #[.int .i64 2,.int .i64 (d:Int),.int .i64 (U:Int),.bool false,.string ⟨(ai ag T.data.toList).toArray⟩,.string ⟨#[]⟩],.int .i64 (k:Int)]))=.returned (.tuple #[yb (jm d q),.int .i64 (q.2.2:Int)]):=by
 subst hq;unfold jm;rw [if_pos hU,hT];rfl
theorem rD {d k:Nat} {q:List (List UInt8)×Nat×Nat} {acc:List (List UInt8)} {T:ByteArray} (hq:q=(acc,0,k)) (hT:T.data.toList=bh acc):
  (Ending.returned (.tuple #[.agg #[.int .i64 1,.int .i64 (d:Int),.int .i64 0,.bool false,.string ⟨(ai ag T.data.toList).toArray⟩,.string ⟨#[]⟩],.int .i64 (k:Int)]))=.returned (.tuple #[yb (jm d q),.int .i64 (q.2.2:Int)]):=by
 subst hq;unfold jm;rw [if_neg (by simp),hT];rfl
theorem zF {w:World} {ao:Option Addr} {cap:Nat} {ls:List (List UInt8)} (d:Nat) (h:jp w ao cap ls) (hd:d <= 1000):
  Calls Tryz.prog 38 #[.slice ao ls.length cap,.int .i64 (d:Int)] w fun e w'=>e=.returned (.tuple #[yb (jm d (bz d ls [] 0)),.int .i64 ((bz d ls [] 0).2.2:Int)])∧Below w.heap.size w w':=by
 obtain ⟨q,hq⟩:∃q,bz d ls [] 0=q:=⟨_,rfl⟩
 rw [hq];have HQ0:=zh hq;have hll:=h.ll;have hlt0:=h.lt;have HH:=zh h;clear hq h;go_enter Tryz.func38,Tryz.ntmps38
 go_upto_region 1 with (fail)
 have hb1:=(Below.refl w.heap.size w).alloc (Nat.le_refl _) (.cells #[.int .i64 0,.int .i64 0,.int .i64 0,.bool false,.string ⟨#[]⟩,.string ⟨#[]⟩] 45);have hk:(w.alloc (.cells #[.int .i64 0,.int .i64 0,.int .i64 0,.bool false,.string ⟨#[]⟩,.string ⟨#[]⟩] 45)).heap[w.heap.size]? =some (.cells #[.int .i64 0,.int .i64 0,.int .i64 0,.bool false,.string ⟨#[]⟩,.string ⟨#[]⟩] 45 (0,0)):=heap_alloc_new w _;obtain ⟨W,hW⟩:∃W,w.alloc (.cells #[.int .i64 0,.int .i64 0,.int .i64 0,.bool false,.string ⟨#[]⟩,.string ⟨#[]⟩] 45)=W:=⟨_,rfl⟩
 rw [hW]at hb1 hk⊢;clear hW;have HZ0:=zh (show vx w W from ⟨hk,hb1⟩);clear hb1 hk;go_wp2_with fail;go_loopw [6,7] (fun ut ui wr=>∃(i:Nat) (T:ByteArray) (acc:List (List UInt8)),vx w wr∧i <= ls.length∧ut=.string T∧ui=.int .i64 i∧T.size <= 1000000∧Hid (T.data.toList=bh acc∧acc.length=i∧tot acc+tot (ls.drop i) <= tot ls∧bz d (ls.drop i) acc i=q)) (fun _ ui _=>ls.length - (intOf ui).toNat)
 case atStart=>exact ⟨0,⟨#[]⟩,[],HZ0.out,Nat.zero_le _,rfl,rfl,by decide,zh ⟨rfl,rfl,by rw [List.drop_zero];simp [tot],by rw [List.drop_zero];exact HQ0.out⟩⟩
 case round=>
  rename World=>wx
  obtain ⟨i,T,acc,hzb,hi,rfl,rfl,hTz,HR⟩:=hrel;have HZ:=zh hzb;have HL:=zh (HH.out.below hzb.bw);clear hzb HZ0;have hta:=zI T (by omega);have HTA:=zh hta;clear hta;by_cases hlt:i<ls.length
  ·have hltI:(i:Int)<(ls.length:Int):=(by omega);obtain ⟨g,o,rfl⟩:=HL.out.addr (by omega);obtain ⟨X,hx,hcl,hXz,hX9,hXw⟩:=HL.out.line i hlt;have hun:=wW X hX9 hXz;have hen:=zC X d hX9 hXz hXw hd;obtain ⟨U,hU⟩:∃U,da X.data.toList=U:=⟨_,rfl⟩
   obtain ⟨E,hE⟩:∃E,dW d X.data.toList=E:=⟨_,rfl⟩
   rw [hU]at hun;rw [hE]at hen;have HUN:=zh hun;have HEN:=zh hen;have HUE:=zh (And.intro hU hE);have HX:=zh hx;have HTOT:=zh (show (acc=[]∨¬0<U∧E=false) ->(tot (acc++[ab X.data.toList])+tot (ls.drop (i+1)) <= tot ls∧bz d (ls.drop (i+1)) (acc++[ab X.data.toList]) (i+1)=q)∧(bh (acc++[ab X.data.toList])).length <= 1000000 from fun hc=>by
    have h1:=HR.out.2.2.1;have h2:=HR.out.2.2.2;rw [ns hx (by rw [hU,hE];exact hc)]at h2;have h3:tot (ls.drop i)=wt X.data.toList+1+tot (ls.drop (i+1)):=(by rw [eD hx];unfold tot;rw [List.map_cons,List.sum_cons]);have h4:wt (ab X.data.toList) <= wt X.data.toList:=ev _ _;have h5:tot (acc++[ab X.data.toList])=tot acc+(wt (ab X.data.toList)+1):=(by rw [oN];simp [tot]);have h6:=gg (acc++[ab X.data.toList]);refine ⟨⟨by omega,h2⟩,by omega⟩)
   clear hun hen hU hE hx hX9 hXw;by_cases hi0:0<i
   ·have q1:(0:Int)<(i:Int):=(by omega);have HANE:=zh (show acc≠[]from fun e=>by have:=HR.out.2.1;rw [e]at this;simp at this;omega);by_cases hU0:0<U
    ·have hU1:(0:Int)<(U:Int):=(by omega);have HF:=zh (show q=(acc,U,i+1) by
      have h2:=HR.out.2.2.2;rw [pH HX.out HANE.out (by rw [HUE.out.1];exact hU0),HUE.out.1]at h2;exact h2.symm)
     clear HTOT HEN;go_wp2_with fail;refine (HUN.out _).mono ?_;rintro e w' ⟨rfl,hw'⟩;obtain rfl:=hw'.symm;go_wp2_with fail;refine (HUN.out _).mono ?_;rintro e w' ⟨rfl,hw'⟩;obtain rfl:=hw'.symm;go_wp2_with fail;refine (HTA.out _).mono ?_;rintro e w' ⟨rfl,hw'⟩;obtain rfl:=hw'.symm;obtain ⟨c0,c1,c2,c3,c4,c5,f0,f1,f2,f3,f4,f5⟩:=HZ.out.cells;go_wp2_with fail;refine bodyPost_ret (v:=.tuple #[(.agg #[.int .i64 2,.int .i64 (d:Int),.int .i64 (U:Int),.bool false,.string ⟨(ai ag T.data.toList).toArray⟩,.string ⟨#[]⟩]),.int .i64 ((i+1:Nat):Int)]) (by simp [results,Tryz.results38,go_sem,c0,c1,c2,c3,c4,c5,f0,f1,f2,f3,f4,f5]) rfl ⟨(y6 HF.out hU0 HR.out.1),m0 HZ.out.bw (Nat.le_refl _)⟩
    ·have hU1:¬(0:Int)<(U:Int):=(by omega);cases E
     ·have HP:=zh (show tot (acc++[ab X.data.toList])+tot (ls.drop (i+1)) <= tot ls∧bz d (ls.drop (i+1)) (acc++[ab X.data.toList]) (i+1)=q∧(bh (acc++[ab X.data.toList])).length <= 1000000 by
       obtain ⟨⟨a1,a2⟩,a3⟩:=HTOT.out (Or.inr ⟨hU0,rfl⟩);exact ⟨a1,a2,a3⟩)
      clear HTOT;go_wp2_with fail;refine (HUN.out _).mono ?_;rintro e w' ⟨rfl,hw'⟩;obtain rfl:=hw'.symm;go_wp2_with fail;refine (HEN.out _).mono ?_;rintro e wy ⟨rfl,bb⟩;have HZ2:=zh (HZ.out.below bb);have hcl2:=(bb.cell (p:=⟨g,o+i,none⟩) (World.block_lt_of_cell? _ _ hcl)).trans hcl;clear bb HZ hcl;have HZ:=HZ2;have hcl:=hcl2;clear HZ2 hcl2;clear HUN HEN;go_wp2_with fail;go_loop [8] (fun us=>∃S:ByteArray,us=.string S∧S.size <= X.size∧Hid (ab S.data.toList=ab X.data.toList)) (fun us=>zN us)
      case atStart=>exact ⟨X,rfl,Nat.le_refl _,zh rfl⟩
      case round=>
       obtain ⟨S,rfl,hSz,HS⟩:=hrel;by_cases h0:0<S.size
       ·have he:=aX h0;have hda:=bP S 0 h0;obtain ⟨y,hy⟩:∃y,S[0]=y:=⟨_,rfl⟩
        rw [hy,List.drop_zero,Nat.zero_add]at hda;have hgp:=d8 y;obtain ⟨b,hb⟩:∃b,ag y=b:=⟨_,rfl⟩
        rw [hb]at hgp;have HG:=zh hgp;cases b
        ·have HSX:=zh (lT HS.out hda hb);clear hda hb hgp HS;go_wp2_with fail;refine (HG.out _).mono ?_;rintro e w' ⟨rfl,hw'⟩;obtain rfl:=hw'.symm;have HN:=zh (show (T++(⟨#[10]⟩:ByteArray)++S).data.toList=bh (acc++[ab X.data.toList])∧(bh (acc++[ab X.data.toList])).length <= 1000000 from ⟨by
          rw [jP _ _ HANE.out,ByteArray.data_append,Array.toList_append,ByteArray.data_append,Array.toList_append,HR.out.1,HSX.out];simp,HP.out.2.2⟩)
         have HP:=zh (And.intro HP.out.1 HP.out.2.1);clear HSX;clear hcl;go_wp2_with fail;go_roundw;case rel=>exact ⟨i+1,_,acc++[ab X.data.toList],HZ.out,by omega,rfl,by go_num,by rw [Lib.size_eq,HN.out.1];exact HN.out.2,zh ⟨HN.out.1,by rw [List.length_append,HR.out.2.1];rfl,HP.out.1,HP.out.2⟩⟩
         case measure=>simp [intOf];omega
        ·have HSX:=zh (kj HS.out hda hb);clear hda hb hgp HS;go_wp2_with fail;refine (HG.out _).mono ?_;rintro e w' ⟨rfl,hw'⟩;obtain rfl:=hw'.symm;go_wp2_with fail;go_round;case rel=>exact ⟨_,rfl,by rw [Lib.size_eq,Lib.extract_to_end];simp;omega,zh (by rw [Lib.extract_to_end];exact HSX.out)⟩
         case measure=>simp only [zN];rw [Lib.size_eq,Lib.extract_to_end];simp;omega
       ·have he:=aS (s:=S) (by omega);have HSX:=zh (show S.data.toList=ab X.data.toList by rw [<- HS.out,bG S (by omega)];rfl);clear HS;have HN:=zh (show (T++(⟨#[10]⟩:ByteArray)++S).data.toList=bh (acc++[ab X.data.toList])∧(bh (acc++[ab X.data.toList])).length <= 1000000 from ⟨by
         rw [jP _ _ HANE.out,ByteArray.data_append,Array.toList_append,ByteArray.data_append,Array.toList_append,HR.out.1,HSX.out];simp,HP.out.2.2⟩)
        have HP:=zh (And.intro HP.out.1 HP.out.2.1);clear HSX;clear hcl;go_wp2_with fail;go_roundw;case rel=>exact ⟨i+1,_,acc++[ab X.data.toList],HZ.out,by omega,rfl,by go_num,by rw [Lib.size_eq,HN.out.1];exact HN.out.2,zh ⟨HN.out.1,by rw [List.length_append,HR.out.2.1];rfl,HP.out.1,HP.out.2⟩⟩
        case measure=>simp [intOf];omega
     ·have HF:=zh (show q=(acc,0,i) by
       have h2:=HR.out.2.2.2;rw [rC HX.out HANE.out (by rw [HUE.out.1];exact hU0) HUE.out.2]at h2;exact h2.symm)
      clear HTOT;go_wp2_with fail;refine (HUN.out _).mono ?_;rintro e w' ⟨rfl,hw'⟩;obtain rfl:=hw'.symm;go_wp2_with fail;refine (HEN.out _).mono ?_;rintro e wy ⟨rfl,bb⟩;have HZ2:=zh (HZ.out.below bb);have hcl2:=(bb.cell (p:=⟨g,o+i,none⟩) (World.block_lt_of_cell? _ _ hcl)).trans hcl;clear bb HZ hcl;have HZ:=HZ2;have hcl:=hcl2;clear HZ2 hcl2;go_wp2_with fail;refine (HTA.out _).mono ?_;rintro e w' ⟨rfl,hw'⟩;obtain rfl:=hw'.symm;obtain ⟨c0,c1,c2,c3,c4,c5,f0,f1,f2,f3,f4,f5⟩:=HZ.out.cells;go_wp2_with fail;refine bodyPost_ret (v:=.tuple #[(.agg #[.int .i64 1,.int .i64 (d:Int),.int .i64 0,.bool false,.string ⟨(ai ag T.data.toList).toArray⟩,.string ⟨#[]⟩]),.int .i64 (i:Int)]) (by simp [results,Tryz.results38,go_sem,c0,c1,c2,c3,c4,c5,f0,f1,f2,f3,f4,f5]) rfl ⟨(rD HF.out HR.out.1),m0 HZ.out.bw (Nat.le_refl _)⟩
   ·have q1:¬(0:Int)<(i:Int):=(by omega);have HP:=zh (show tot (acc++[ab X.data.toList])+tot (ls.drop (i+1)) <= tot ls∧bz d (ls.drop (i+1)) (acc++[ab X.data.toList]) (i+1)=q∧(bh (acc++[ab X.data.toList])).length <= 1000000 by
     obtain ⟨⟨a1,a2⟩,a3⟩:=HTOT.out (Or.inl (List.eq_nil_of_length_eq_zero (by have:=HR.out.2.1;omega)));exact ⟨a1,a2,a3⟩)
    clear HTOT;clear HUN HEN;go_wp2_with fail;go_loop [8] (fun us=>∃S:ByteArray,us=.string S∧S.size <= X.size∧Hid (ab S.data.toList=ab X.data.toList)) (fun us=>zN us)
    case atStart=>exact ⟨X,rfl,Nat.le_refl _,zh rfl⟩
    case round=>
     obtain ⟨S,rfl,hSz,HS⟩:=hrel;by_cases h0:0<S.size
     ·have he:=aX h0;have hda:=bP S 0 h0;obtain ⟨y,hy⟩:∃y,S[0]=y:=⟨_,rfl⟩
      rw [hy,List.drop_zero,Nat.zero_add]at hda;have hgp:=d8 y;obtain ⟨b,hb⟩:∃b,ag y=b:=⟨_,rfl⟩
      rw [hb]at hgp;have HG:=zh hgp;cases b
      ·have HSX:=zh (lT HS.out hda hb);clear hda hb hgp HS;go_wp2_with fail;refine (HG.out _).mono ?_;rintro e w' ⟨rfl,hw'⟩;obtain rfl:=hw'.symm;have HN:=zh (show (T++S).data.toList=bh (acc++[ab X.data.toList])∧(bh (acc++[ab X.data.toList])).length <= 1000000 from ⟨by
        have ha:acc=[]:=List.eq_nil_of_length_eq_zero (by have:=HR.out.2.1;omega);have hT:=HR.out.1;rw [ha]at hT⊢;rw [ByteArray.data_append,Array.toList_append,hT,HSX.out];rfl,HP.out.2.2⟩)
       have HP:=zh (And.intro HP.out.1 HP.out.2.1);clear HSX;clear hcl;go_wp2_with fail;go_roundw;case rel=>exact ⟨i+1,_,acc++[ab X.data.toList],HZ.out,by omega,rfl,by go_num,by rw [Lib.size_eq,HN.out.1];exact HN.out.2,zh ⟨HN.out.1,by rw [List.length_append,HR.out.2.1];rfl,HP.out.1,HP.out.2⟩⟩
       case measure=>simp [intOf];omega
      ·have HSX:=zh (kj HS.out hda hb);clear hda hb hgp HS;go_wp2_with fail;refine (HG.out _).mono ?_;rintro e w' ⟨rfl,hw'⟩;obtain rfl:=hw'.symm;go_wp2_with fail;go_round;case rel=>exact ⟨_,rfl,by rw [Lib.size_eq,Lib.extract_to_end];simp;omega,zh (by rw [Lib.extract_to_end];exact HSX.out)⟩
       case measure=>simp only [zN];rw [Lib.size_eq,Lib.extract_to_end];simp;omega
     ·have he:=aS (s:=S) (by omega);have HSX:=zh (show S.data.toList=ab X.data.toList by rw [<- HS.out,bG S (by omega)];rfl);clear HS;have HN:=zh (show (T++S).data.toList=bh (acc++[ab X.data.toList])∧(bh (acc++[ab X.data.toList])).length <= 1000000 from ⟨by
       have ha:acc=[]:=List.eq_nil_of_length_eq_zero (by have:=HR.out.2.1;omega);have hT:=HR.out.1;rw [ha]at hT⊢;rw [ByteArray.data_append,Array.toList_append,hT,HSX.out];rfl,HP.out.2.2⟩)
      have HP:=zh (And.intro HP.out.1 HP.out.2.1);clear HSX;clear hcl;go_wp2_with fail;go_roundw;case rel=>exact ⟨i+1,_,acc++[ab X.data.toList],HZ.out,by omega,rfl,by go_num,by rw [Lib.size_eq,HN.out.1];exact HN.out.2,zh ⟨HN.out.1,by rw [List.length_append,HR.out.2.1];rfl,HP.out.1,HP.out.2⟩⟩
      case measure=>simp [intOf];omega
  ·obtain rfl:i=ls.length:=(by omega);have qI:¬(ls.length:Int)<(ls.length:Int):=(by omega);have HF:=zh (show q=(acc,0,ls.length) by
    have h2:=HR.out.2.2.2;rw [uw]at h2;exact h2.symm)
   go_wp2_with fail;refine (HTA.out _).mono ?_;rintro e w' ⟨rfl,hw'⟩;obtain rfl:=hw'.symm;obtain ⟨c0,c1,c2,c3,c4,c5,f0,f1,f2,f3,f4,f5⟩:=HZ.out.cells;go_wp2_with fail;refine bodyPost_ret (v:=.tuple #[(.agg #[.int .i64 1,.int .i64 (d:Int),.int .i64 0,.bool false,.string ⟨(ai ag T.data.toList).toArray⟩,.string ⟨#[]⟩]),.int .i64 (ls.length:Int)]) (by simp [results,Tryz.results38,go_sem,c0,c1,c2,c3,c4,c5,f0,f1,f2,f3,f4,f5]) rfl ⟨(rD HF.out HR.out.1),m0 HZ.out.bw (Nat.le_refl _)⟩
theorem xG {d:UInt8} {l:List UInt8} (h:(9:UInt8)∉l):(9:UInt8)∉(bf d l).1:=by
 cases l with
 |nil=>intro e;cases e
 |cons c t=>
  rw [gp];split
  ·exact fun e=>h (List.mem_cons_of_mem _ e)
  ·exact h
theorem y9 {s:List UInt8} (h:(9:UInt8)∉s):(9:UInt8)∉(bR s).1:=by
 unfold bR;split
 ·exact xG (xG (uI h))
 ·intro e;cases e
theorem pP:∀{l:List (List UInt8)},(∀s∈l,(9:UInt8)∉s) ->∀s∈az l,(9:UInt8)∉s
 |[],_,s,hs=>by cases hs
 |x::t,h,s,hs=>by
  rw [az]at hs;split at hs
  ·rcases List.mem_cons.1 hs with rfl|hs
   ·exact y9 (h x (List.mem_cons_self ..))
   ·exact pP (fun y hy=>h y (List.mem_cons_of_mem _ hy)) s hs
  ·cases hs
theorem AG {s:List UInt8} (h:(9:UInt8)∉s):(9:UInt8)∉(aj s).2.2.2.1:=by
 have hn:(9:UInt8)∉([]:List UInt8):=fun e=>by cases e
 unfold aj;simp only;split
 ·exact hn
 ·split
  ·exact hn
  ·split
   ·exact hn
   ·split
    ·exact hn
    ·exact iR (iR (uI h) _) _
theorem lF (col:Nat):∀(l:List (List UInt8)) (i m j:Nat) (x:List UInt8),(aW col l i m).1[j]? =some x ->∃s,l[j]? =some s∧x=aO s col
 |[],i,m,j,x,h=>by rw [aW]at h;cases h
 |s::t,i,m,j,x,h=>by
  rw [aW]at h;split at h
  ·cases j with
   |zero=>exact ⟨s,rfl,(Option.some.inj h).symm⟩
   |succ j=>exact lF col t _ _ j x h
  ·cases h
theorem vU {col:Nat} {l:List (List UInt8)} {i m:Nat} (h:∀s∈l,(9:UInt8)∉s):∀x∈(aW col l i m).1,(9:UInt8)∉x:=fun x hx=>by
 obtain ⟨j,hj⟩:=List.mem_iff_getElem?.1 hx;obtain ⟨s,hs,rfl⟩:=lF col l i m j x hj;exact zu (h s (List.mem_of_getElem? hs)) _
theorem uq {V:Nat ->List (List UInt8) ->List ak} {d i:Nat} {ls:List (List UInt8)} {s:List UInt8} (h:ls[i]? =some s) (h1:af s=true):bC V d (ls.drop i)=([],1):=by
 unfold bC;simp only;rw [ct h,if_pos h1]
theorem Cv {V:Nat ->List (List UInt8) ->List ak} {d i:Nat} {ls:List (List UInt8)} {s:List UInt8} (h:ls[i]? =some s) (h1:af s=false) (h2:4 <= aw s):
  bC V d (ls.drop i)=([eC d [] ((ls.drop i).take (au (ls.drop i) 0 0)) 4],au (ls.drop i) 0 0):=by
 unfold bC;simp only;rw [ct h,if_neg (by rw [h1];simp),if_pos h2]
theorem A3 {V:Nat ->List (List UInt8) ->List ak} {d i n:Nat} {ls:List (List UInt8)} {s info:List UInt8} {c:UInt8} (h:ls[i]? =some s) (h1:af s=false) (h2:¬4 <= aw s) (h3:bq s=(c,n,info,true)):
  bC V d (ls.drop i)=([eC d info ((ls.drop (i+1)).take ((ls.drop (i+1)).takeWhile fun x=> !bO x c n).length) (aw s)],((ls.drop (i+1)).takeWhile fun x=> !bO x c n).length+2):=by
 unfold bC;simp only;rw [ct h,if_neg (by rw [h1];simp),if_neg h2,if_pos (by rw [h3]),h3,List.drop_drop]
theorem Cw {V:Nat ->List (List UInt8) ->List ak} {d i n:Nat} {ls:List (List UInt8)} {s t:List UInt8} (h:ls[i]? =some s) (h1:af s=false) (h2:¬4 <= aw s) (h3:(bq s).2.2.2=false) (h4:ck s=(n,t,true)):
  bC V d (ls.drop i)=([⟨2,d,n,false,t,[]⟩],1):=by
 unfold bC;simp only;rw [ct h,if_neg (by rw [h1];simp),if_neg h2,if_neg (by rw [h3];simp),if_pos (by rw [h4]),h4]
theorem CA {V:Nat ->List (List UInt8) ->List ak} {d i:Nat} {ls:List (List UInt8)} {s:List UInt8} (h:ls[i]? =some s) (h1:af s=false) (h2:¬4 <= aw s) (h3:(bq s).2.2.2=false) (h4:(ck s).2.2=false) (h5:cZ s=true):
  bC V d (ls.drop i)=([⟨7,d,0,false,[],[]⟩],1):=by
 unfold bC;simp only;rw [ct h,if_neg (by rw [h1];simp),if_neg h2,if_neg (by rw [h3];simp),if_neg (by rw [h4];simp),if_pos h5]
theorem A4 {V:Nat ->List (List UInt8) ->List ak} {d i:Nat} {ls:List (List UInt8)} {s:List UInt8} (h:ls[i]? =some s) (h1:af s=false) (h2:¬4 <= aw s) (h3:(bq s).2.2.2=false) (h4:(ck s).2.2=false) (h5:cZ s=false) (h6:bK d s=true):
  bC V d (ls.drop i)=(⟨3,d,0,false,[],[]⟩::V (d+1) (az (ls.drop i)),(az (ls.drop i)).length):=by
 unfold bC;simp only;rw [ct h,if_neg (by rw [h1];simp),if_neg h2,if_neg (by rw [h3];simp),if_neg (by rw [h4];simp),if_neg (by rw [h5];simp),if_pos h6]
theorem Cy {V:Nat ->List (List UInt8) ->List ak} {d i:Nat} {ls:List (List UInt8)} {s:List UInt8} (h:ls[i]? =some s) (h1:af s=false) (h2:¬4 <= aw s) (h3:(bq s).2.2.2=false) (h4:(ck s).2.2=false) (h5:cZ s=false) (h6:bK d s=false) (h7:cw d s=true):
  bC V d (ls.drop i)=(⟨4,d,(aj s).2.1,((ls.drop i).take (aJ V d (aj s).1 (ls.drop i) ((ls.drop i).length+1) 0 0).2).all (fun x=> !af x),[],[(aj s).1]⟩::(aJ V d (aj s).1 (ls.drop i) ((ls.drop i).length+1) 0 0).1,(aJ V d (aj s).1 (ls.drop i) ((ls.drop i).length+1) 0 0).2):=by
 unfold bC;simp only;rw [ct h,if_neg (by rw [h1];simp),if_neg h2,if_neg (by rw [h3];simp),if_neg (by rw [h4];simp),if_neg (by rw [h5];simp),if_neg (by rw [h6];simp),if_pos h7]
theorem Cx {V:Nat ->List (List UInt8) ->List ak} {d i:Nat} {ls:List (List UInt8)} {s:List UInt8} (h:ls[i]? =some s) (h1:af s=false) (h2:¬4 <= aw s) (h3:(bq s).2.2.2=false) (h4:(ck s).2.2=false) (h5:cZ s=false) (h6:bK d s=false) (h7:cw d s=false) (h8:ef s=true):
  bC V d (ls.drop i)=([⟨8,d,0,false,bI ((ls.drop i).take (jb (ls.drop i))),[]⟩],jb (ls.drop i)):=by
 unfold bC;simp only;rw [ct h,if_neg (by rw [h1];simp),if_neg h2,if_neg (by rw [h3];simp),if_neg (by rw [h4];simp),if_neg (by rw [h5];simp),if_neg (by rw [h6];simp),if_neg (by rw [h7];simp),if_pos h8];rfl
theorem Cz {V:Nat ->List (List UInt8) ->List ak} {d i:Nat} {ls:List (List UInt8)} {s:List UInt8} (h:ls[i]? =some s) (h1:af s=false) (h2:¬4 <= aw s) (h3:(bq s).2.2.2=false) (h4:(ck s).2.2=false) (h5:cZ s=false) (h6:bK d s=false) (h7:cw d s=false) (h8:ef s=false):
  bC V d (ls.drop i)=([jm d (bz d (ls.drop i) [] 0)],(bz d (ls.drop i) [] 0).2.2):=by
 unfold bC jm;simp only;rw [ct h,if_neg (by rw [h1];simp),if_neg h2,if_neg (by rw [h3];simp),if_neg (by rw [h4];simp),if_neg (by rw [h5];simp),if_neg (by rw [h6];simp),if_neg (by rw [h7];simp),if_neg (by rw [h8];simp)]
structure oD (ls:List (List UInt8)) (d:Nat) (Q:List ak) (i:Nat) (acc:List ak):Prop where
 bd:acc.length <= 28*min i ls.length
 ex:∃f,ls.length<i+f∧acc++c7 am f d (ls.drop i)=Q
theorem oD.start (ls:List (List UInt8)) (d:Nat):oD ls d (am d ls) 0 []:=⟨Nat.zero_le _,ls.length+1,by omega,by rw [List.drop_zero,List.nil_append];exact (gz d ls).symm⟩
theorem oD.step {ls:List (List UInt8)} {d:Nat} {Q:List ak} {i:Nat} {acc:List ak} (h:oD ls d Q i acc) (hd:d <= 12) (hi:i<ls.length) {bs:List ak} {n:Nat} (hn:bC am d (ls.drop i)=(bs,n)):1 <= n∧oD ls d Q (i+n) (acc++bs)∧(acc++bs).length <= 28000000+28*ls.length:=by
 obtain ⟨bd,f,hf,ex⟩:=h;obtain ⟨f,rfl⟩:∃f',f=f'+1:=⟨f - 1,by omega⟩
 have hne:ls.drop i≠[]:=fun e=>by have:=congrArg List.length e;simp at this;omega
 have hnb:=jU am d (ls.drop i) hne hd (fun h=>bQ (11 - d) (d+1) (by omega)) (fun h=>bQ (10 - d) (d+2) (by omega));rw [vz hi]at ex;rw [hn,List.length_drop]at hnb;rw [hn]at ex;simp only at hnb ex;have hm:(28 - 2*d)*min n (ls.length - i) <= 28*min n (ls.length - i):=Nat.mul_le_mul_right _ (by omega);have hl:(acc++bs).length <= 28*min (i+n) ls.length:=(by rw [List.length_append];omega);exact ⟨hnb.1,⟨hl,f,by omega,by rw [List.append_assoc];exact ex⟩,by omega⟩
theorem oD.stop {ls:List (List UInt8)} {d:Nat} {Q:List ak} {i:Nat} {acc:List ak} (h:oD ls d Q i acc) (hi:ls.length <= i):acc=Q:=by
 obtain ⟨_,f,_,ex⟩:=h;rw [r8 hi,List.append_nil]at ex;exact ex
theorem nC {B B2:Nat} {w w':World} {v u:Value} {l:List (List UInt8)} {out:List ak} (h:al B w v l) (ho:aD B2 w u out) (hg:w.grownBy w' u.ownBlock):al B w' v l:=World.ownsRow.kept h hg (aV h ho (by decide))
theorem qE {B B2:Nat} {w w':World} {v u:Value} {l:List (List UInt8)} {out:List ak} (h:aD B w u out) (ho:al B2 w v l) (hg:w.grownBy w' v.ownBlock):aD B w' u out:=World.ownsRow.kept h hg (aV h ho (by decide))
theorem cY {B:Nat} {w w':World} {u:Value} {out:List ak} (h:aD B w u out) (hb:Below w.heap.size w w'):aD B w' u out:=ah h hb
theorem tk {B:Nat} {w:World} {v:Value} {l l2:List ak} (h:w.ownsRow B 45 6 v (l.length+l2.length) (l.flatMap aL++l2.flatMap aL)):aD B w v (l++l2):=by
 unfold aD;rw [List.length_append,List.flatMap_append];exact h
theorem nD {B:Nat} {w:World} {v:Value} {l:List (List UInt8)} (h:al B w v l) (ht:tot l <= 1000000) (h9:∀s∈l,(9:UInt8)∉s):∃ao c,v=.slice ao l.length c∧jp w ao c l:=by
 obtain ⟨ao,c,hv,hr,_,hc⟩:=ac h;exact ⟨ao,c,hv,hr,hc,ht,h9⟩
theorem fh {B:Nat} {w:World} {q n cap:Nat} {x:ak} {acc:List ak} (h:aD B w (.slice (some ⟨q,0,none⟩) n cap) (x::acc)) (t:Bool):
  aD B (w.setCell ⟨q,3,none⟩ (.bool t)) (.slice (some ⟨q,0,none⟩) n cap) ({x with tight:=t}::acc)∧B <= q∧w.frozen? ⟨q,3,none⟩=false∧w.cell? ⟨q,3,none⟩=some (.bool x.tight):=by
 have hn:n=(x::acc).length:=(cF h).1;subst hn;have hst:=(World.ownsRow.stored h (0*6+3) (.bool t)).1;rw [jJ aL 6 kt (x::acc) 0 3 x {x with tight:=t} (.bool t) rfl (by omega) rfl]at hst;refine ⟨hst,(World.ownsRow.lt h q rfl).1,World.ownsRow.frozenAt h 3,?_⟩;have hco:=bL.cell (f:=aL) (k:=6) (cF h).2.1 kt 0 3 x _ rfl (by omega) rfl;simpa using hco
theorem m8 {B:Nat} {w:World} {u:Value} {x:ak} {acc:List ak} (h:aD B w u (x::acc)):∃q c,u=.slice (some ⟨q,0,none⟩) (x::acc).length c:=by
 rcases h.2 with ⟨_,h⟩|⟨g,c,cur,h,_⟩
 ·cases h
 ·exact ⟨g,c,h⟩
def vr (d:Nat):Prop:=∀(w:World) (ao:Option Addr) (cap:Nat) (ls:List (List UInt8)),jp w ao cap ls ->
 Calls Tryz.prog 9 #[.slice ao ls.length cap,.int .i64 (d:Int)] w fun e w'=>∃v,e=.returned v∧aD w.heap.size w' v (am d ls)∧Below w.heap.size w w'
end Go.Proofs.YtcannffahjbjnaaGreatDoor
