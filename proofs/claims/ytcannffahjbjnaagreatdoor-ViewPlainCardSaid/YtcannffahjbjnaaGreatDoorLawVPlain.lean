/-
  LawVPlain: a part of the proof.
-/
import Derived.Test.YtcannffahjbjnaaGreatDoorVwBZg
import Derived.Test.YtcannffahjbjnaaGreatDoorVwBZh
import Derived.Test.YtcannffahjbjnaaGreatDoorVwBZa
import Derived.Test.YtcannffahjbjnaaGreatDoorVwBZ
set_option linter.unusedVariables false
set_option linter.unusedSimpArgs false
set_option maxRecDepth 100000
set_option maxHeartbeats 64000000
namespace Go.Proofs.YtcannffahjbjnaaGreatDoor
open Go.RowKit
def eN (P:Nat ->ByteArray) (n:Nat):List (List UInt8):=(List.range n).map fun j=>(P j).data.toList
theorem gr (P:Nat ->ByteArray) (n:Nat):(eN P n).length=n:=by simp [eN]
theorem og (P:Nat ->ByteArray) (n:Nat):eN P (n+1)=eN P n++[(P n).data.toList]:=by simp [eN,List.range_succ]
def iI (P:Nat ->ByteArray) (n:Nat):Prop:=∀j,j<n ->(P j).size <= 60∧∀c∈(P j).data.toList,fJ c=true
theorem iI.lines {P:Nat ->ByteArray} {n:Nat} (h:iI P n):∀s∈eN P n,∀c∈s,fJ c=true:=fun s hs=>by
 obtain ⟨j,hj,rfl⟩:=List.mem_map.1 hs;exact (h j (by simpa using hj)).2
theorem rF {s:List UInt8} (h:∀c∈s,fJ c=true):(9:UInt8)∉s:=fun e=>by
 have:=h 9 e;exact absurd this (by decide)
theorem iI.tot {P:Nat ->ByteArray}:∀{n:Nat},iI P n ->tot (eN P n) <= 61*n
 |0,_=>Nat.zero_le _
 |n+1,h=>by
  have ih:=iI.tot (n:=n) (fun j hj=>h j (by omega));have h1:=h n (by omega);have h9:=rF h1.2;have hc:(P n).data.toList.count 9=0:=List.count_eq_zero.2 h9;have hz:=Lib.size_eq (P n);rw [og,oN];have h2:Go.Proofs.YtcannffahjbjnaaGreatDoor.tot [(P n).data.toList]=wt (P n).data.toList+1:=(by simp [Go.Proofs.YtcannffahjbjnaaGreatDoor.tot]);have h3:wt (P n).data.toList=(P n).data.toList.length+3*0:=(by unfold wt;rw [hc]);omega
theorem Bs {w:World} {a:Option Addr} {len cap:Nat} {P:Nat ->ByteArray} (h:iG Value.string w a len P) (hc:len <= cap) (hp:iI P len) (hl:len <= 30) (h0:0<len):jp w a cap (eN P len):=by
 obtain ⟨b,off,h1,h2,h3,h4⟩:=h;have h5:=h1 h0;subst h5;refine ⟨⟨by simp [gr],fun ha=>(by cases ha),fun ad had=>?_⟩,by rw [gr];exact hc,by have:=hp.tot;omega,fun s hs=>rF (hp.lines s hs)⟩;obtain rfl:=Option.some.inj had;refine ⟨rfl,fun j u hu=>?_⟩;obtain ⟨hj,he⟩:=List.getElem?_eq_some_iff.1 hu;have hj2:j<len:=(by simpa [gr]using hj);rw [eW _ rfl];show w.cell? ⟨b,off+j,none⟩=some u;rw [h3 j hj2,<- he];simp [eN,j9]
theorem vg (a:Option Addr) (cap:Nat) (d:Int) (w:World):Calls Tryz.prog 9 #[.slice a 0 cap,.int .i64 d] w fun e w'=>∃v,e=.returned v∧aD w.heap.size w' v []∧Below w.heap.size w w':=by
 go_enter Tryz.func9,Tryz.ntmps9
 go_wp2_with fail;go_loop [5,6] (fun u5 u6=>u5=.slice none 0 0∧u6=.int .i64 0) (fun _ _=>0)
 case atStart=>exact ⟨rfl,rfl⟩
 case round=>
  obtain ⟨rfl,rfl⟩:=hrel;go_wp2_with fail;go_ret;exact ⟨_,rfl,World.ownsRow_nil _ _ _ _,Below.refl _ _⟩
theorem tl {w:World} {a:Option Addr} {len cap:Nat} {P:Nat ->ByteArray} (h:iG Value.string w a len P) (hc:len <= cap) (hp:iI P len) (hl:len <= 30):
  Calls Tryz.prog 9 #[.slice a len cap,.int .i64 0] w fun e w'=>∃v,e=.returned v∧aD w.heap.size w' v (dU (eN P len))∧Below w.heap.size w w':=by
 by_cases h0:0<len
 ·have:=kf 12 0 rfl w a cap _ (Bs h hc hp hl h0);rw [gr]at this;exact this
 ·obtain rfl:len=0:=(by omega);exact vg a cap 0 w
theorem wN {X:ByteArray} {i:Nat} {d:UInt8} (h:∀c∈X.data.toList.take i,fJ c=true) (hi:i<X.size) (hd:X[i]=d) (hp:fJ d=true):∀c∈X.data.toList.take (i+1),fJ c=true:=fun c hc=>by
 rw [fY X i hi,hd]at hc;rcases List.mem_append.1 hc with hc|hc
 ·exact h c hc
 ·rw [List.mem_singleton.1 hc];exact hp
theorem Ba {d:UInt8} (h1:¬(d.toNat:Int)<32) (h2:¬(127:Int) <= (d.toNat:Int)) (h3:d≠123) (h4:d≠91):fJ d=true:=by
 unfold fJ;simp only [Bool.and_eq_true,decide_eq_true_eq,bne_iff_ne];exact ⟨⟨⟨by omega,by omega⟩,h3⟩,h4⟩
structure CX (w:World) (vb n:Nat) (o0 o1 o2 o3:Option Addr) (c0 c1 c2 c3:Nat):Prop where
 k0:w.cell? ⟨vb,0,none⟩=some (.slice o0 n c0)
 k1:w.cell? ⟨vb,1,none⟩=some (.slice o1 0 c1)
 k2:w.cell? ⟨vb,2,none⟩=some (.slice o2 0 c2)
 k3:w.cell? ⟨vb,3,none⟩=some (.slice o3 0 c3)
theorem CX.below {w w':World} {vb n:Nat} {o0 o1 o2 o3:Option Addr} {c0 c1 c2 c3:Nat} (h:CX w vb n o0 o1 o2 o3 c0 c1 c2 c3) (hb:Below w.heap.size w w') (hv:vb<w.heap.size):CX w' vb n o0 o1 o2 o3 c0 c1 c2 c3:=
 ⟨(hb.cell (p:=⟨vb,0,none⟩) hv).trans h.k0,(hb.cell (p:=⟨vb,1,none⟩) hv).trans h.k1,(hb.cell (p:=⟨vb,2,none⟩) hv).trans h.k2,(hb.cell (p:=⟨vb,3,none⟩) hv).trans h.k3⟩
theorem law_vplain (k:Int) (a:Option Addr) (len cap:Nat) (w:World) (_wk:(Lit.int .i64 k).wf=true) (P:Nat ->ByteArray) (hP:iG Value.string w a len P∧len <= cap) (hE:qn w):
  Calls Tryz.prog 3 #[.int .i64 k,.slice a len cap] w fun e w'=>e=.returned (.bool true)∧Below w.heap.size w w':=by
 by_cases h30:(30:Int)<(len:Int)
 ·go_enter Tryz.func3,Tryz.ntmps3
  go_wp2_with fail;refine (nN _ hE).mono ?_;rintro e w1 ⟨rfl,b1⟩;go_wp2_with fail;go_ret;exact ⟨rfl,b1⟩
 ·have hl30:len <= 30:=(by omega);have HE:=zh hE;have HPP:=zh hP;clear hE hP;go_enter Tryz.func3,Tryz.ntmps3
  go_wp2_with fail;refine (nN _ HE.out).mono ?_;rintro e w1 ⟨rfl,b1⟩;have HB1:=zh b1;have HP1:=zh (HPP.out.1.below b1 (Nat.le_refl _));have HP0:=zh HPP.out.1;have hlc:=HPP.out.2;clear b1 HPP;go_wp2_with fail;go_loop [5,22] (fun u5 u22=>∃(i:Nat) (D:ByteArray),i <= len∧u5=.string D∧u22=.int .i64 (i:Int)∧D.size <= 61*i∧Hid (D.data.toList=bI (eN P i)∧iI P i)) (fun _ u22=>len - (intOf u22).toNat)
  case atStart=>exact ⟨0,⟨#[]⟩,Nat.zero_le _,rfl,by go_num,Nat.zero_le _,zh ⟨rfl,fun j hj=>absurd hj (by omega)⟩⟩
  case round=>
   obtain ⟨i,D,hi,rfl,rfl,hDz,HD⟩:=hrel;by_cases hlt:i<len
   ·have hltI:(i:Int)<(len:Int):=(by omega);obtain ⟨b,off,hx1,hx2,hx3,hx4⟩:=HP1.out;have hxa:=hx1 (by omega);obtain ⟨X,hX⟩:∃x,P i=x:=⟨_,rfl⟩
    have hxc:=hx3 i hlt;rw [hX]at hxc;subst hxa;have HX:=zh hX;clear hx1 hx2 hx3 hx4 hX;by_cases h60:(60:Int)<(X.size:Int)
    ·go_wp2_with fail;go_ret;exact ⟨rfl,HB1.out⟩
    ·have hX60:X.size <= 60:=(by omega);go_wp2_with fail;clear hxc;go_loop [8] (fun u8=>∃j:Nat,j <= X.size∧u8=.int .i64 (j:Int)∧Hid (∀c∈X.data.toList.take j,fJ c=true)) (fun u8=>X.size - (intOf u8).toNat)
     case atStart=>exact ⟨0,Nat.zero_le _,by go_num,zh (fun c hc=>by simp at hc)⟩
     case round=>
      obtain ⟨j,hj,rfl,HJ⟩:=hrel;by_cases hjt:j<X.size
      ·have hjI:(j:Int)<(X.size:Int):=(by omega);obtain ⟨d,hd⟩:∃d,X[j]=d:=⟨_,rfl⟩
       by_cases t1:(d.toNat:Int)<32
       ·go_wp2_with fail;go_ret;exact ⟨rfl,HB1.out⟩
       ·by_cases t2:(127:Int) <= (d.toNat:Int)
        ·go_wp2_with fail;go_ret;exact ⟨rfl,HB1.out⟩
        ·by_cases h3:d=123
         ·have t3:((d.toNat:Int)==123)=true:=e6 (d:=123) h3;clear h3;go_wp2_with fail;go_ret;exact ⟨rfl,HB1.out⟩
         ·have t3:((d.toNat:Int)==123)=false:=eJ (d:=123) h3;by_cases h4:d=91
          ·have t4:((d.toNat:Int)==91)=true:=e6 (d:=91) h4;clear h3 h4;go_wp2_with fail;go_ret;exact ⟨rfl,HB1.out⟩
          ·have t4:((d.toNat:Int)==91)=false:=eJ (d:=91) h4;have HN:=zh (wN HJ.out hjt hd (Ba t1 t2 h3 h4));clear h3 h4;go_wp2_with fail;go_round;case rel=>exact ⟨j+1,by omega,by go_num,HN⟩
           case measure=>simp [intOf];omega
      ·obtain rfl:j=X.size:=(by omega);have hDX:¬(9223372036854775807:Int)<(D.size:Int)+((X++(⟨#[10]⟩:ByteArray)).size:Int):=by
        rw [ByteArray.size_append,show (⟨#[10]⟩:ByteArray).size=1 from rfl];omega
       have HN:=zh (show (D++(X++(⟨#[10]⟩:ByteArray))).size <= 61*(i+1)∧(D++(X++(⟨#[10]⟩:ByteArray))).data.toList=bI (eN P (i+1))∧iI P (i+1)from ⟨by
        rw [ByteArray.size_append,ByteArray.size_append,show (⟨#[10]⟩:ByteArray).size=1 from rfl];omega,by
        rw [og,ByteArray.data_append,Array.toList_append,ByteArray.data_append,Array.toList_append,HD.out.1,HX.out];simp [bI],fun m hm=>by
        rcases Nat.lt_succ_iff_lt_or_eq.1 hm with h|rfl
        ·exact HD.out.2 m h
        ·rw [HX.out];refine ⟨hX60,?_⟩;have:=HJ.out
         rwa [Lib.size_eq,List.take_length]at this⟩)
       go_wp2_with fail;go_round;case rel=>exact ⟨i+1,_,by omega,rfl,by go_num,HN.out.1,zh ⟨HN.out.2.1,HN.out.2.2⟩⟩
       case measure=>simp [intOf];omega
   ·obtain rfl:i=len:=(by omega);have hltI:¬(i:Int)<(i:Int):=(by omega);go_wp2_with fail;refine (CH k _).mono ?_;rintro e w2 ⟨sb,v,K,rfl,hse,b2⟩;have HB2:=zh (aa HB1.out b2);have HSE:=zh hse;have hst:=y8 (ee K) (eN P i) HD.out.2.lines;rw [<- HD.out.1]at hst;obtain ⟨BL,hBL⟩:∃l,dU (eN P i)=l:=⟨_,rfl⟩
    rw [hBL]at hst;have hbn:BL.length <= 28*30:=by
     rw [<- hBL];have:=bQ 12 0 rfl (eN P i);rw [gr]at this;exact Nat.le_trans this (by omega)
    have HBC:=zh hBL;have hv:Calls Tryz.prog 7 #[.pointer (some ⟨sb,0,none⟩),.string D] w2 fun e w'=>∃o0 o1 o2 o3 c0 c1 c2 c3,e=.returned (.agg #[.slice o0 BL.length c0,.slice o1 0 c1,.slice o2 0 c2,.slice o3 0 c3])∧zW w' {aq.none with blocks:=BL} o0 o1 o2 o3 c0 c1 c2 c3∧Below w2.heap.size w2 w':=vi HSE.out (HE.out.below HB2.out) D (by omega) _ hst;have HV:=zh hv;clear b2 hse hst hBL hv;go_wp2_with fail;refine (HV.out).mono ?_;rintro e w3 ⟨o0,o1,o2,o3,c0,c1,c2,c3,rfl,hv,hb3⟩;have hse3:=(HSE.out).below hb3;have hbA:=(Below.refl w3.heap.size w3).alloc (Nat.le_refl _) (.cells #[.slice o0 BL.length c0,.slice o1 0 c1,.slice o2 0 c2,.slice o3 0 c3] 33);have hvA:=hv.below hbA;have hseA:=hse3.below hbA;have hkA:=heap_alloc_new w3 (.cells #[.slice o0 BL.length c0,.slice o1 0 c1,.slice o2 0 c2,.slice o3 0 c3] 33);have HBA:=zh ((aa HB2.out hb3).trans (hbA.mono (aa HB2.out hb3).size));go_upto_region 20 with (fail)
    try simp only [List.length_cons,List.length_nil,List.length_replicate,Nat.zero_add,Nat.reduceAdd]
    generalize w3.alloc (.cells #[.slice o0 BL.length c0,.slice o1 0 c1,.slice o2 0 c2,.slice o3 0 c3] 33)=WA at hvA hseA hkA HBA⊢;obtain ⟨vb,hvb⟩:∃n,w3.heap.size=n:=⟨_,rfl⟩
    rw [hvb]at hkA⊢;have HKA:=zh hkA;have HVA:=zh hvA;have HSA:=zh hseA;clear hv hb3 hse3 hbA hvA hseA hkA hvb;have hcall:=tl (HP0.out.below HBA.out.drew (Nat.le_refl _)) hlc HD.out.2 hl30;rw [HBC.out]at hcall;have HC:=zh hcall;obtain ⟨k0,k1,k2,k3⟩:CX WA vb BL.length o0 o1 o2 o3 c0 c1 c2 c3:=⟨by rw [cell_of_row WA vb _ _ _ _ HKA.out];rfl,by rw [cell_of_row WA vb _ _ _ _ HKA.out];rfl,by rw [cell_of_row WA vb _ _ _ _ HKA.out];rfl,by rw [cell_of_row WA vb _ _ _ _ HKA.out];rfl⟩
    have hvbl:=(Array.getElem?_eq_some_iff.1 HKA.out).1;clear hcall HV HSE HKA HSA;refine aH (S:=fun j W'=>(List.range 20).contains j=true ->CX W' vb BL.length o0 o1 o2 o3 c0 c1 c2 c3) (by kernel_rfl) ?_;refine eO 0 72 ?_ rfl (List.range 20) (by kernel_rfl) (fun _ _ _ h=>h) (by decide) rfl (Or.inl ⟨by rfl,?_⟩) ⟨k0,k1,k2,k3⟩ ?_;rotate_left
    ·rintro w' ⟨s0,s1,s2,s3⟩;go_simp<;>with_reducible rfl
    simp only [List.set];refine eO 1 73 ?_ rfl (List.range 20) (by kernel_rfl) (fun _ _ _ h=>h) (by decide) rfl (Or.inl ⟨by rfl,?_⟩) ⟨k0,k1,k2,k3⟩ ?_;rotate_left
    ·rintro w' ⟨s0,s1,s2,s3⟩;go_simp<;>with_reducible rfl
    simp only [List.set];refine eO 2 74 ?_ rfl (List.range 20) (by kernel_rfl) (fun _ _ _ h=>h) (by decide) rfl (Or.inl ⟨by rfl,?_⟩) ⟨k0,k1,k2,k3⟩ ?_;rotate_left
    ·rintro w' ⟨s0,s1,s2,s3⟩;go_simp<;>with_reducible rfl
    simp only [List.set];refine ae (i:=3) (by kernel_rfl) rfl (fun K' hK=>?_);have HKK:=zh hK;clear hK;go_simp
    refine HC.out.mono ?_;rintro e w5 ⟨v5,rfl,hv5,bd5⟩;have b5:Below WA.heap.size WA w5:=((Below.refl _ WA).drew).trans bd5;clear bd5;have hc5:=CX.below (w:=WA) ⟨k0,k1,k2,k3⟩ b5 hvbl;have HB5:=zh (aa HBA.out b5);obtain ⟨bao,bc,hbv,hbr,_,_⟩:=ac hv5;subst hbv;have HSM:=zh (zH (l:=BL) (ca:=c0) (cb:=bc) (bL.below HVA.out.bl b5) hbr (by omega));have hvb5:=Nat.lt_of_lt_of_le hvbl b5.size;clear k0 k1 k2 k3 hv5 b5 hbr HC HVA;go_wp2_with fail;refine HKK.out _ _ ⟨fun _=>hc5,?_⟩;clear HKK K';try simp only [Act.put,List.setIfInBounds_toArray,List.set_cons_zero,List.set_cons_succ,List.getElem_toArray,List.getElem_cons_zero,List.getElem_cons_succ]
    obtain ⟨k0,k1,k2,k3⟩:=hc5;refine ae (i:=4) (by kernel_rfl) rfl (fun K' hK=>?_);have HKK:=zh hK;clear hK;go_simp
    refine HSM.out.mono ?_;rintro e w6 ⟨rfl,b6⟩;have hc6:=CX.below (w:=w5) ⟨k0,k1,k2,k3⟩ b6 hvb5;have HB6:=zh (aa HB5.out b6);clear k0 k1 k2 k3 b6 HSM;go_wp2_with fail;refine HKK.out _ _ ⟨fun _=>hc6,?_⟩;clear HKK K';try simp only [Act.put,List.setIfInBounds_toArray,List.set_cons_zero,List.set_cons_succ,List.getElem_toArray,List.getElem_cons_zero,List.getElem_cons_succ]
    obtain ⟨k0,k1,k2,k3⟩:=hc6;refine eO 5 77 ?_ rfl (List.range 20) (by kernel_rfl) (fun _ _ _ h=>h) (by decide) rfl (Or.inl ⟨by rfl,?_⟩) ⟨k0,k1,k2,k3⟩ ?_;rotate_left
    ·rintro w' ⟨s0,s1,s2,s3⟩;go_simp<;>with_reducible rfl
    simp only [List.set];refine eO 6 78 ?_ rfl (List.range 20) (by kernel_rfl) (fun _ _ _ h=>h) (by decide) rfl (Or.inl ⟨by rfl,?_⟩) ⟨k0,k1,k2,k3⟩ ?_;rotate_left
    ·rintro w' ⟨s0,s1,s2,s3⟩;go_simp<;>with_reducible rfl
    simp only [List.set];refine eO 7 79 ?_ rfl (List.range 20) (by kernel_rfl) (fun _ _ _ h=>h) (by decide) rfl (Or.inl ⟨by rfl,?_⟩) ⟨k0,k1,k2,k3⟩ ?_;rotate_left
    ·rintro w' ⟨s0,s1,s2,s3⟩;go_simp<;>with_reducible rfl
    simp only [List.set];refine eO 8 80 ?_ rfl (List.range 20) (by kernel_rfl) (fun _ _ _ h=>h) (by decide) rfl (Or.inl ⟨by rfl,?_⟩) ⟨k0,k1,k2,k3⟩ ?_;rotate_left
    ·rintro w' ⟨s0,s1,s2,s3⟩;go_simp<;>with_reducible rfl
    simp only [List.set];refine eO 9 81 ?_ rfl (List.range 20) (by kernel_rfl) (fun _ _ _ h=>h) (by decide) rfl (Or.inl ⟨by rfl,?_⟩) ⟨k0,k1,k2,k3⟩ ?_;rotate_left
    ·rintro w' ⟨s0,s1,s2,s3⟩;go_simp<;>with_reducible rfl
    simp only [List.set];refine eO 10 82 ?_ rfl (List.range 20) (by kernel_rfl) (fun _ _ _ h=>h) (by decide) rfl (Or.inl ⟨by rfl,?_⟩) ⟨k0,k1,k2,k3⟩ ?_;rotate_left
    ·rintro w' ⟨s0,s1,s2,s3⟩;go_simp<;>with_reducible rfl
    simp only [List.set];refine eO 11 83 ?_ rfl (List.range 20) (by kernel_rfl) (fun _ _ _ h=>h) (by decide) rfl (Or.inl ⟨by rfl,?_⟩) ⟨k0,k1,k2,k3⟩ ?_;rotate_left
    ·rintro w' ⟨s0,s1,s2,s3⟩;go_simp<;>with_reducible rfl
    simp only [List.set];refine eO 12 84 ?_ rfl (List.range 20) (by kernel_rfl) (fun _ _ _ h=>h) (by decide) rfl (Or.inl ⟨by rfl,?_⟩) ⟨k0,k1,k2,k3⟩ ?_;rotate_left
    ·rintro w' ⟨s0,s1,s2,s3⟩;go_simp<;>with_reducible rfl
    simp only [List.set];refine eO 13 85 ?_ rfl (List.range 20) (by kernel_rfl) (fun _ _ _ h=>h) (by decide) rfl (Or.inl ⟨by rfl,?_⟩) ⟨k0,k1,k2,k3⟩ ?_;rotate_left
    ·rintro w' ⟨s0,s1,s2,s3⟩;go_simp<;>with_reducible rfl
    simp only [List.set];refine eO 14 86 ?_ rfl (List.range 20) (by kernel_rfl) (fun _ _ _ h=>h) (by decide) rfl (Or.inl ⟨by rfl,?_⟩) ⟨k0,k1,k2,k3⟩ ?_;rotate_left
    ·rintro w' ⟨s0,s1,s2,s3⟩;go_simp<;>with_reducible rfl
    simp only [List.set];refine eO 15 87 ?_ rfl (List.range 20) (by kernel_rfl) (fun _ _ _ h=>h) (by decide) rfl (Or.inl ⟨by rfl,?_⟩) ⟨k0,k1,k2,k3⟩ ?_;rotate_left
    ·rintro w' ⟨s0,s1,s2,s3⟩;go_simp<;>with_reducible rfl
    simp only [List.set];refine eO 16 88 ?_ rfl (List.range 20) (by kernel_rfl) (fun _ _ _ h=>h) (by decide) rfl (Or.inl ⟨by rfl,?_⟩) ⟨k0,k1,k2,k3⟩ ?_;rotate_left
    ·rintro w' ⟨s0,s1,s2,s3⟩;go_simp<;>with_reducible rfl
    simp only [List.set];refine eO 17 89 ?_ rfl (List.range 20) (by kernel_rfl) (fun _ _ _ h=>h) (by decide) rfl (Or.inl ⟨by rfl,?_⟩) ⟨k0,k1,k2,k3⟩ ?_;rotate_left
    ·rintro w' ⟨s0,s1,s2,s3⟩;go_simp<;>with_reducible rfl
    simp only [List.set];refine eO 18 90 ?_ rfl (List.range 20) (by kernel_rfl) (fun _ _ _ h=>h) (by decide) rfl (Or.inl ⟨by rfl,?_⟩) ⟨k0,k1,k2,k3⟩ ?_;rotate_left
    ·rintro w' ⟨s0,s1,s2,s3⟩;go_simp<;>with_reducible rfl
    simp only [List.set];refine eO 19 4 ?_ rfl (List.range 20) (by kernel_rfl) (fun _ _ _ h=>h) (by decide) rfl (Or.inl ⟨by rfl,?_⟩) ⟨k0,k1,k2,k3⟩ ?_;rotate_left
    ·rintro w' ⟨s0,s1,s2,s3⟩;go_simp<;>with_reducible rfl
    simp only [List.set];refine aG (by kernel_rfl) ?_ _;go_wp2_with fail;go_ret;exact ⟨rfl,HB6.out⟩
end Go.Proofs.YtcannffahjbjnaaGreatDoor
