import Derived.Test.YtcannffahjbjnaaGreatDoorVwBZc
set_option linter.unusedVariables false
set_option linter.unusedSimpArgs false
set_option maxRecDepth 100000
set_option maxHeartbeats 64000000
namespace Go.Proofs.YtcannffahjbjnaaGreatDoor
open Go.RowKit
theorem pk (R:ByteArray) (h:(R.data.toList.head?.any fun c=>c !=32)=false):R.toList.isEmpty=true∨(∃hr0:0<R.size,R.toList.isEmpty=false∧∃q,R[0]=q∧((q.toNat:Int) !=32)=false):=by
 by_cases hr0:0<R.size
 ·rw [dC R hr0]at h;exact Or.inr ⟨hr0,aX hr0,R[0],rfl,dX (d:=32) (by simpa using h)⟩
 ·exact Or.inl (aS (by omega))
theorem qR (R:ByteArray) (G:Nat) (hG:bF R.data.toList 32=G) (h:(R.data.toList.head?.any fun c=>c !=32)=false):
  (fI R.data.toList=1∧min (1:Int) (R.size:Int)=((min (fI R.data.toList) R.size:Nat):Int)∧((G:Int)<1∨(¬(G:Int)<1∧(4:Int)<(G:Int))∨(¬(G:Int)<1∧¬(4:Int)<(G:Int)∧((G:Int)==(R.size:Int))=true)))∨
  (fI R.data.toList=G∧min (G:Int) (R.size:Int)=((min (fI R.data.toList) R.size:Nat):Int)∧¬(G:Int)<1∧¬(4:Int)<(G:Int)∧((G:Int)==(R.size:Int))=false):=by
 have hg:fI R.data.toList=if 4<G∨G=R.size then 1 else G:=(by unfold fI;rw [hG,<- Lib.size_eq]);by_cases g4:4<G
 ·have e:fI R.data.toList=1:=(by rw [hg,if_pos (Or.inl g4)]);rw [e];exact Or.inl ⟨rfl,by omega,Or.inr (Or.inl ⟨by omega,by omega⟩)⟩
 ·by_cases gl:G=R.size
  ·have e:fI R.data.toList=1:=(by rw [hg,if_pos (Or.inr gl)]);rw [e];refine Or.inl ⟨rfl,by omega,?_⟩;by_cases g1:G<1
   ·exact Or.inl (by omega)
   ·exact Or.inr (Or.inr ⟨by omega,by omega,by rw [gl];simp⟩)
  ·have e:fI R.data.toList=G:=(by rw [hg,if_neg (by rintro (h|h)<;>first|exact g4 h|exact gl h)]);rw [e];have hG1:1 <= G:=by
    by_cases hr0:0<R.size
    ·rw [<- hG];have hh:=dC R hr0;rw [hh]at h;have h32:R[0]=32:=(by simpa using h);unfold bF;cases hl:R.data.toList with
     |nil=>rw [hl]at hh;cases hh
     |cons a b=>
      rw [hl]at hh;have ha:a=32:=(Option.some.inj hh).trans h32;rw [List.takeWhile_cons_of_pos (by simp [ha]),List.length_cons];omega
    ·have:G=0:=(by rw [<- hG,bG R (by omega)];rfl);omega
   exact Or.inr ⟨rfl,by omega,by omega,by omega,by simp;omega⟩
theorem wL (c:UInt8) (k:Nat):
  (¬((k=0∧([45,43,42]:List UInt8).contains c=false)∨(0<k∧c≠46∧c≠41))∧
   ((k=0∧((k:Int)==0)=true∧¬(0:Int)<(k:Int)∧((c.toNat:Int) !=45)=false)∨(k=0∧((k:Int)==0)=true∧¬(0:Int)<(k:Int)∧((c.toNat:Int) !=45)=true∧((c.toNat:Int) !=43)=false)∨(k=0∧((k:Int)==0)=true∧¬(0:Int)<(k:Int)∧((c.toNat:Int) !=45)=true∧((c.toNat:Int) !=43)=true∧((c.toNat:Int) !=42)=false)∨
   (k≠0∧((k:Int)==0)=false∧(0:Int)<(k:Int)∧((c.toNat:Int) !=46)=false)∨(k≠0∧((k:Int)==0)=false∧(0:Int)<(k:Int)∧((c.toNat:Int) !=46)=true∧((c.toNat:Int) !=41)=false)))∨
  (((k=0∧([45,43,42]:List UInt8).contains c=false)∨(0<k∧c≠46∧c≠41))∧
   ((((k:Int)==0)=true∧¬(0:Int)<(k:Int)∧((c.toNat:Int) !=45)=true∧((c.toNat:Int) !=43)=true∧((c.toNat:Int) !=42)=true)∨(((k:Int)==0)=false∧(0:Int)<(k:Int)∧((c.toNat:Int) !=46)=true∧((c.toNat:Int) !=41)=true))):=by
 by_cases hk:k=0
 ·have k0:((k:Int)==0)=true:=(by rw [hk];rfl);by_cases a:c=45
  ·exact Or.inl ⟨by rintro (⟨_,h⟩|⟨h,_⟩);rw [a]at h;cases h;omega,Or.inl ⟨hk,k0,by omega,dX (d:=45) a⟩⟩
  ·by_cases b:c=43
   ·exact Or.inl ⟨by rintro (⟨_,h⟩|⟨h,_⟩);rw [b]at h;cases h;omega,Or.inr (Or.inl ⟨hk,k0,by omega,bN (d:=45) a,dX (d:=43) b⟩)⟩
   ·by_cases e:c=42
    ·exact Or.inl ⟨by rintro (⟨_,h⟩|⟨h,_⟩);rw [e]at h;cases h;omega,Or.inr (Or.inr (Or.inl ⟨hk,k0,by omega,bN (d:=45) a,bN (d:=43) b,dX (d:=42) e⟩))⟩
    ·exact Or.inr ⟨Or.inl ⟨hk,by simp [a,b,e]⟩,Or.inl ⟨k0,by omega,bN (d:=45) a,bN (d:=43) b,bN (d:=42) e⟩⟩
 ·have k0:((k:Int)==0)=false:=(by simp;omega);by_cases a:c=46
  ·exact Or.inl ⟨by rintro (⟨h,_⟩|⟨_,h,_⟩);exact hk h;exact h a,Or.inr (Or.inr (Or.inr (Or.inl ⟨hk,k0,by omega,dX (d:=46) a⟩)))⟩
  ·by_cases b:c=41
   ·exact Or.inl ⟨by rintro (⟨h,_⟩|⟨_,_,h⟩);exact hk h;exact h b,Or.inr (Or.inr (Or.inr (Or.inr ⟨hk,k0,by omega,bN (d:=46) a,dX (d:=41) b⟩)))⟩
   ·exact Or.inr ⟨Or.inr ⟨by omega,a,b⟩,Or.inr ⟨k0,by omega,bN (d:=46) a,bN (d:=41) b⟩⟩
theorem kN (s:ByteArray) (h9:(9:UInt8)∉s.data.toList) (hs:s.size <= 1000000) (w:World):
  Calls Tryz.prog 71 #[.string s] w fun e w'=>e=.returned (.tuple #[.int .u8 ((aj s.data.toList).1.toNat:Int),.int .i64 (aj s.data.toList).2.1,.int .i64 ((aj s.data.toList).2.2.1:Nat),.string ⟨(aj s.data.toList).2.2.2.1.toArray⟩,.bool (aj s.data.toList).2.2.2.2])∧Below w.heap.size w w':=by
 have hru:=nK s h9 hs;have hi:=eV s h9 (by omega);rw [<- cE h9]at hi;have hno:=rc (s:=s.data.toList);have hso:=fun R N V sign=>rd (s:=s.data.toList) (R:=R) (N:=N) (V:=V) (sign:=sign);have hcol:aw s.data.toList <= s.size:=(by rw [cE h9,Lib.size_eq];exact eg _ _);have hbe:=dS s h9 hs;have hXz:=cH s.data.toList;obtain ⟨X,hX⟩:∃X:ByteArray,(⟨(ab s.data.toList).toArray⟩:ByteArray)=X:=⟨_,rfl⟩
 have hXl:ab s.data.toList=X.data.toList:=(by rw [<- hX]);rw [hX]at hbe;rw [hXl,<- Lib.size_eq,<- Lib.size_eq]at hXz;obtain ⟨M,hM⟩:∃M,bX s.data.toList=M:=⟨_,rfl⟩
 rw [hM]at hbe;rw [hXl]at hno hso;obtain ⟨I,hI⟩:∃I,aw s.data.toList=I:=⟨_,rfl⟩
 obtain ⟨B,hB⟩:∃B,cZ s.data.toList=B:=⟨_,rfl⟩
 rw [hB]at hru;rw [hM,hB]at hno hso;rw [hI]at hso hcol hi;obtain ⟨N,V,hNV⟩:∃N V,bi X.data.toList 0 0=(N,V):=⟨_,_,rfl⟩
 have HBE:=zh hbe;have HRU:=zh hru;have HI:=zh hi;have HNO0:=zh hno;have HSO0:=zh hso;have HNV0:=zh (show bi (X.data.toList.drop 0) 0 0=(N,V) by rw [List.drop_zero];exact hNV);have HNV1:=zh hNV;clear hbe hru hno hso hM hXl hX hI hB hNV hi h9;go_enter Tryz.func71,Tryz.ntmps71
 go_wp2_with fail;refine (HBE.out _).mono ?_;rintro e w' ⟨rfl,hw'⟩;obtain rfl:=hw'.symm;have HB:=zh (Below.refl w.heap.size w);cases M
 ·have HQ:=zh (HNO0.out (Or.inl rfl));go_wp2_with fail;refine bodyPost_ret (v:=.tuple #[.int .u8 0,.int .i64 0,.int .i64 0,.string ⟨#[]⟩,.bool false]) (by simp [results,Tryz.results71,go_sem]) rfl ⟨(by rw [HQ.out];rfl),HB.out⟩
 ·by_cases h0:0<X.size
  ·have he:=aX h0;go_wp2_with fail;refine (HRU.out _).mono ?_;rintro e w2 ⟨rfl,b2⟩;clear HB;have HB:=zh b2;clear b2;cases B
   ·have HNE:=zh (show X.data.toList≠[] by intro h;rw [Lib.size_eq,h]at h0;exact absurd h0 (by simp))
    go_upto_block 0 with (fail)
    go_cut [9,10] (fun uk uv wc=>uk=.int .i64 (N:Int)∧uv=.int .i64 (V:Int)∧Hid (N <= X.size∧N <= 9∧V<1000000000)∧wc=w2)
    case first=>
     go_wp2_with fail;go_loop [9,10] (fun uk uv=>∃k v:Nat,k <= X.size∧k <= 9∧uk=.int .i64 k∧uv=.int .i64 v∧Hid (v<10 ^ k∧bi (X.data.toList.drop k) k v=(N,V))) (fun uk _=>X.size - (intOf uk).toNat)
     case atStart=>exact ⟨0,0,Nat.zero_le _,by omega,rfl,rfl,zh ⟨by simp,HNV0.out⟩⟩
     case round=>
      obtain ⟨k,v,hkx,hk9,rfl,rfl,HR⟩:=hrel;have hvb:=uy HR.out.1 hk9;by_cases hlt:k<X.size
      ·have qk:(k:Int)<(X.size:Int):=(by omega);have hg:=Lib.data_getElem? X k hlt;obtain ⟨c,hc⟩:∃c,X[k]=c:=⟨_,rfl⟩
       rw [hc]at hg;have hr:=HR.out.2;rw [p9 hg,bi]at hr;by_cases hst:c<48∨57<c∨k=9
       ·rw [if_pos hst]at hr;have HE:=zh (show N=k∧V=v from ⟨(Prod.mk.inj hr).1.symm,(Prod.mk.inj hr).2.symm⟩);have hcl:(¬(k:Int)<9)∨((k:Int)<9∧¬(48:Int) <= (c.toNat:Int))∨((k:Int)<9∧(48:Int) <= (c.toNat:Int)∧¬(c.toNat:Int) <= 57):=by
         have e48:(48:UInt8).toNat=48:=rfl;have e57:(57:UInt8).toNat=57:=rfl;rcases hst with h|h|h
         ·rw [UInt8.lt_iff_toNat_lt]at h;omega
         ·rw [UInt8.lt_iff_toNat_lt]at h;omega
         ·omega
        clear hr hst HR hg;rcases hcl with a1|⟨a1,a2⟩|⟨a1,a2,a3⟩
        all_goals
         go_wp2_with fail
         go_meet
         case rel=>exact ⟨by rw [HE.out.1],by rw [HE.out.2],zh ⟨by rw [HE.out.1];exact hkx,by rw [HE.out.1];exact hk9,by rw [HE.out.2];exact hvb⟩,rfl⟩
       ·have n1:¬c<48:=fun e=>hst (Or.inl e);have n2:¬57<c:=fun e=>hst (Or.inr (Or.inl e));have n3:k≠9:=fun e=>hst (Or.inr (Or.inr e));have d1:=tz n2;have d2:=tw n1;rw [if_neg hst]at hr;have hv2:=uz HR.out.1 (show c.toNat - 48 <= 9 by omega);have HN:=zh (And.intro hv2 hr);have a1:(k:Int)<9:=(by omega);have a2:(48:Int) <= (c.toNat:Int):=(by omega);have a3:(c.toNat:Int) <= 57:=(by omega);clear hr hst hg hv2 n1 n2 n3;go_wp2_with fail;go_round;case rel=>exact ⟨k+1,v*10+(c.toNat - 48),by omega,by omega,by go_num,by go_num,HN⟩
        case measure=>simp [intOf];omega
      ·obtain rfl:k=X.size:=(by omega);have qk:¬(X.size:Int)<(X.size:Int):=(by omega);have hr:=HR.out.2;rw [dl X X.size (Nat.le_refl _)]at hr;have HE:=zh (show N=X.size∧V=v from ⟨(Prod.mk.inj hr).1.symm,(Prod.mk.inj hr).2.symm⟩);clear hr HR;go_wp2_with fail
       go_meet
       case rel=>exact ⟨by rw [HE.out.1],by rw [HE.out.2],zh ⟨by rw [HE.out.1];exact hkx,by rw [HE.out.1];exact hk9,by rw [HE.out.2];exact hvb⟩,rfl⟩
    case rest=>
     obtain ⟨rfl,rfl,HF,hwc⟩:=hcut;obtain rfl:=hwc.symm;have hN9:=HF.out.2.1;have hVb:=HF.out.2.2;have HNV:=HNV1;clear HNV0 HNV1;by_cases hNl:N<X.size
     ·have q1:¬(X.size:Int) <= (N:Int):=(by omega);obtain ⟨c,hc⟩:∃c,X[N]=c:=⟨_,rfl⟩
      have hg:=Lib.data_getElem? X N hNl;rw [hc]at hg;have hno:=fun h=>HNO0.out (Or.inr (Or.inr (Or.inr (Or.inr ⟨c,by rw [HNV.out];exact hg,h⟩))));obtain ⟨R,hR⟩:∃R:ByteArray,X.extract (N+1) X.size=R:=⟨_,rfl⟩
      have hRl:X.data.toList.drop (N+1)=R.data.toList:=(by rw [<- hR,Lib.extract_to_end]);have hRz:R.size <= X.size:=(by rw [<- hR];simp);have hso:=fun h1=>HSO0.out R.data.toList N V c (by simp) HNE.out (by simp) HNV.out hg h1 hRl;rw [HNV.out,hRl]at hno;have hro:∀W,Calls Tryz.prog 65 #[.string R,.int .u8 32] W fun e w'=>e=.returned (.int .i64 (bF R.data.toList 32))∧w'=W:=fun W=>ki R 32 (by omega) W;have hGz:=eg R.data.toList 32;rw [<- Lib.size_eq]at hGz;obtain ⟨G,hG⟩:∃G,bF R.data.toList 32=G:=⟨_,rfl⟩
      rw [hG]at hro hGz;have HRO:=zh hro;have HG:=zh hG;have HNO:=zh hno;have HSO:=zh hso;have hN1:(N:Int)+1 <= (X.size:Int):=(by omega);clear hno hso hro hG hRl hg;rcases wL c N with ⟨h1,hcn⟩|⟨h1,hcn⟩
      ·have H1:=zh h1;clear h1;go_upto_region 11 with (fail)
       go_cut [9,11,91] (fun x9 x11 u wc=>x9=.int .i64 (N:Int)∧x11=.int .u8 (c.toNat:Int)∧u=.bool false∧wc=w2)
       case first=>
        clear hR;rcases hcn with ⟨-,k0,kn,u1⟩|⟨-,k0,kn,u1,u2⟩|⟨-,k0,kn,u1,u2,u3⟩|⟨-,k0,k2,u1⟩|⟨-,k0,k2,u1,u2⟩
        all_goals
         go_wp2_with fail
         go_meet
         case rel=>exact ⟨by first|rfl|rw [beq_iff_eq.1 k0],by first|rfl|rw [bne_eq_false_iff_eq.1 u1]|rw [bne_eq_false_iff_eq.1 u2]|rw [bne_eq_false_iff_eq.1 u3],rfl,rfl⟩
       case rest=>
        clear hcn;obtain ⟨rfl,rfl,rfl,hwc⟩:=hcut;obtain rfl:=hwc.symm;by_cases kz:N=0
        ·subst kz;simp only [Nat.zero_add]at hR;have hX1:(1:Int) <= (X.size:Int):=(by omega);by_cases hbad:(R.data.toList.head?.any fun c=>c !=32)=true
         ·have HQ:=zh (HNO.out (Or.inr (Or.inr hbad)));have hr0:0<R.size:=by
           by_cases h:0<R.size
           ·exact h
           ·rw [bG R (by omega)]at hbad;cases hbad
          have her:=aX hr0;obtain ⟨q,hq⟩:∃q,R[0]=q:=⟨_,rfl⟩
          have t1:((q.toNat:Int) !=32)=true:=bN (d:=32) (by
           rw [dC R hr0,hq]at hbad;simpa using hbad)
          clear hbad;go_wp2_with fail;refine bodyPost_ret (v:=.tuple #[.int .u8 0,.int .i64 0,.int .i64 0,.string ⟨#[]⟩,.bool false]) (by simp [results,Tryz.results71,go_sem]) rfl ⟨(by rw [HQ.out];rfl),HB.out⟩
         ·have hbad2:(R.data.toList.head?.any fun c=>c !=32)=false:=(by simpa using hbad);have hq:=HSO.out H1.out hbad2;have hvar:=qR R G HG.out hbad2;have hhd:=pk R hbad2;obtain ⟨GG,hGG⟩:∃GG,fI R.data.toList=GG:=⟨_,rfl⟩
          rw [hGG]at hq hvar;rw [<- Lib.size_eq]at hq;obtain ⟨m,hm⟩:∃m,min GG R.size=m:=⟨_,rfl⟩
          rw [hm]at hq hvar;have hmz:(m:Int) <= (R.size:Int):=(by omega);obtain ⟨Z,hZ⟩:∃Z:ByteArray,R.extract m R.size=Z:=⟨_,rfl⟩
          have HQ:=zh (show aj s.data.toList=(c,((-1):Int),I+0+1+GG,Z.data.toList,true) by rw [hq,<- hZ,Lib.extract_to_end];first|rfl|rw [if_neg kz]);clear hbad hbad2 hq hGG hm;go_upto_region 16 with (fail)
          go_cut [104] (fun u wc=>u=.bool false∧wc=w2)
          case first=>
           clear hvar hZ hmz;rcases hhd with her|⟨hr0,her,q,hq,t1⟩
           all_goals
            go_wp2_with fail
            go_meet
            case rel=>exact ⟨rfl,rfl⟩
          case rest=>
           clear hhd;obtain ⟨rfl,hwc⟩:=hcut;obtain rfl:=hwc.symm;go_wp2_with fail;refine (HRO.out _).mono ?_;rintro e w' ⟨rfl,hw'⟩;obtain rfl:=hw'.symm;rcases hvar with ⟨hgg,hmI,hvar⟩|⟨hgg,hmI,g1,g4,gl⟩
           ·go_upto_region 19 with (fail)
            go_cut [118] (fun u wc=>u=.bool true∧wc=w2)
            case first=>
             clear hZ hmz hgg hmI;rcases hvar with g1|⟨g1,g4⟩|⟨g1,g4,gl⟩
             all_goals
              go_wp2_with fail
              go_meet
              case rel=>exact ⟨rfl,rfl⟩
            case rest=>
             clear hvar;obtain ⟨rfl,hwc⟩:=hcut;obtain rfl:=hwc.symm;go_wp2_with fail;go_quiet ((go_at_call 28;exact Calls.quiet_of_same (HI.out _)))
             go_wp2_with fail;refine bodyPost_ret (v:=.tuple #[.int .u8 (c.toNat:Int),.int .i64 (-1),.int .i64 (I+0+1+GG:Nat),.string Z,.bool true]) (by simp [results,Tryz.results71,go_sem,hZ,hmI,hgg]) rfl ⟨(by rw [HQ.out]),bD HB.out nq⟩
           ·go_wp2_with fail;go_quiet ((go_at_call 28;exact Calls.quiet_of_same (HI.out _)))
            go_wp2_with fail;refine bodyPost_ret (v:=.tuple #[.int .u8 (c.toNat:Int),.int .i64 (-1),.int .i64 (I+0+1+GG:Nat),.string Z,.bool true]) (by simp [results,Tryz.results71,go_sem,hZ,hmI,hgg]) rfl ⟨(by rw [HQ.out]),bD HB.out nq⟩
        ·have k0:((N:Int)==0)=false:=(by simp;omega);by_cases hbad:(R.data.toList.head?.any fun c=>c !=32)=true
         ·have HQ:=zh (HNO.out (Or.inr (Or.inr hbad)));have hr0:0<R.size:=by
           by_cases h:0<R.size
           ·exact h
           ·rw [bG R (by omega)]at hbad;cases hbad
          have her:=aX hr0;obtain ⟨q,hq⟩:∃q,R[0]=q:=⟨_,rfl⟩
          have t1:((q.toNat:Int) !=32)=true:=bN (d:=32) (by
           rw [dC R hr0,hq]at hbad;simpa using hbad)
          clear hbad;go_wp2_with fail;refine bodyPost_ret (v:=.tuple #[.int .u8 0,.int .i64 0,.int .i64 0,.string ⟨#[]⟩,.bool false]) (by simp [results,Tryz.results71,go_sem]) rfl ⟨(by rw [HQ.out];rfl),HB.out⟩
         ·have hbad2:(R.data.toList.head?.any fun c=>c !=32)=false:=(by simpa using hbad);have hq:=HSO.out H1.out hbad2;have hvar:=qR R G HG.out hbad2;have hhd:=pk R hbad2;obtain ⟨GG,hGG⟩:∃GG,fI R.data.toList=GG:=⟨_,rfl⟩
          rw [hGG]at hq hvar;rw [<- Lib.size_eq]at hq;obtain ⟨m,hm⟩:∃m,min GG R.size=m:=⟨_,rfl⟩
          rw [hm]at hq hvar;have hmz:(m:Int) <= (R.size:Int):=(by omega);obtain ⟨Z,hZ⟩:∃Z:ByteArray,R.extract m R.size=Z:=⟨_,rfl⟩
          have HQ:=zh (show aj s.data.toList=(c,(V:Int),I+N+1+GG,Z.data.toList,true) by rw [hq,<- hZ,Lib.extract_to_end];first|rfl|rw [if_neg kz]);clear hbad hbad2 hq hGG hm;go_upto_region 16 with (fail)
          go_cut [104] (fun u wc=>u=.bool false∧wc=w2)
          case first=>
           clear hvar hZ hmz;rcases hhd with her|⟨hr0,her,q,hq,t1⟩
           all_goals
            go_wp2_with fail
            go_meet
            case rel=>exact ⟨rfl,rfl⟩
          case rest=>
           clear hhd;obtain ⟨rfl,hwc⟩:=hcut;obtain rfl:=hwc.symm;go_wp2_with fail;refine (HRO.out _).mono ?_;rintro e w' ⟨rfl,hw'⟩;obtain rfl:=hw'.symm;rcases hvar with ⟨hgg,hmI,hvar⟩|⟨hgg,hmI,g1,g4,gl⟩
           ·go_upto_region 19 with (fail)
            go_cut [118] (fun u wc=>u=.bool true∧wc=w2)
            case first=>
             clear hZ hmz hgg hmI;rcases hvar with g1|⟨g1,g4⟩|⟨g1,g4,gl⟩
             all_goals
              go_wp2_with fail
              go_meet
              case rel=>exact ⟨rfl,rfl⟩
            case rest=>
             clear hvar;obtain ⟨rfl,hwc⟩:=hcut;obtain rfl:=hwc.symm;go_wp2_with fail;go_quiet ((go_at_call 28;exact Calls.quiet_of_same (HI.out _)))
             go_wp2_with fail;refine bodyPost_ret (v:=.tuple #[.int .u8 (c.toNat:Int),.int .i64 V,.int .i64 (I+N+1+GG:Nat),.string Z,.bool true]) (by simp [results,Tryz.results71,go_sem,hZ,hmI,hgg]) rfl ⟨(by rw [HQ.out]),bD HB.out nq⟩
           ·go_wp2_with fail;go_quiet ((go_at_call 28;exact Calls.quiet_of_same (HI.out _)))
            go_wp2_with fail;refine bodyPost_ret (v:=.tuple #[.int .u8 (c.toNat:Int),.int .i64 V,.int .i64 (I+N+1+GG:Nat),.string Z,.bool true]) (by simp [results,Tryz.results71,go_sem,hZ,hmI,hgg]) rfl ⟨(by rw [HQ.out]),bD HB.out nq⟩
      ·have HQ:=zh (HNO.out (h1.elim (fun h=>Or.inl h) (fun h=>Or.inr (Or.inl h))));clear h1;rcases hcn with ⟨k0,kn,u1,u2,u3⟩|⟨k0,k2,u1,u2⟩
       all_goals
        go_wp2_with fail;refine bodyPost_ret (v:=.tuple #[.int .u8 0,.int .i64 0,.int .i64 0,.string ⟨#[]⟩,.bool false]) (by simp [results,Tryz.results71,go_sem]) rfl ⟨(by rw [HQ.out];rfl),HB.out⟩
     ·have q1:(X.size:Int) <= (N:Int):=(by omega);have HQ:=zh (HNO0.out (Or.inr (Or.inr (Or.inr (Or.inl (by rw [HNV.out];exact List.getElem?_eq_none (by rw [<- Lib.size_eq];omega)))))));go_wp2_with fail;refine bodyPost_ret (v:=.tuple #[.int .u8 0,.int .i64 0,.int .i64 0,.string ⟨#[]⟩,.bool false]) (by simp [results,Tryz.results71,go_sem]) rfl ⟨(by rw [HQ.out];rfl),HB.out⟩
   ·have HQ:=zh (HNO0.out (Or.inr (Or.inr (Or.inl rfl))));go_wp2_with fail;refine bodyPost_ret (v:=.tuple #[.int .u8 0,.int .i64 0,.int .i64 0,.string ⟨#[]⟩,.bool false]) (by simp [results,Tryz.results71,go_sem]) rfl ⟨(by rw [HQ.out];rfl),HB.out⟩
  ·have he:=aS (s:=X) (by omega);have HQ:=zh (HNO0.out (Or.inr (Or.inl (bG X (by omega)))));go_wp2_with fail;refine bodyPost_ret (v:=.tuple #[.int .u8 0,.int .i64 0,.int .i64 0,.string ⟨#[]⟩,.bool false]) (by simp [results,Tryz.results71,go_sem]) rfl ⟨(by rw [HQ.out];rfl),HB.out⟩
end Go.Proofs.YtcannffahjbjnaaGreatDoor
