import Derived.Test.YtcannffahjbjnaaGreatDoorVwBM
set_option linter.unusedVariables false
set_option linter.unusedSimpArgs false
set_option maxRecDepth 100000
set_option maxHeartbeats 64000000
namespace Go.Proofs.YtcannffahjbjnaaGreatDoor
open Go.RowKit
def mP (c:UInt8) (n:Nat) (ls:List (List UInt8)):Nat:=(ls.takeWhile fun x=> !eG x c n).length
theorem zj {c:UInt8} {n:Nat} {ls:List (List UInt8)} {s:List UInt8} {i:Nat} (h:ls[i]? =some s) (hb:eG s c n=true):mP c n (ls.drop i)=0:=by
 obtain ⟨hi,rfl⟩:=List.getElem?_eq_some_iff.1 h;unfold mP;rw [List.drop_eq_getElem_cons hi,List.takeWhile_cons_of_neg (by rw [hb];simp)];rfl
theorem Dm {c:UInt8} {n:Nat} {ls:List (List UInt8)} {s:List UInt8} {i:Nat} (h:ls[i]? =some s) (hb:eG s c n=false):mP c n (ls.drop i)=mP c n (ls.drop (i+1))+1:=by
 obtain ⟨hi,rfl⟩:=List.getElem?_eq_some_iff.1 h;unfold mP;rw [List.drop_eq_getElem_cons hi,List.takeWhile_cons_of_pos (by rw [hb];rfl)];rfl
theorem Bo (c:UInt8) (n:Nat) (ls:List (List UInt8)):mP c n (ls.drop ls.length)=0:=by rw [List.drop_length];rfl
theorem C9 {B b:Nat} {w:World} {g o:Nat} {lcap:Nat} {ls:List (List UInt8)} {pos d:Nat} {ov:Value} {out:List aI} (c:UInt8) (n:Nat) (info:ByteArray) (k:Nat) (h:eF B b w (some ⟨g,o,none⟩) lcap ls pos d ov out) (hp0:pos <= ls.length) (hca:c.toNat<128) (hn:n <= 1000000000) (hk:k <= 1000000000):
  Calls Tryz.prog 157 #[.pointer (some ⟨b,0,none⟩),.int .u8 (c.toNat:Int),.int .i64 n,.string info,.int .i64 k] w fun e w'=>e=.returned (.tuple #[])∧ct B b w (.slice (some ⟨g,o,none⟩) ls.length lcap) d ov (pos+mP c n (ls.drop pos)+1) (out++[pT d info.data.toList ((ls.drop pos).take (mP c n (ls.drop pos))) k]) w':=by
 obtain ⟨N,hN⟩:∃N,mP c n (ls.drop pos)=N:=⟨_,rfl⟩
 rw [hN];have HN:=zh hN;have HH:=zh h;obtain ⟨c0,c1,c2,c3⟩:=h.pr.cells;have hll:=h.ll;clear hN h;go_enter Tryz.func157,Tryz.ntmps157
 go_wp2_with fail;go_loopw [] (fun wr=>∃i:Nat,pos <= i∧i <= ls.length∧eF B b wr (some ⟨g,o,none⟩) lcap ls i d ov out∧Kp B b ov w wr∧i+mP c n (ls.drop i)=pos+N) (fun wr=>ls.length - (intOf ((wr.cell? ⟨b,1,none⟩).getD undef)).toNat)
 case atStart=>exact ⟨pos,Nat.le_refl _,hp0,HH.out,Kp.refl _ _ _ _,by rw [HN.out]⟩
 case round=>
  obtain ⟨i,hpi,hil,hin,hkp,hrn⟩:=hrel;clear c0 c1 c2 c3;obtain ⟨c0,c1,c2,c3⟩:=hin.pr.cells;by_cases hlt:i<ls.length
  ·have hltI:(i:Int)<(ls.length:Int):=(by omega);obtain ⟨X,hx,hcl,hXz⟩:=hin.line i hlt;have hbl:=fun W=>wg X c n W hXz hca hn;obtain ⟨bv,hbv⟩:∃b,eG X.data.toList c n=b:=⟨_,rfl⟩
   rw [hbv]at hbl;have HBL:=zh hbl;have HBV:=zh hbv;have HIN:=zh hin;have HKP:=zh hkp;have HRN:=zh hrn;have HX:=zh hx;clear hbl hbv hin hkp hrn hx;have hd:decide ((i:Int)<(ls.length:Int))=true:=decide_eq_true hltI;have ne:Nonempty (fF (Below wr.heap.size wr)):=⟨⟨wr,Below.refl _ _⟩⟩
   have e0:=ay c0;have e1:=ay c1;have e2:=ay hcl;clear c0 c1 c2 c3 hcl;cases bv
   ·go_wp2_with fail;refine aE (R:=Below (wr).heap.size wr) (by kernel_rfl) (by kernel_rfl) (Below.refl _ _).drew ?_;repeat (go_big_quiet_step ((go_at_call 192;exact ek (HBL.out _))))
    refine wpQuiet_nil ?_;rintro w2 ⟨nq,hnq⟩;have hb2:Below (wr).heap.size wr w2:=(by rw [hnq];exact nq.h);clear hnq nq;clear e0 e1 e2 ne;have hrn:=Dm HX.out HBV.out;have HRN2:=zh (show i+1+mP c n (ls.drop (i+1))=pos+N by have:=HRN.out;omega);have HI2:=zh (HIN.out.below hb2);have HK2:=zh (HKP.out.step hb2 HH.out.hB);obtain ⟨c0,c1,c2,c3⟩:=HI2.out.pr.cells;have f1:=HI2.out.pr.frozen 1;clear hb2 hrn c0 c2 c3;go_wp2_with fail;go_roundw;case rel=>exact ⟨i+1,by omega,by omega,HI2.out.setPos (i+1) _ (by go_num) (by omega),HK2.out.setPos HH.out.pr.base _,HRN2.out⟩
    case measure=>
     have h1:=(HI2.out.setPos (i+1) (.int .i64 ((i:Int)+1)) (by go_num) (by omega)).pr.cells.2.1;have h2:=HIN.out.pr.cells.2.1;simp only [h1,h2,Option.getD_some,intOf];omega
   ·go_wp2_with fail;refine aE (R:=Below (wr).heap.size wr) (by kernel_rfl) (by kernel_rfl) (Below.refl _ _).drew ?_;repeat (go_big_quiet_step ((go_at_call 192;exact ek (HBL.out _))))
    refine wpQuiet_nil ?_;rintro w2 ⟨nq,hnq⟩;have hb2:Below (wr).heap.size wr w2:=(by rw [hnq];exact nq.h);clear hnq nq;clear e0 e1 e2 ne;have hr0:=zj HX.out HBV.out;have hN2:i=pos+N:=(by have:=HRN.out;rw [hr0]at this;omega);have HN2:=zh hN2;have HI2:=zh (HIN.out.below hb2);have HK2:=zh (HKP.out.step hb2 HH.out.hB);obtain ⟨c0,c1,c2,c3⟩:=HI2.out.pr.cells;have hlc:=HI2.out.lc;have d0:w2.drew.cell? ⟨b,0,none⟩=some (.slice (some ⟨g,o,none⟩) ls.length lcap):=c0;have d1:w2.drew.cell? ⟨b,1,none⟩=some (.int .i64 (i:Int)):=c1;clear c0 c1 c2 c3 hb2 hr0;by_cases k2:lcap=pos
    ·have hip:i=pos:=(by omega);have hn0:N=0:=(by omega);have HN0:=zh hn0;have hsub:bO w2.drew (some ⟨g,o,none⟩) ([]:List (List UInt8)):=bO.nil _ _ (fun a ha=>by obtain rfl:=Option.some.inj ha;rfl);subst k2;subst hip;clear hN2 hn0 hpi hlc;have HFIN:=zh (show ([]:List (List UInt8))=(ls.drop i).take N from (by rw [HN0.out];rfl));have hjl:(([]:List (List UInt8))).length=0:=(by simp;try omega);have hjt:fD ([]:List (List UInt8)) <= 1000000:=by
      rw [HFIN.out];have h2:=fB (ls.drop i) N;have h3:=eD ls i;have h4:=HI2.out.lt;omega
     have hc:=rs (B:=B) (b:=b) info (some ⟨g,o,none⟩) 0 ([]:List (List UInt8)) k (HI2.out.pr.below (Below.refl _ w2).drew) HI2.out.ol hsub hjt hk;rw [hjl]at hc;have HC:=zh hc;clear hsub hjl hjt hc;go_wp2_with fail;refine aQ (S:=fun j W'=>([5,10].contains j=true) ->W'.cell? ⟨b,0,none⟩=some (.slice (some ⟨g,o,none⟩) ls.length i)∧W'.cell? ⟨b,1,none⟩=some (.int .i64 (i:Int))) (by kernel_rfl) ?_;refine bC 0 48 ?_;simp only [List.set];refine bC 1 49 ?_;simp only [List.set];refine bC 2 50 ?_;simp only [List.set];refine bC 3 51 ?_;simp only [List.set];refine bC 4 52 ?_;simp only [List.set];refine bC 6 54 ?_;simp only [List.set];refine bC 7 55 ?_;simp only [List.set];refine bC 8 56 ?_;simp only [List.set];refine bC 9 57 ?_;simp only [List.set];refine bC 12 60 ?_;simp only [List.set];refine ga 5 53 ?_ rfl [10] (by kernel_rfl) (fun _ _ _ h=>h) (by decide) rfl (Or.inl ⟨by rfl,?_⟩) ⟨d0,d1⟩ ?_;rotate_left
     ·rintro w' ⟨s0,s1⟩;go_simp<;>with_reducible rfl
     simp only [List.set];refine ga 10 58 ?_ rfl [10] (by kernel_rfl) (fun _ _ _ h=>h) (by decide) rfl (Or.inl ⟨by rfl,?_⟩) ⟨d0,d1⟩ ?_;rotate_left
     ·rintro w' ⟨s0,s1⟩;go_simp<;>with_reducible rfl
     simp only [List.set];refine bC 11 59 ?_;simp only [List.set];refine ac (i:=13) (by kernel_rfl) rfl (fun K' hK=>?_);have HKK:=zh hK;clear hK;go_simp
     refine HC.out.mono ?_;rintro e w9 ⟨rfl,hp3⟩;have hp4:=ct.trans (HK2.out.step (Below.refl _ w2).drew HH.out.hB) (Or.inl rfl) hp3;obtain ⟨ov3,hb3,_⟩:=id hp4;have f1:=hb3.frozen 1;have c1:=hb3.cells.2.1;have HP4:=zh hp4;clear hp3 hp4 hb3 d0 d1;go_wp2_with fail;refine HKK.out _ _ ⟨fun h=>absurd h (by decide),?_⟩;clear HKK K';try simp only [Act.put,List.setIfInBounds_toArray,List.set_cons_zero,List.set_cons_succ,List.getElem_toArray,List.getElem_cons_zero,List.getElem_cons_succ]
     refine aP (by kernel_rfl) ?_ _;go_wp2_with fail
     go_end0
     refine ⟨rfl,?_⟩;have hp:=HP4.out.setPos HH.out.pr.base (i+1) (.int .i64 ((i:Int)+1)) (by go_num);rw [HFIN.out]at hp;rw [<- HN2.out];exact hp
    ·have hsub:=(HI2.out.lr.below (Below.refl _ w2).drew).sub pos i (by omega) hpi;have HIP:=zh (show i - pos=N by omega);have k1:i <= lcap:=(by omega);clear hN2;have HFIN:=zh (show ((ls.drop pos).take (i - pos))=(ls.drop pos).take N from (by rw [HIP.out]));have hjl:(((ls.drop pos).take (i - pos))).length=(i - pos):=(by simp;try omega);have hjt:fD ((ls.drop pos).take (i - pos)) <= 1000000:=by
      rw [HFIN.out];have h2:=fB (ls.drop pos) N;have h3:=eD ls pos;have h4:=HI2.out.lt;omega
     have hc:=rs (B:=B) (b:=b) info (some ⟨g,o+pos,none⟩) (lcap - pos) ((ls.drop pos).take (i - pos)) k (HI2.out.pr.below (Below.refl _ w2).drew) HI2.out.ol hsub hjt hk;rw [hjl]at hc;have HC:=zh hc;clear hsub hjl hjt hc;go_wp2_with fail;refine aQ (S:=fun j W'=>([5,10].contains j=true) ->W'.cell? ⟨b,0,none⟩=some (.slice (some ⟨g,o,none⟩) ls.length lcap)∧W'.cell? ⟨b,1,none⟩=some (.int .i64 (i:Int))) (by kernel_rfl) ?_;refine bC 0 48 ?_;simp only [List.set];refine bC 1 49 ?_;simp only [List.set];refine bC 2 50 ?_;simp only [List.set];refine bC 3 51 ?_;simp only [List.set];refine bC 4 52 ?_;simp only [List.set];refine bC 6 54 ?_;simp only [List.set];refine bC 7 55 ?_;simp only [List.set];refine bC 8 56 ?_;simp only [List.set];refine bC 9 57 ?_;simp only [List.set];refine bC 12 60 ?_;simp only [List.set];refine ga 5 53 ?_ rfl [10] (by kernel_rfl) (fun _ _ _ h=>h) (by decide) rfl (Or.inl ⟨by rfl,?_⟩) ⟨d0,d1⟩ ?_;rotate_left
     ·rintro w' ⟨s0,s1⟩;go_simp<;>with_reducible rfl
     simp only [List.set];refine ga 10 58 ?_ rfl [10] (by kernel_rfl) (fun _ _ _ h=>h) (by decide) rfl (Or.inl ⟨by rfl,?_⟩) ⟨d0,d1⟩ ?_;rotate_left
     ·rintro w' ⟨s0,s1⟩;go_simp<;>with_reducible rfl
     simp only [List.set];refine bC 11 59 ?_;simp only [List.set];refine ac (i:=13) (by kernel_rfl) rfl (fun K' hK=>?_);have HKK:=zh hK;clear hK;go_simp
     refine HC.out.mono ?_;rintro e w9 ⟨rfl,hp3⟩;have hp4:=ct.trans (HK2.out.step (Below.refl _ w2).drew HH.out.hB) (Or.inl rfl) hp3;obtain ⟨ov3,hb3,_⟩:=id hp4;have f1:=hb3.frozen 1;have c1:=hb3.cells.2.1;have HP4:=zh hp4;clear hp3 hp4 hb3 d0 d1;go_wp2_with fail;refine HKK.out _ _ ⟨fun h=>absurd h (by decide),?_⟩;clear HKK K';try simp only [Act.put,List.setIfInBounds_toArray,List.set_cons_zero,List.set_cons_succ,List.getElem_toArray,List.getElem_cons_zero,List.getElem_cons_succ]
     refine aP (by kernel_rfl) ?_ _;go_wp2_with fail
     go_end0
     refine ⟨rfl,?_⟩;have hp:=HP4.out.setPos HH.out.pr.base (i+1) (.int .i64 ((i:Int)+1)) (by go_num);rw [HFIN.out]at hp;rw [<- HN2.out];exact hp
  ·have hie:i=ls.length:=(by omega);have HIN:=zh hin;have HKP:=zh hkp;have HRN:=zh hrn;have ne:Nonempty (fF (Below wr.heap.size wr)):=⟨⟨wr,Below.refl _ _⟩⟩
   have e0:=ay c0;have e1:=ay c1;have hd:decide ((i:Int)<(ls.length:Int))=false:=(by rw [hie];simp);have hr0:mP c n (ls.drop i)=0:=(by rw [hie];exact Bo c n ls);have HR0:=zh hr0;clear hin hkp hrn c0 c1 c2 c3 hr0 hie;go_wp2_with fail;refine aE (R:=Below (wr).heap.size wr) (by kernel_rfl) (by kernel_rfl) (Below.refl _ _).drew ?_;repeat (go_big_quiet_step (fail))
   refine wpQuiet_nil ?_;rintro w2 ⟨nq,hnq⟩;have hb2:Below (wr).heap.size wr w2:=(by rw [hnq];exact nq.h);clear hnq nq;clear e0 e1 ne;have hr0:=HR0.out;have hN2:i=pos+N:=(by have:=HRN.out;rw [hr0]at this;omega);have HN2:=zh hN2;have HI2:=zh (HIN.out.below hb2);have HK2:=zh (HKP.out.step hb2 HH.out.hB);obtain ⟨c0,c1,c2,c3⟩:=HI2.out.pr.cells;have hlc:=HI2.out.lc;have d0:w2.drew.cell? ⟨b,0,none⟩=some (.slice (some ⟨g,o,none⟩) ls.length lcap):=c0;have d1:w2.drew.cell? ⟨b,1,none⟩=some (.int .i64 (i:Int)):=c1;clear c0 c1 c2 c3 hb2 hr0;by_cases k2:lcap=pos
   ·have hip:i=pos:=(by omega);have hn0:N=0:=(by omega);have HN0:=zh hn0;have hsub:bO w2.drew (some ⟨g,o,none⟩) ([]:List (List UInt8)):=bO.nil _ _ (fun a ha=>by obtain rfl:=Option.some.inj ha;rfl);subst k2;subst hip;clear hN2 hn0 hpi hlc;have HFIN:=zh (show ([]:List (List UInt8))=(ls.drop i).take N from (by rw [HN0.out];rfl));have hjl:(([]:List (List UInt8))).length=0:=(by simp;try omega);have hjt:fD ([]:List (List UInt8)) <= 1000000:=by
     rw [HFIN.out];have h2:=fB (ls.drop i) N;have h3:=eD ls i;have h4:=HI2.out.lt;omega
    have hc:=rs (B:=B) (b:=b) info (some ⟨g,o,none⟩) 0 ([]:List (List UInt8)) k (HI2.out.pr.below (Below.refl _ w2).drew) HI2.out.ol hsub hjt hk;rw [hjl]at hc;have HC:=zh hc;clear hsub hjl hjt hc;go_wp2_with fail;refine aQ (S:=fun j W'=>([5,10].contains j=true) ->W'.cell? ⟨b,0,none⟩=some (.slice (some ⟨g,o,none⟩) ls.length i)∧W'.cell? ⟨b,1,none⟩=some (.int .i64 (i:Int))) (by kernel_rfl) ?_;refine bC 0 48 ?_;simp only [List.set];refine bC 1 49 ?_;simp only [List.set];refine bC 2 50 ?_;simp only [List.set];refine bC 3 51 ?_;simp only [List.set];refine bC 4 52 ?_;simp only [List.set];refine bC 6 54 ?_;simp only [List.set];refine bC 7 55 ?_;simp only [List.set];refine bC 8 56 ?_;simp only [List.set];refine bC 9 57 ?_;simp only [List.set];refine bC 12 60 ?_;simp only [List.set];refine ga 5 53 ?_ rfl [10] (by kernel_rfl) (fun _ _ _ h=>h) (by decide) rfl (Or.inl ⟨by rfl,?_⟩) ⟨d0,d1⟩ ?_;rotate_left
    ·rintro w' ⟨s0,s1⟩;go_simp<;>with_reducible rfl
    simp only [List.set];refine ga 10 58 ?_ rfl [10] (by kernel_rfl) (fun _ _ _ h=>h) (by decide) rfl (Or.inl ⟨by rfl,?_⟩) ⟨d0,d1⟩ ?_;rotate_left
    ·rintro w' ⟨s0,s1⟩;go_simp<;>with_reducible rfl
    simp only [List.set];refine bC 11 59 ?_;simp only [List.set];refine ac (i:=13) (by kernel_rfl) rfl (fun K' hK=>?_);have HKK:=zh hK;clear hK;go_simp
    refine HC.out.mono ?_;rintro e w9 ⟨rfl,hp3⟩;have hp4:=ct.trans (HK2.out.step (Below.refl _ w2).drew HH.out.hB) (Or.inl rfl) hp3;obtain ⟨ov3,hb3,_⟩:=id hp4;have f1:=hb3.frozen 1;have c1:=hb3.cells.2.1;have HP4:=zh hp4;clear hp3 hp4 hb3 d0 d1;go_wp2_with fail;refine HKK.out _ _ ⟨fun h=>absurd h (by decide),?_⟩;clear HKK K';try simp only [Act.put,List.setIfInBounds_toArray,List.set_cons_zero,List.set_cons_succ,List.getElem_toArray,List.getElem_cons_zero,List.getElem_cons_succ]
    refine aP (by kernel_rfl) ?_ _;go_wp2_with fail
    go_end0
    refine ⟨rfl,?_⟩;have hp:=HP4.out.setPos HH.out.pr.base (i+1) (.int .i64 ((i:Int)+1)) (by go_num);rw [HFIN.out]at hp;rw [<- HN2.out];exact hp
   ·have hsub:=(HI2.out.lr.below (Below.refl _ w2).drew).sub pos i (by omega) hpi;have HIP:=zh (show i - pos=N by omega);have k1:i <= lcap:=(by omega);clear hN2;have HFIN:=zh (show ((ls.drop pos).take (i - pos))=(ls.drop pos).take N from (by rw [HIP.out]));have hjl:(((ls.drop pos).take (i - pos))).length=(i - pos):=(by simp;try omega);have hjt:fD ((ls.drop pos).take (i - pos)) <= 1000000:=by
     rw [HFIN.out];have h2:=fB (ls.drop pos) N;have h3:=eD ls pos;have h4:=HI2.out.lt;omega
    have hc:=rs (B:=B) (b:=b) info (some ⟨g,o+pos,none⟩) (lcap - pos) ((ls.drop pos).take (i - pos)) k (HI2.out.pr.below (Below.refl _ w2).drew) HI2.out.ol hsub hjt hk;rw [hjl]at hc;have HC:=zh hc;clear hsub hjl hjt hc;go_wp2_with fail;refine aQ (S:=fun j W'=>([5,10].contains j=true) ->W'.cell? ⟨b,0,none⟩=some (.slice (some ⟨g,o,none⟩) ls.length lcap)∧W'.cell? ⟨b,1,none⟩=some (.int .i64 (i:Int))) (by kernel_rfl) ?_;refine bC 0 48 ?_;simp only [List.set];refine bC 1 49 ?_;simp only [List.set];refine bC 2 50 ?_;simp only [List.set];refine bC 3 51 ?_;simp only [List.set];refine bC 4 52 ?_;simp only [List.set];refine bC 6 54 ?_;simp only [List.set];refine bC 7 55 ?_;simp only [List.set];refine bC 8 56 ?_;simp only [List.set];refine bC 9 57 ?_;simp only [List.set];refine bC 12 60 ?_;simp only [List.set];refine ga 5 53 ?_ rfl [10] (by kernel_rfl) (fun _ _ _ h=>h) (by decide) rfl (Or.inl ⟨by rfl,?_⟩) ⟨d0,d1⟩ ?_;rotate_left
    ·rintro w' ⟨s0,s1⟩;go_simp<;>with_reducible rfl
    simp only [List.set];refine ga 10 58 ?_ rfl [10] (by kernel_rfl) (fun _ _ _ h=>h) (by decide) rfl (Or.inl ⟨by rfl,?_⟩) ⟨d0,d1⟩ ?_;rotate_left
    ·rintro w' ⟨s0,s1⟩;go_simp<;>with_reducible rfl
    simp only [List.set];refine bC 11 59 ?_;simp only [List.set];refine ac (i:=13) (by kernel_rfl) rfl (fun K' hK=>?_);have HKK:=zh hK;clear hK;go_simp
    refine HC.out.mono ?_;rintro e w9 ⟨rfl,hp3⟩;have hp4:=ct.trans (HK2.out.step (Below.refl _ w2).drew HH.out.hB) (Or.inl rfl) hp3;obtain ⟨ov3,hb3,_⟩:=id hp4;have f1:=hb3.frozen 1;have c1:=hb3.cells.2.1;have HP4:=zh hp4;clear hp3 hp4 hb3 d0 d1;go_wp2_with fail;refine HKK.out _ _ ⟨fun h=>absurd h (by decide),?_⟩;clear HKK K';try simp only [Act.put,List.setIfInBounds_toArray,List.set_cons_zero,List.set_cons_succ,List.getElem_toArray,List.getElem_cons_zero,List.getElem_cons_succ]
    refine aP (by kernel_rfl) ?_ _;go_wp2_with fail
    go_end0
    refine ⟨rfl,?_⟩;have hp:=HP4.out.setPos HH.out.pr.base (i+1) (.int .i64 ((i:Int)+1)) (by go_num);rw [HFIN.out]at hp;rw [<- HN2.out];exact hp
def fN (V:Nat ->List (List UInt8) ->List aI) (d2:Nat):Prop:=
 ∀(B b:Nat) (w:World) (lv:Value) (pos d:Nat) (ov:Value) (out:List aI) (g o cap:Nat) (l:List (List UInt8)),gw B b w lv pos d ov out ->out.length <= 200000000 ->bO w (some ⟨g,o,none⟩) l ->0<l.length ->l.length <= cap ->fD l <= 1000000 ->
  Calls Tryz.prog 194 #[.pointer (some ⟨b,0,none⟩),.int .i64 (d2:Int),.slice (some ⟨g,o,none⟩) l.length cap] w fun e w'=>e=.returned (.tuple #[])∧ct B b w lv d ov pos (out++V d2 l) w'
theorem eF.grownS {B b B2:Nat} {w w':World} {lao:Option Addr} {lcap:Nat} {ls:List (List UInt8)} {pos d:Nat} {ov:Value} {out:List aI} {v:Value} {n:Nat} {xs:List Value} (h:eF B b w lao lcap ls pos d ov out) (hr:w.ownsRow B2 9 1 v n xs) (hB:B <= B2) (hg:w.grownBy w' v.ownBlock):eF B b w' lao lcap ls pos d ov out:=
 ⟨⟨(hg.block b h.pr.lt (cV hr h.pr.heap (by decide))).trans h.pr.heap,World.ownsRow.kept h.pr.own hg (aZ h.pr.own hr (by decide)),h.pr.base⟩,
  h.lr.belowB ((Below.refl B w).grown hg h.hB (fun j hj=>Nat.le_trans hB (World.ownsRow.lt hr j hj).1)) h.lb,h.lb,h.lt,h.lc,h.ps,h.dp,h.ol⟩
theorem Kp.grownS {B b:Nat} {w0 w w':World} {ov:Value} {v:Value} {n:Nat} {xs:List Value} (h:Kp B b ov w0 w) (hB:B <= w0.heap.size) (hr:w.ownsRow w0.heap.size 9 1 v n xs) (hg:w.grownBy w' v.ownBlock):Kp B b ov w0 w':=
 ⟨h.below.grown hg (Nat.le_trans hB h.below.size) (fun j hj=>Nat.le_trans hB (World.ownsRow.lt hr j hj).1),fun k hk hkb hne=>(hg.block k (Nat.lt_of_lt_of_le hk h.below.size) (fun e=>by have:=(World.ownsRow.lt hr k e.symm).1;omega)).trans (h.keep k hk hkb hne)⟩
theorem fC (p:UInt8 ->Bool):∀l:List UInt8,wt (l.dropWhile p) <= wt l
 |[]=>by simp
 |c::t=>by
  by_cases h:p c=true
  ·rw [List.dropWhile_cons_of_pos h,pF];have:=fC p t;omega
  ·rw [List.dropWhile_cons_of_neg h];exact Nat.le_refl _
theorem lM (l p:List UInt8):wt (Lib.trimPrefix l p) <= wt l:=by
 unfold Lib.trimPrefix;split
 ·exact nH _ _
 ·exact Nat.le_refl _
theorem CW (s:List UInt8):wt (dK s).1 <= wt s:=by
 unfold dK;split
 ·refine Nat.le_trans (lM _ _) (Nat.le_trans (lM _ _) ?_);exact fC _ _
 ·simp [wt]
theorem sm:∀l:List (List UInt8),fD (a6 l) <= fD l
 |[]=>Nat.le_refl _
 |s::t=>by
  rw [a6];have ih:=sm t;have hq:=CW s;unfold fD at ih⊢;split
  ·simp only [List.map_cons,List.sum_cons];omega
  ·simp
theorem xi {ls:List (List UInt8)} {s:List UInt8} {i:Nat} (h:ls[i]? =some s) (hb:(dK s).2=false):a6 (ls.drop i)=[]:=by
 obtain ⟨hi,rfl⟩:=List.getElem?_eq_some_iff.1 h;rw [List.drop_eq_getElem_cons hi,a6,if_neg (by rw [hb];simp)]
theorem uR {ls:List (List UInt8)} {s:List UInt8} {i:Nat} (h:ls[i]? =some s) (hb:(dK s).2=true):a6 (ls.drop i)=(dK s).1::a6 (ls.drop (i+1)):=by
 obtain ⟨hi,rfl⟩:=List.getElem?_eq_some_iff.1 h;rw [List.drop_eq_getElem_cons hi,a6,if_pos hb]
theorem D9 (V:Nat ->List (List UInt8) ->List aI) {B b:Nat} {w:World} {g o:Nat} {lcap:Nat} {ls:List (List UInt8)} {pos d:Nat} {ov:Value} {out:List aI} (h:eF B b w (some ⟨g,o,none⟩) lcap ls pos d ov out) (hp0:pos <= ls.length) (hd12:d<12) (HW:fN V (d+1)) (hq0:0<(a6 (ls.drop pos)).length):
  Calls Tryz.prog 161 #[.pointer (some ⟨b,0,none⟩)] w fun e w'=>e=.returned (.tuple #[])∧ct B b w (.slice (some ⟨g,o,none⟩) ls.length lcap) d ov (pos+(a6 (ls.drop pos)).length) (out++⟨3,d,0,false,[],[]⟩::V (d+1) (a6 (ls.drop pos))) w':=by
 obtain ⟨is,hsi,hs0,hs1,hs2⟩:=info_parts ft;have hqt:=sm (ls.drop pos);have hqt2:=eD ls pos;obtain ⟨Q,hQ⟩:∃Q,a6 (ls.drop pos)=Q:=⟨_,rfl⟩
 rw [hQ]at hq0 hqt⊢;have hqlt:fD Q <= 1000000:=(by have:=h.lt;omega);have hqn:Q.length <= 1000000:=(by have:=pD Q;omega);have HQT:=zh hqlt;have HQ:=zh hQ;have HQ0:=zh hq0;have HH:=zh h;have HW:=zh HW;obtain ⟨c0,c1,c2,c3⟩:=h.pr.cells;have hll:=h.ll;clear hQ hqt hqt2 hqlt hq0 h;go_enter Tryz.func161,Tryz.ntmps161
 go_wp2_with fail;go_loopw [2] (fun u2 wr=>∃(i:Nat) (acc:List (List UInt8)),pos <= i∧i <= ls.length∧eF B b wr (some ⟨g,o,none⟩) lcap ls i d ov out∧Kp B b ov w wr∧ah w.heap.size wr u2 acc∧acc++a6 (ls.drop i)=Q∧i=pos+acc.length) (fun _ wr=>ls.length - (intOf ((wr.cell? ⟨b,1,none⟩).getD undef)).toNat)
 case atStart=>exact ⟨pos,[],Nat.le_refl _,hp0,HH.out,Kp.refl _ _ _ _,World.ownsRow_nil _ _ _ _,by rw [List.nil_append];exact HQ.out,rfl⟩
 case round=>
  obtain ⟨i,acc,hpi,hil,hin,hkp,hown,hacc,hia⟩:=hrel;clear c0 c1 c2 c3;obtain ⟨c0,c1,c2,c3⟩:=hin.pr.cells;have hal:acc.length <= 1000000:=(by omega);have c1w:=c1;have HIN:=zh hin;have HKP:=zh hkp;have HOWN:=zh hown;have HACC:=zh (And.intro hacc hia);have ne:Nonempty (fF (Below wr.heap.size wr)):=⟨⟨wr,Below.refl _ _⟩⟩
  have e0:=ay c0;have e1:=ay c1;clear hkp hown hacc hia c2 c3;by_cases hlt:i<ls.length
  ·have hltI:(i:Int)<(ls.length:Int):=(by omega);obtain ⟨X,hx,hcl,hXz⟩:=hin.line i hlt;have hqu:=fun W=>sl X W hXz;obtain ⟨Y,hY⟩:∃Y:ByteArray,(⟨(dK X.data.toList).1.toArray⟩:ByteArray)=Y:=⟨_,rfl⟩
   have hYl:(dK X.data.toList).1=Y.data.toList:=(by rw [<- hY]);obtain ⟨bv,hbv⟩:∃b,(dK X.data.toList).2=b:=⟨_,rfl⟩
   rw [hY,hbv]at hqu;have HQU:=zh hqu;have HBV:=zh hbv;have HYL:=zh hYl;have HX:=zh hx;clear hqu hbv hY hYl hx hin c0 c1 hcl;go_wp2_with fail;refine aE (R:=Below (wr).heap.size wr) (by kernel_rfl) (by kernel_rfl) (Below.refl _ _).drew ?_;repeat (go_big_quiet_step (fail))
   refine wpQuiet_nil ?_;rintro w2 ⟨nq,hnq⟩;have hb2:Below (wr).heap.size wr w2:=(by rw [hnq];exact nq.h);clear hnq nq;clear e0 e1 ne;have HI2:=zh (HIN.out.below hb2);have HK2:=zh (HKP.out.step hb2 HH.out.hB);have HO2:=zh (ae HOWN.out hb2);have hcl2:=(HI2.out.line i hlt)
   obtain ⟨X',hx',hcl,_⟩:=hcl2;obtain rfl:X'=X:=by
    have:=hx'.symm.trans HX.out;exact iC (Option.some.inj this)
   obtain ⟨c0,c1,_,_⟩:=HI2.out.pr.cells;have ne:Nonempty (fF (Below w2.heap.size w2)):=⟨⟨w2,Below.refl _ _⟩⟩
   have e0:=ay c0;have e1:=ay c1;have e2:=ay hcl;clear hb2 c0 c1 hcl hx' HIN HKP HOWN;go_wp2_with fail;refine aE (R:=Below w2.heap.size w2) (by kernel_rfl) (by kernel_rfl) (Below.refl _ _).drew ?_;repeat (go_big_quiet_step ((go_at_call 193;exact ek (HQU.out _))))
   refine wpQuiet_nil ?_;rintro w3 ⟨nq,hnq⟩;have hb3:Below w2.heap.size w2 w3:=(by rw [hnq];exact nq.h);have HI3:=zh (HI2.out.below hb3);have HK3:=zh (HK2.out.step hb3 HH.out.hB);have HO3:=zh (ae HO2.out hb3);clear hnq nq e0 e1 e2 ne HI2 HK2 HO2 hb3;cases bv
   ·have HIN:=HI3;have HKP:=HK3;have HOWN:=HO3;have HE:=zh (show acc=Q by have:=HACC.out.1;rw [xi HX.out HBV.out,List.append_nil]at this;exact this);clear hpi;have HOQ:=HOWN;rw [HE.out]at HOQ;have hiq:i=pos+Q.length:=(by have:=HACC.out.2;rw [HE.out]at this;exact this);have HIQ:=zh hiq;have hvs:=ab HOWN.out;rw [HE.out]at hvs;obtain ⟨vao,vc,hv,hvr,_,hvle⟩:=hvs;obtain ⟨g2,o2,hg2⟩:=hvr.addr HQ0.out;subst hg2;subst hv;clear hvr hiq HOWN;go_wp2_with fail;refine (pR B b (.slice (some ⟨g,o,none⟩) ls.length lcap) ov i d out ⟨3,0,0,false,[],[]⟩ w3 HIN.out.pr (by have:=HIN.out.ol;omega)).mono ?_;rintro e w9 ⟨rfl,hp9⟩;obtain ⟨ov9,hb9,hk9,ho9⟩:=hp9;have hoq9:=hk9.own HIN.out.pr HOQ.out (by decide) (by decide);have hkk:=HKP.out.trans (Or.inl rfl) hk9;have hcw:=HW.out B b w9 (.slice (some ⟨g,o,none⟩) ls.length lcap) i d ov9 _ g2 o2 vc Q hb9 (by have:=HIN.out.ol;rw [List.length_append];simp;omega) (bT hoq9).2.1 HQ0.out hvle HQT.out;rw [show (((d+1:Nat)):Int)=(d:Int)+1 by omega]at hcw;have ho9':ov9.ownBlock=ov.ownBlock∨∃g,ov9.ownBlock=some g∧w.heap.size <= g:=by
     rcases ho9 with h|⟨q,h,hq⟩
     ·exact Or.inl h
     ·exact Or.inr ⟨q,h,Nat.le_trans HKP.out.below.size hq⟩
    obtain ⟨_,_,c2,_⟩:=hb9.cells;have HCW:=zh hcw;have HKK:=zh (And.intro hkk ho9');clear hb9 hk9 ho9 hoq9 hkk hcw ho9' HIN HKP HOQ;go_wp2_with fail;refine HCW.out.mono ?_;rintro e w10 ⟨rfl,hp10⟩;have HP:=zh (ct.trans HKK.out.1 HKK.out.2 hp10);clear hp10 c2;go_wp2_with fail
    go_end0
    refine ⟨rfl,?_⟩;have hp:=HP.out;rw [HIQ.out,List.append_assoc]at hp;exact hp
   ·go_wp2_with (first
     |(at_builtin;refine wpList_append_own _ rfl _ _ 22 rfl w.heap.size 9 is (.string ⟨#[]⟩) 1 16 Tryz.underlying22 hsi hs0 hs1 hs2 rfl (by decide) _ _ _ rfl (World.ownsRow.alloc HO3.out _) ⟨w3.heap.size,0,none⟩ 1 1 [.string Y] rfl rfl ?c1 ?c2 ?c3 ?c4 ?c5 ?_))
    case c1=>exact aL _ _ _ _ rfl
    case c2=>intro u hu;simp at hu;rcases hu with rfl;rfl
    case c3=>unfold maxLen;omega
    case c4=>omega
    case c5=>have:=HK3.out.below.size;have:=HH.out.hB;simp;omega
    intro v4 w4 hown4 hgrow _;have hg1:=(World.grownBy_alloc w3 (.cells #[.string Y] 9) u2.ownBlock).trans hgrow;have hO4:=ah.snoc hown4 HYL.out.symm;have HI4:=zh (HI3.out.grownS HO3.out HH.out.hB hg1);have HK4:=zh (HK3.out.grownS HH.out.hB HO3.out hg1);have HO4:=zh hO4;obtain ⟨_,c1,_,_⟩:=HI4.out.pr.cells;have f1:=HI4.out.pr.frozen 1;clear hgrow hg1 hO4 hown4 HI3 HK3 HO3;go_wp2_with fail;go_roundw
    case rel=>
     refine ⟨i+1,acc++[(dK X'.data.toList).1],by omega,by omega,HI4.out.setPos (i+1) _ (by go_num) (by omega),HK4.out.setPos HH.out.pr.base _,?_,?_,?_⟩
     ·exact aF (a:=⟨b,1,none⟩) HO4.out HI4.out.pr.heap (by decide) _
     ·have:=HACC.out.1;rw [uR HX.out HBV.out]at this;rw [List.append_assoc];exact this
     ·rw [List.length_append];have:=HACC.out.2;simp;omega
    case measure=>
     have h1:=(HI4.out.setPos (i+1) (.int .i64 ((i:Int)+1)) (by go_num) (by omega)).pr.cells.2.1;simp only [h1,c1w,Option.getD_some,intOf];omega
  ·have hie:i=ls.length:=(by omega);have hd:¬(i:Int)<(ls.length:Int):=(by omega);have HE:=zh (show acc=Q by have:=HACC.out.1;rw [hie,List.drop_length]at this;simpa [a6]using this);clear hin c0 c1 hie;go_wp2_with fail;refine aE (R:=Below (wr).heap.size wr) (by kernel_rfl) (by kernel_rfl) (Below.refl _ _).drew ?_;repeat (go_big_quiet_step (fail))
   refine wpQuiet_nil ?_;rintro w2 ⟨nq,hnq⟩;have hb2:Below (wr).heap.size wr w2:=(by rw [hnq];exact nq.h);clear hnq nq;clear e0 e1 ne;have HI2:=zh (HIN.out.below hb2);have HK2:=zh (HKP.out.step hb2 HH.out.hB);have HO2:=zh (ae HOWN.out hb2);clear HIN HKP HOWN hb2;have HIN:=HI2;have HKP:=HK2;have HOWN:=HO2;clear HI2 HK2 HO2 hpi;have HOQ:=HOWN;rw [HE.out]at HOQ;have hiq:i=pos+Q.length:=(by have:=HACC.out.2;rw [HE.out]at this;exact this);have HIQ:=zh hiq;have hvs:=ab HOWN.out;rw [HE.out]at hvs;obtain ⟨vao,vc,hv,hvr,_,hvle⟩:=hvs;obtain ⟨g2,o2,hg2⟩:=hvr.addr HQ0.out;subst hg2;subst hv;clear hvr hiq HOWN;go_wp2_with fail;refine (pR B b (.slice (some ⟨g,o,none⟩) ls.length lcap) ov i d out ⟨3,0,0,false,[],[]⟩ w2 HIN.out.pr (by have:=HIN.out.ol;omega)).mono ?_;rintro e w9 ⟨rfl,hp9⟩;obtain ⟨ov9,hb9,hk9,ho9⟩:=hp9;have hoq9:=hk9.own HIN.out.pr HOQ.out (by decide) (by decide);have hkk:=HKP.out.trans (Or.inl rfl) hk9;have hcw:=HW.out B b w9 (.slice (some ⟨g,o,none⟩) ls.length lcap) i d ov9 _ g2 o2 vc Q hb9 (by have:=HIN.out.ol;rw [List.length_append];simp;omega) (bT hoq9).2.1 HQ0.out hvle HQT.out;rw [show (((d+1:Nat)):Int)=(d:Int)+1 by omega]at hcw;have ho9':ov9.ownBlock=ov.ownBlock∨∃g,ov9.ownBlock=some g∧w.heap.size <= g:=by
    rcases ho9 with h|⟨q,h,hq⟩
    ·exact Or.inl h
    ·exact Or.inr ⟨q,h,Nat.le_trans HKP.out.below.size hq⟩
   obtain ⟨_,_,c2,_⟩:=hb9.cells;have HCW:=zh hcw;have HKK:=zh (And.intro hkk ho9');clear hb9 hk9 ho9 hoq9 hkk hcw ho9' HIN HKP HOQ;go_wp2_with fail;refine HCW.out.mono ?_;rintro e w10 ⟨rfl,hp10⟩;have HP:=zh (ct.trans HKK.out.1 HKK.out.2 hp10);clear hp10 c2;go_wp2_with fail
   go_end0
   refine ⟨rfl,?_⟩;have hp:=HP.out;rw [HIQ.out,List.append_assoc]at hp;exact hp
theorem zD {col:Nat} {ls:List (List UInt8)} {s:List UInt8} {i k m:Nat} (h:ls[i]? =some s) (hb:aJ s=false) (hc:¬col <= bz s):bI col (ls.drop i) k m=([],m):=by
 obtain ⟨hi,rfl⟩:=List.getElem?_eq_some_iff.1 h;rw [List.drop_eq_getElem_cons hi,bI,if_neg (by rw [hb];simp;omega)]
theorem wK {col:Nat} {ls:List (List UInt8)} {s:List UInt8} {i k m:Nat} (h:ls[i]? =some s) (hb:aJ s=true):bI col (ls.drop i) k m=(cB s col::(bI col (ls.drop (i+1)) (k+1) m).1,(bI col (ls.drop (i+1)) (k+1) m).2):=by
 obtain ⟨hi,rfl⟩:=List.getElem?_eq_some_iff.1 h;rw [List.drop_eq_getElem_cons hi,bI,if_pos (by rw [hb];rfl)];simp only [hb,if_true]
theorem zA {col:Nat} {ls:List (List UInt8)} {s:List UInt8} {i k m:Nat} (h:ls[i]? =some s) (hb:aJ s=false) (hc:col <= bz s):bI col (ls.drop i) k m=(cB s col::(bI col (ls.drop (i+1)) (k+1) (k+1)).1,(bI col (ls.drop (i+1)) (k+1) (k+1)).2):=by
 obtain ⟨hi,rfl⟩:=List.getElem?_eq_some_iff.1 h;rw [List.drop_eq_getElem_cons hi,bI,if_pos (by rw [hb];simp [hc])];simp only [hb];rfl
theorem uo (col:Nat):∀(l:List (List UInt8)) (i m:Nat),fD (bI col l i m).1 <= fD l
 |[],_,_=>Nat.le_refl _
 |s::t,i,m=>by
  rw [bI];have h1:=uo col t (i+1) (if aJ s=true then m else i+1);have h2:=vF s col;split
  ·unfold fD at h1⊢;simp only [List.map_cons,List.sum_cons];omega
  ·simp [fD]
theorem EF {B b:Nat} {w:World} {g o:Nat} {lcap:Nat} {ls:List (List UInt8)} {pos d:Nat} {ov:Value} {out:List aI} (rest:ByteArray) (col:Nat) (h:eF B b w (some ⟨g,o,none⟩) lcap ls pos d ov out) (hp0:pos<ls.length) (hcol:col <= 1000000000):
  Calls Tryz.prog 196 #[.pointer (some ⟨b,0,none⟩),.string rest,.int .i64 col] w fun e w'=>∃v,e=.returned v∧ah w.heap.size w' v ((rest.data.toList::(bI col (ls.drop (pos+1)) 1 1).1).take (bI col (ls.drop (pos+1)) 1 1).2)∧eF B b w' (some ⟨g,o,none⟩) lcap ls (pos+(bI col (ls.drop (pos+1)) 1 1).2) d ov out∧Kp B b ov w w':=by
 obtain ⟨is,hsi,hs0,hs1,hs2⟩:=info_parts ft;obtain ⟨Q,M,hQ⟩:∃Q M,bI col (ls.drop (pos+1)) 1 1=(Q,M):=⟨_,_,rfl⟩
 rw [hQ];simp only;have HQ:=zh hQ;have HH:=zh h;obtain ⟨c0,c1,c2,c3⟩:=h.pr.cells;have f1:=h.pr.frozen 1;have hll:=h.ll;have h2:=h.setPos (pos+1) (.int .i64 ((pos:Int)+1)) (by go_num) (by omega);have hk2:=(Kp.refl B b ov w).setPos h.pr.base (.int .i64 ((pos:Int)+1));have hs2w:(w.setCell ⟨b,1,none⟩ (.int .i64 ((pos:Int)+1))).heap.size=w.heap.size:=(by simp);obtain ⟨d0,d1,_,_⟩:=h2.pr.cells;obtain ⟨W,hW⟩:∃W,w.setCell ⟨b,1,none⟩ (.int .i64 ((pos:Int)+1))=W:=⟨_,rfl⟩
 rw [hW]at h2 hk2 hs2w d0 d1;have hba:Below W.heap.size W (W.alloc (.cells #[.string rest] 9)):=(Below.refl _ _).alloc (Nat.le_refl _) _;have h3:=h2.below hba;have hk3:=hk2.step hba h.hB;have ho3:ah w.heap.size (W.alloc (.cells #[.string rest] 9)) (.slice (some ⟨W.heap.size,0,none⟩) 1 1) [rest.data.toList]:=by
  have:=World.ownsRow_lit (base:=w.heap.size) (e:=9) (size:=1) W #[.string rest] 1 (by rw [hs2w];exact Nat.le_refl _) (by unfold maxLen;omega) rfl;unfold ah fV;simp only [List.map_cons,List.map_nil,Lib.mk_data];exact this
 obtain ⟨e0,e1,_,_⟩:=h3.pr.cells;rw [hs2w]at ho3;have H3:=zh (And.intro h3 (And.intro hk3 ho3));obtain ⟨W3,hW3⟩:∃W',W.alloc (.cells #[.string rest] 9)=W':=⟨_,rfl⟩
 rw [hW3]at H3 e0 e1;clear hQ h h2 hk2 hba h3 hk3 ho3 c2 c3;go_enter Tryz.func196,Tryz.ntmps196
 go_wp2_with fail;clear hW hW3 c0 c1 d0 d1 f1;go_loopw [7,8,9,10] (fun u7 u8 u9 u10 wr=>∃(i many:Nat) (acc:List (List UInt8)),pos+1 <= i∧i <= ls.length∧1 <= many∧many+pos <= i∧u8=.int .i64 many∧u9=.int .i64 ((pos:Int)+(many:Int))∧u10=.int .i64 i∧eF B b wr (some ⟨g,o,none⟩) lcap ls (pos+1) d ov out∧Kp B b ov w wr∧ah w.heap.size wr u7 (rest.data.toList::acc)∧i=pos+1+acc.length∧acc++(bI col (ls.drop i) (i - pos) many).1=Q∧(bI col (ls.drop i) (i - pos) many).2=M) (fun _ _ _ u10 _=>ls.length - (intOf u10).toNat)
 case atStart=>exact ⟨pos+1,1,[],Nat.le_refl _,by omega,Nat.le_refl _,by omega,rfl,by go_num,by go_num,H3.out.1,H3.out.2.1,H3.out.2.2,rfl,by rw [show pos+1 - pos=1 by omega,HQ.out];rfl,by rw [show pos+1 - pos=1 by omega,HQ.out]⟩
 case round=>
  obtain ⟨i,many,acc,hpi,hil,hm1,hmi,rfl,rfl,rfl,hin,hkp,hown,hia,hq1,hq2⟩:=hrel;clear e0 e1;obtain ⟨c0,c1,_,_⟩:=hin.pr.cells;have HKP:=zh hkp;have HOWN:=zh hown;have HIA:=zh hia;obtain ⟨L,hL⟩:∃L,rest.data.toList::acc=L:=⟨_,rfl⟩
  have HL:=zh hL;have HLL:=zh (show L.length=acc.length+1 by rw [<- hL];rfl);have hLb:L.length <= 1000001:=(by have:=HLL.out;omega);rw [hL]at HOWN;clear hL;have HQ12:=zh (And.intro hq1 hq2);have hal:acc.length <= 1000000:=(by omega);by_cases hlt:i<ls.length
  ·obtain ⟨X,hx,hcl,hXz⟩:=hin.line i hlt;have hbl:=fun W=>dZ X W (by omega);have hid:=fun W=>gB X W hXz;have hst:=fun W=>oc X col W hXz hcol;obtain ⟨bv,hbv⟩:∃b,aJ X.data.toList=b:=⟨_,rfl⟩
   obtain ⟨I,hI⟩:∃I,bz X.data.toList=I:=⟨_,rfl⟩
   obtain ⟨Y,hY⟩:∃Y:ByteArray,(⟨(cB X.data.toList col).toArray⟩:ByteArray)=Y:=⟨_,rfl⟩
   have hYl:Y.data.toList=cB X.data.toList col:=(by rw [<- hY]);rw [hbv]at hbl;rw [hI]at hid;rw [hY]at hst;have HBL:=zh hbl;have HID:=zh hid;have HST:=zh hst;have HBV:=zh hbv;have HII:=zh hI;have HYL:=zh hYl;have HX:=zh hx;have HIN:=zh hin;have hil2:(i:Int)<(ls.length:Int):=(by omega);clear hbl hid hst hbv hI hY hYl hx hin hkp hown hq1 hq2 hia c1;cases bv
   ·go_wp2_with fail;refine (HBL.out _).mono ?_;rintro e w2 ⟨rfl,bb⟩;have hin1:=HIN.out.below bb;have hkp1:=HKP.out.step bb HH.out.hB;have hown1:=ae HOWN.out bb;clear HIN HKP HOWN c0 hcl bb;have HIN:=zh hin1;have HKP:=zh hkp1;have HOWN:=zh hown1;obtain ⟨c0,_,_,_⟩:=hin1.pr.cells;obtain ⟨X',hx',hcl,_⟩:=hin1.line i hlt;have hX':X'=X:=iC (Option.some.inj (hx'.symm.trans HX.out));rw [hX']at hcl;clear hx' hX' hin1 hkp1 hown1;go_wp2_with fail;refine (HID.out _).mono ?_;rintro e w3 ⟨rfl,bb⟩;have hin1:=HIN.out.below bb;have hkp1:=HKP.out.step bb HH.out.hB;have hown1:=ae HOWN.out bb;clear HIN HKP HOWN c0 hcl bb;have HIN:=zh hin1;have HKP:=zh hkp1;have HOWN:=zh hown1;obtain ⟨c0,_,_,_⟩:=hin1.pr.cells;obtain ⟨X',hx',hcl,_⟩:=hin1.line i hlt;have hX':X'=X:=iC (Option.some.inj (hx'.symm.trans HX.out));rw [hX']at hcl;clear hx' hX' hin1 hkp1 hown1;by_cases h4:col <= I
    ·have q4:(col:Int) <= (I:Int):=(by omega);have hg:=zA (k:=i - pos) (m:=many) HX.out HBV.out (by rw [HII.out];exact h4);rw [show i - pos+1=i+1 - pos by omega]at hg;have HG:=zh hg;clear hg;go_wp2_with fail;refine (HST.out _).mono ?_;rintro e w5 ⟨rfl,bb⟩;have hin1:=HIN.out.below bb;have hkp1:=HKP.out.step bb HH.out.hB;have hown1:=ae HOWN.out bb;clear HIN HKP HOWN c0 hcl bb;have HIN:=zh hin1;have HKP:=zh hkp1;have HOWN:=zh hown1;obtain ⟨c0,_,_,_⟩:=hin1.pr.cells;obtain ⟨X',hx',hcl,_⟩:=hin1.line i hlt;have hX':X'=X:=iC (Option.some.inj (hx'.symm.trans HX.out));rw [hX']at hcl;clear hx' hX' hin1 hkp1 hown1
     go_wp2_with (first
      |(at_builtin;refine wpList_append_own _ rfl _ _ 22 rfl w.heap.size 9 is (.string ⟨#[]⟩) 1 16 Tryz.underlying22 hsi hs0 hs1 hs2 rfl (by decide) _ _ _ rfl (World.ownsRow.alloc HOWN.out _) ⟨(w5).heap.size,0,none⟩ 1 1 [.string Y] rfl rfl ?c1 ?c2 ?c3 ?c4 ?c5 ?_))
     case c1=>exact aL _ _ _ _ rfl
     case c2=>intro u hu;simp at hu;rcases hu with rfl;rfl
     case c3=>unfold maxLen;omega
     case c4=>omega
     case c5=>have:=HKP.out.below.size;have:=HH.out.hB;simp;have:=HKP.out.below.size;omega
     intro v4 w4 hown4 hgrow _;have hg1:=(World.grownBy_alloc w5 (.cells #[.string Y] 9) u7.ownBlock).trans hgrow;have hO4:=ah.snoc hown4 HYL.out;have hin1:=HIN.out.grownS HOWN.out HH.out.hB hg1;have hkp1:=HKP.out.grownS HH.out.hB HOWN.out hg1;clear HIN HKP HOWN c0 hcl;have HIN:=zh hin1;have HKP:=zh hkp1;have HOWN:=zh hO4;obtain ⟨c0,_,_,_⟩:=hin1.pr.cells;obtain ⟨X',hx',hcl,_⟩:=hin1.line i hlt;have hX':X'=X:=iC (Option.some.inj (hx'.symm.trans HX.out));rw [hX']at hcl;obtain ⟨vao,vc,hv,_⟩:=ab hown4;subst hv;clear hx' hX' hin1 hkp1 hO4 hown4 hgrow hg1;go_wp2_with fail;refine (HBL.out _).mono ?_;rintro e w6 ⟨rfl,bb⟩;have hin1:=HIN.out.below bb;have hkp1:=HKP.out.step bb HH.out.hB;have hown1:=ae HOWN.out bb;clear HIN HKP HOWN c0 hcl bb;have HIN:=zh hin1;have HKP:=zh hkp1;have HOWN:=zh hown1;obtain ⟨c0,_,_,_⟩:=hin1.pr.cells;obtain ⟨X',hx',hcl,_⟩:=hin1.line i hlt;have hX':X'=X:=iC (Option.some.inj (hx'.symm.trans HX.out));rw [hX']at hcl;clear hx' hX' hin1 hkp1 hown1;have HN1:=zh (show ((L.length:Int)+1)=((i+1 - pos:Nat):Int) by have:=HLL.out;have:=HIA.out;omega);have HN2:=zh (show (i:Int)+1=(pos:Int)+((i+1 - pos:Nat):Int) by omega);go_wp2_with fail;go_roundw
     case rel=>
      refine ⟨i+1,i+1 - pos,acc++[cB X.data.toList col],by omega,by omega,by omega,by omega,?_,?_,by go_num,HIN.out,HKP.out,?_,?_,?_,?_⟩
      ·rw [<- HN1.out]
      ·rw [<- HN2.out]
      ·rw [show rest.data.toList::(acc++[cB X.data.toList col])=L++[cB X.data.toList col] by rw [<- HL.out];rfl];exact HOWN.out
      ·rw [List.length_append];have:=HIA.out;simp;omega
      ·have:=HQ12.out.1;rw [HG.out]at this;rw [List.append_assoc];exact this
      ·have:=HQ12.out.2;rw [HG.out]at this;exact this
     case measure=>simp [intOf];omega
    ·have q4:¬(col:Int) <= (I:Int):=(by omega);have hme:acc=Q∧many=M:=by
      have h1:=HQ12.out;rw [zD HX.out HBV.out (by rw [HII.out];exact h4)]at h1;simpa using h1
     clear c0 hcl;have hia2:=HIA.out;have hm2:=fw HOWN.out many (by rw [HLL.out];omega);obtain ⟨vao,vc,hv,_,_,hvle⟩:=ab HOWN.out;subst hv;have ho5:=hm2 _ _ _ rfl;have HO5:=zh ho5;have hn1:(many:Int) <= (vc:Int):=by
      have:many <= vc:=(by rw [HLL.out]at hvle;omega);omega
     obtain ⟨_,c1,_,_⟩:=HIN.out.pr.cells;have f1:=HIN.out.pr.frozen 1;have HME:=zh hme;have HS6:=zh (HIN.out.setPos (pos+many) (.int .i64 ((pos:Int)+(many:Int))) (by go_num) (by omega));have HO6:=zh (aF (a:=⟨b,1,none⟩) HO5.out HIN.out.pr.heap (by decide) (.int .i64 ((pos:Int)+(many:Int))));have HK6:=zh (HKP.out.setPos HH.out.pr.base (.int .i64 ((pos:Int)+(many:Int))));clear ho5 hm2 hvle HOWN hme hia2;go_wp2_with fail;go_ret;refine ⟨_,rfl,?_,?_,HK6.out⟩
     ·have h1:=HO6.out;rw [<- HL.out,HME.out.1,HME.out.2]at h1;unfold ah;rw [Nat.mul_one,<- List.map_take]at h1;rw [List.length_take,List.length_cons,Nat.min_eq_left (by rw [<- HME.out.2,<- HME.out.1];have:=HIA.out;omega)];rw [HME.out.2];exact h1
     ·have h1:=HS6.out;rw [HME.out.2]at h1;rw [HME.out.2];exact h1
   ·have hg:=wK (col:=col) (k:=i - pos) (m:=many) HX.out HBV.out;rw [show i - pos+1=i+1 - pos by omega]at hg;have HG:=zh hg;clear hg;go_wp2_with fail;refine (HBL.out _).mono ?_;rintro e w2 ⟨rfl,bb⟩;have hin1:=HIN.out.below bb;have hkp1:=HKP.out.step bb HH.out.hB;have hown1:=ae HOWN.out bb;clear HIN HKP HOWN c0 hcl bb;have HIN:=zh hin1;have HKP:=zh hkp1;have HOWN:=zh hown1;obtain ⟨c0,_,_,_⟩:=hin1.pr.cells;obtain ⟨X',hx',hcl,_⟩:=hin1.line i hlt;have hX':X'=X:=iC (Option.some.inj (hx'.symm.trans HX.out));rw [hX']at hcl;clear hx' hX' hin1 hkp1 hown1;go_wp2_with fail;refine (HST.out _).mono ?_;rintro e w5 ⟨rfl,bb⟩;have hin1:=HIN.out.below bb;have hkp1:=HKP.out.step bb HH.out.hB;have hown1:=ae HOWN.out bb;clear HIN HKP HOWN c0 hcl bb;have HIN:=zh hin1;have HKP:=zh hkp1;have HOWN:=zh hown1;obtain ⟨c0,_,_,_⟩:=hin1.pr.cells;obtain ⟨X',hx',hcl,_⟩:=hin1.line i hlt;have hX':X'=X:=iC (Option.some.inj (hx'.symm.trans HX.out));rw [hX']at hcl;clear hx' hX' hin1 hkp1 hown1
    go_wp2_with (first
     |(at_builtin;refine wpList_append_own _ rfl _ _ 22 rfl w.heap.size 9 is (.string ⟨#[]⟩) 1 16 Tryz.underlying22 hsi hs0 hs1 hs2 rfl (by decide) _ _ _ rfl (World.ownsRow.alloc HOWN.out _) ⟨(w5).heap.size,0,none⟩ 1 1 [.string Y] rfl rfl ?c1 ?c2 ?c3 ?c4 ?c5 ?_))
    case c1=>exact aL _ _ _ _ rfl
    case c2=>intro u hu;simp at hu;rcases hu with rfl;rfl
    case c3=>unfold maxLen;omega
    case c4=>omega
    case c5=>have:=HKP.out.below.size;have:=HH.out.hB;simp;have:=HKP.out.below.size;omega
    intro v4 w4 hown4 hgrow _;have hg1:=(World.grownBy_alloc w5 (.cells #[.string Y] 9) u7.ownBlock).trans hgrow;have hO4:=ah.snoc hown4 HYL.out;have hin1:=HIN.out.grownS HOWN.out HH.out.hB hg1;have hkp1:=HKP.out.grownS HH.out.hB HOWN.out hg1;clear HIN HKP HOWN c0 hcl;have HIN:=zh hin1;have HKP:=zh hkp1;have HOWN:=zh hO4;obtain ⟨c0,_,_,_⟩:=hin1.pr.cells;obtain ⟨X',hx',hcl,_⟩:=hin1.line i hlt;have hX':X'=X:=iC (Option.some.inj (hx'.symm.trans HX.out));rw [hX']at hcl;obtain ⟨vao,vc,hv,_⟩:=ab hown4;subst hv;clear hx' hX' hin1 hkp1 hO4 hown4 hgrow hg1;go_wp2_with fail;refine (HBL.out _).mono ?_;rintro e w6 ⟨rfl,bb⟩;have hin1:=HIN.out.below bb;have hkp1:=HKP.out.step bb HH.out.hB;have hown1:=ae HOWN.out bb;clear HIN HKP HOWN c0 hcl bb;have HIN:=zh hin1;have HKP:=zh hkp1;have HOWN:=zh hown1;obtain ⟨c0,_,_,_⟩:=hin1.pr.cells;obtain ⟨X',hx',hcl,_⟩:=hin1.line i hlt;have hX':X'=X:=iC (Option.some.inj (hx'.symm.trans HX.out));rw [hX']at hcl;clear hx' hX' hin1 hkp1 hown1;go_wp2_with fail;go_roundw
    case rel=>
     refine ⟨i+1,many,acc++[cB X.data.toList col],by omega,by omega,by omega,by omega,rfl,rfl,by go_num,HIN.out,HKP.out,?_,?_,?_,?_⟩
     ·rw [show rest.data.toList::(acc++[cB X.data.toList col])=L++[cB X.data.toList col] by rw [<- HL.out];rfl];exact HOWN.out
     ·rw [List.length_append];have:=HIA.out;simp;omega
     ·have:=HQ12.out.1;rw [HG.out]at this;rw [List.append_assoc];exact this
     ·have:=HQ12.out.2;rw [HG.out]at this;exact this
    case measure=>simp [intOf];omega
  ·have hie:i=ls.length:=(by omega);have hil2:¬(i:Int)<(ls.length:Int):=(by omega);have hme:acc=Q∧many=M:=by
    have h1:=HQ12.out;rw [hie,List.drop_length]at h1;simpa [bI]using h1
   have HIN:=zh hin;clear hin c1 hie hkp hown hq1 hq2;have hia2:=HIA.out;have hm2:=fw HOWN.out many (by rw [HLL.out];omega);obtain ⟨vao,vc,hv,_,_,hvle⟩:=ab HOWN.out;subst hv;have ho5:=hm2 _ _ _ rfl;have HO5:=zh ho5;have hn1:(many:Int) <= (vc:Int):=by
    have:many <= vc:=(by rw [HLL.out]at hvle;omega);omega
   obtain ⟨_,c1,_,_⟩:=HIN.out.pr.cells;have f1:=HIN.out.pr.frozen 1;have HME:=zh hme;have HS6:=zh (HIN.out.setPos (pos+many) (.int .i64 ((pos:Int)+(many:Int))) (by go_num) (by omega));have HO6:=zh (aF (a:=⟨b,1,none⟩) HO5.out HIN.out.pr.heap (by decide) (.int .i64 ((pos:Int)+(many:Int))));have HK6:=zh (HKP.out.setPos HH.out.pr.base (.int .i64 ((pos:Int)+(many:Int))));clear ho5 hm2 hvle HOWN hme hia2;go_wp2_with fail;go_ret;refine ⟨_,rfl,?_,?_,HK6.out⟩
   ·have h1:=HO6.out;rw [<- HL.out,HME.out.1,HME.out.2]at h1;unfold ah;rw [Nat.mul_one,<- List.map_take]at h1;rw [List.length_take,List.length_cons,Nat.min_eq_left (by rw [<- HME.out.2,<- HME.out.1];have:=HIA.out;omega)];rw [HME.out.2];exact h1
   ·have h1:=HS6.out;rw [HME.out.2]at h1;rw [HME.out.2];exact h1
theorem oJ (s:List UInt8):wt (aH s).2.2.2.1 <= wt s:=by
 unfold aH;simp only;split
 ·simp [wt]
 ·split
  ·simp [wt]
  ·split
   ·simp [wt]
   ·split
    ·simp [wt]
    ·exact Nat.le_trans (nH _ _) (Nat.le_trans (nH _ _) (fC _ _))
theorem EE {B b:Nat} {w:World} {lv:Value} {pos d:Nat} {ov:Value} {out:List aI} (s:ByteArray) (h:gw B b w lv pos d ov out) (hs:s.size <= 1000000) (hsw:wt s.data.toList <= 1000000) (hd:d <= 12):
  Calls Tryz.prog 198 #[.pointer (some ⟨b,0,none⟩),.string s] w fun e w'=>e=.returned (.bool (iI d s.data.toList))∧Below w.heap.size w w':=by
 have HFE:=zh (fun W=>rG s W hs);have HHE:=zh (fun W=>oH s W hs);have hit:=fun W=>mW s W hs;have hrw:=oJ s.data.toList;have HBL:=zh (fun W=>dZ s W (by omega));have HRU:=zh (fun W=>qB s W hs);have hv:iI d s.data.toList=(aJ s.data.toList||(cU s.data.toList).2.2.2||(eK s.data.toList).2.2||fA s.data.toList||dX d s.data.toList||(ep d s.data.toList&& !aJ (aH s.data.toList).2.2.2.1&&((aH s.data.toList).2.1== -1||(aH s.data.toList).2.1==1))):=rfl;obtain ⟨f1,f2,f3,F,hfe⟩:∃a b c e,cU s.data.toList=(a,b,c,e):=⟨_,_,_,_,rfl⟩
 obtain ⟨h1,h2,H,hhe⟩:∃a b e,eK s.data.toList=(a,b,e):=⟨_,_,_,rfl⟩
 obtain ⟨q1,v,q3,rest,q5,hie⟩:∃a b c d e,aH s.data.toList=(a,b,c,d,e):=⟨_,_,_,_,_,rfl⟩
 rw [hfe]at HFE hv;rw [hhe]at HHE hv;rw [hie]at hit hv hrw;simp only at HFE HHE hit hv hrw;obtain ⟨R,hR⟩:∃R,fA s.data.toList=R:=⟨_,rfl⟩
 obtain ⟨BB,hBB⟩:∃R,aJ s.data.toList=R:=⟨_,rfl⟩
 rw [hR]at HRU hv;rw [hBB]at HBL hv;obtain ⟨X,hX⟩:∃X:ByteArray,(⟨rest.toArray⟩:ByteArray)=X:=⟨_,rfl⟩
 have hXl:rest=X.data.toList:=(by rw [<- hX]);rw [hX]at hit;rw [hXl]at hrw hv;have hXz:X.size <= 1000000:=(by rw [Lib.size_eq];unfold wt at hrw hsw;omega);have HBR:=zh (fun W=>dZ X W (by omega));obtain ⟨BR,hBR⟩:∃R,aJ X.data.toList=R:=⟨_,rfl⟩
 rw [hBR]at HBR hv;obtain ⟨J,hJ⟩:∃J,(ep d s.data.toList&& !BR&&(v== -1||v==1))=J:=⟨_,rfl⟩
 rw [hJ]at hv;have HIT:=zh hit;have HV:=zh hv;have HJ:=zh hJ;have HH:=zh h;clear hit hv hfe hhe hie hR hBB hX hXl hrw hBR hJ h;go_enter Tryz.func198,Tryz.ntmps198
 go_wp2_with fail;refine (HFE.out _).mono ?_;rintro e w2 ⟨rfl,b2⟩;have HB2:=zh b2;clear b2;go_wp2_with fail;refine (HHE.out _).mono ?_;rintro e w3 ⟨rfl,b3⟩;have HB3:=zh (aa HB2.out b3);clear b3;go_wp2_with fail;refine (HIT.out _).mono ?_;rintro e w4 ⟨rfl,b4⟩;have HB4:=zh (aa HB3.out b4);clear b4;go_upto_region 4 with (fail)
 go_cut [17] (fun u17 wc=>u17=.bool J∧Below w.heap.size w wc)
 ·go_wp2_with fail;refine (A4 s (HH.out.below HB4.out) hs hd).mono ?_;rintro e w5 ⟨rfl,b5⟩;have HB5:=zh (aa HB4.out b5);clear b5;cases hL:ep d s.data.toList
  ·have hj:J=false:=(by rw [<- HJ.out,hL];rfl);subst hj;go_wp2_with fail
   go_meet
   case rel=>exact ⟨rfl,HB5.out⟩
  ·cases BR
   ·by_cases hv1:v= -1
    ·have hj:J=true:=(by rw [<- HJ.out,hL,hv1];rfl);subst hj;have k1:(v== -1)=true:=(by rw [hv1];rfl);clear hv1;go_wp2_with fail;refine (HBR.out _).mono ?_;rintro e w6 ⟨rfl,b6⟩;have HB6:=zh (aa HB5.out b6);clear b6;go_wp2_with fail
     go_meet
     case rel=>exact ⟨rfl,HB6.out⟩
    ·have k1:(v== -1)=false:=(by simpa using hv1);have hj:J=(v==1):=(by rw [<- HJ.out,hL,k1];simp);subst hj;go_wp2_with fail;refine (HBR.out _).mono ?_;rintro e w6 ⟨rfl,b6⟩;have HB6:=zh (aa HB5.out b6);clear b6;go_wp2_with fail
     go_meet
     case rel=>exact ⟨by simp,HB6.out⟩
   ·have hj:J=false:=(by rw [<- HJ.out,hL];rfl);subst hj;go_wp2_with fail;refine (HBR.out _).mono ?_;rintro e w6 ⟨rfl,b6⟩;have HB6:=zh (aa HB5.out b6);clear b6;go_wp2_with fail
    go_meet
    case rel=>exact ⟨rfl,HB6.out⟩
 case rest=>
 obtain ⟨rfl,hbc⟩:=hcut;have HBC:=zh hbc;clear hbc;cases BB
 ·cases F
  ·cases H
   ·cases R
    ·go_wp2_with fail;refine ((HBL.out _)).mono ?_;rintro e wa ⟨rfl,bb⟩;have HBA:=zh (aa (HBC).out bb);clear bb;go_wp2_with fail;refine ((HRU.out _)).mono ?_;rintro e wb ⟨rfl,bb⟩;have HBB:=zh (aa (HBA).out bb);clear bb;go_wp2_with fail;refine (xW s (HH.out.below HBB.out) hs hd).mono ?_;rintro e wd ⟨rfl,bd⟩;have HBD:=zh (aa HBB.out bd);clear bd;have HF:=zh (show iI d s.data.toList=(dX d s.data.toList||J) by rw [HV.out];simp);cases hq:dX d s.data.toList
     ·have HF2:=zh (show iI d s.data.toList=J by rw [HF.out,hq];simp);go_wp2_with fail;go_ret;exact ⟨by rw [(HF2).out];try rfl,(HBD).out⟩
     ·have HF2:=zh (show iI d s.data.toList=true by rw [HF.out,hq];simp);go_wp2_with fail;go_ret;exact ⟨by rw [(HF2).out];try rfl,(HBD).out⟩
    ·have HF:=zh (show iI d s.data.toList=true by rw [HV.out];simp);go_wp2_with fail;refine ((HBL.out _)).mono ?_;rintro e wa ⟨rfl,bb⟩;have HBA:=zh (aa (HBC).out bb);clear bb;go_wp2_with fail;refine ((HRU.out _)).mono ?_;rintro e wb ⟨rfl,bb⟩;have HBB:=zh (aa (HBA).out bb);clear bb;go_wp2_with fail;go_ret;exact ⟨by rw [(HF).out];try rfl,(HBB).out⟩
   ·have HF:=zh (show iI d s.data.toList=true by rw [HV.out];simp);go_wp2_with fail;refine ((HBL.out _)).mono ?_;rintro e wa ⟨rfl,bb⟩;have HBA:=zh (aa (HBC).out bb);clear bb;go_wp2_with fail;go_ret;exact ⟨by rw [(HF).out];try rfl,(HBA).out⟩
  ·have HF:=zh (show iI d s.data.toList=true by rw [HV.out];simp);go_wp2_with fail;refine ((HBL.out _)).mono ?_;rintro e wa ⟨rfl,bb⟩;have HBA:=zh (aa (HBC).out bb);clear bb;go_wp2_with fail;go_ret;exact ⟨by rw [(HF).out];try rfl,(HBA).out⟩
 ·have HF:=zh (show iI d s.data.toList=true by rw [HV.out];simp);go_wp2_with fail;refine ((HBL.out _)).mono ?_;rintro e wa ⟨rfl,bb⟩;have HBA:=zh (aa (HBC).out bb);clear bb;go_wp2_with fail;go_ret;exact ⟨by rw [(HF).out];try rfl,(HBA).out⟩
end Go.Proofs.YtcannffahjbjnaaGreatDoor
