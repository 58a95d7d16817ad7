import Derived.Test.YtcannffahjbjnaaGreatDoorVwBL
set_option linter.unusedVariables false
set_option linter.unusedSimpArgs false
set_option maxRecDepth 100000
set_option maxHeartbeats 64000000
namespace Go.Proofs.YtcannffahjbjnaaGreatDoor
open Go.RowKit
theorem ct.setPos {B b:Nat} {w w1:World} {lv:Value} {d:Nat} {ov:Value} {p1:Nat} {o:List aI} (h:ct B b w lv d ov p1 o w1) (hb:B <= b) (p:Nat) (u:Value) (hu:u=.int .i64 (p:Int)):ct B b w lv d ov p o (w1.setCell ⟨b,1,none⟩ u):=by
 obtain ⟨ov',h1,h2,h3⟩:=h;exact ⟨ov',by rw [hu];exact h1.setPos p,h2.setPos hb _,h3⟩
theorem zw {ls:List (List UInt8)} {s:List UInt8} {i a e:Nat} (h:ls[i]? =some s) (hb:aJ s=true):aN (ls.drop i) a e=aN (ls.drop (i+1)) (a+1) e:=by
 obtain ⟨hi,rfl⟩:=List.getElem?_eq_some_iff.1 h;rw [List.drop_eq_getElem_cons hi,aN,if_pos hb]
theorem Bx {ls:List (List UInt8)} {s:List UInt8} {i a e:Nat} (h:ls[i]? =some s) (hb:aJ s=false) (h4:4 <= bz s):aN (ls.drop i) a e=aN (ls.drop (i+1)) (a+1) (a+1):=by
 obtain ⟨hi,rfl⟩:=List.getElem?_eq_some_iff.1 h;rw [List.drop_eq_getElem_cons hi,aN,if_neg (by rw [hb];simp),if_pos h4]
theorem Bz {ls:List (List UInt8)} {s:List UInt8} {i a e:Nat} (h:ls[i]? =some s) (hb:aJ s=false) (h4:¬4 <= bz s):aN (ls.drop i) a e=e:=by
 obtain ⟨hi,rfl⟩:=List.getElem?_eq_some_iff.1 h;rw [List.drop_eq_getElem_cons hi,aN,if_neg (by rw [hb];simp),if_neg h4]
theorem yP {B b:Nat} {w:World} {g o:Nat} {lcap:Nat} {ls:List (List UInt8)} {pos d:Nat} {ov:Value} {out:List aI} (h:eF B b w (some ⟨g,o,none⟩) lcap ls pos d ov out) (hp0:pos<ls.length):
  Calls Tryz.prog 156 #[.pointer (some ⟨b,0,none⟩)] w fun e w'=>e=.returned (.tuple #[])∧ct B b w (.slice (some ⟨g,o,none⟩) ls.length lcap) d ov (pos+aN (ls.drop pos) 0 0) (out++[pT d [] ((ls.drop pos).take (aN (ls.drop pos) 0 0)) 4]) w':=by
 obtain ⟨E,hE⟩:∃E,aN (ls.drop pos) 0 0=E:=⟨_,rfl⟩
 rw [hE];have HE:=zh hE;have HH:=zh h;obtain ⟨c0,c1,c2,c3⟩:=h.pr.cells;have hll:=h.ll;clear hE h;go_enter Tryz.func156,Tryz.ntmps156
 go_wp2_with fail;go_loopw [2,3] (fun u2 u3 wr=>∃i e:Nat,pos <= e∧e <= i∧i <= ls.length∧u2=.int .i64 e∧u3=.int .i64 i∧Below w.heap.size w wr∧aN (ls.drop i) (i - pos) (e - pos)=E) (fun _ u3 _=>ls.length - (intOf u3).toNat)
 case atStart=>exact ⟨pos,pos,Nat.le_refl _,Nat.le_refl _,by omega,rfl,rfl,Below.refl _ _,by rw [Nat.sub_self];exact HE.out⟩
 case round=>
  obtain ⟨i,e0,hpe,hei,hil,rfl,rfl,hbw,hen⟩:=hrel;clear c0 c1 c2 c3;have hin:=HH.out.below hbw;obtain ⟨c0,c1,c2,c3⟩:=hin.pr.cells;by_cases hlt:i<ls.length
  ·obtain ⟨X,hx,hcl,hXz⟩:=hin.line i hlt;have hbl:=fun W=>dZ X W (by omega);have hid:=fun W=>gB X W hXz;obtain ⟨bv,hbv⟩:∃b,aJ X.data.toList=b:=⟨_,rfl⟩
   obtain ⟨I,hI⟩:∃I,bz X.data.toList=I:=⟨_,rfl⟩
   rw [hbv]at hbl;rw [hI]at hid;have HBL:=zh hbl;have HID:=zh hid;have HBV:=zh hbv;have HII:=zh hI;have HBW:=zh hbw;have HEN:=zh hen;have HX:=zh hx;have hil2:(i:Int)<(ls.length:Int):=(by omega);clear hbl hid hbv hI hbw hen hx hin c1 c2 c3;cases bv
   ·go_wp2_with fail;refine (HBL.out _).mono ?_;rintro e w2 ⟨rfl,b2⟩;have c0':=(b2.cell (World.block_lt_of_cell? _ _ c0)).trans c0;have hcl':=(b2.cell (World.block_lt_of_cell? _ _ hcl)).trans hcl;have HB2:=zh (aa HBW.out b2);clear b2 c0 hcl HBW;go_wp2_with fail;refine (HID.out _).mono ?_;rintro e w3 ⟨rfl,b3⟩;have c0:=(b3.cell (World.block_lt_of_cell? _ _ c0')).trans c0';have hcl:=(b3.cell (World.block_lt_of_cell? _ _ hcl')).trans hcl';have HB3:=zh (aa HB2.out b3);clear b3 c0' hcl' HB2;by_cases h4:4 <= I
    ·have q4:(4:Int) <= (I:Int):=(by omega);have HN:=zh (show aN (ls.drop (i+1)) (i - pos+1) (i - pos+1)=E by rw [<- Bx HX.out HBV.out (by rw [HII.out];exact h4)];exact HEN.out);go_wp2_with fail;refine (HBL.out _).mono ?_;rintro e w4 ⟨rfl,b4⟩;have HB4:=zh (aa HB3.out b4);clear b4 c0 hcl;go_wp2_with fail;go_roundw;case rel=>exact ⟨i+1,i+1,by omega,by omega,by omega,by go_num,by go_num,HB4.out,by rw [show i+1 - pos=i - pos+1 by omega];exact HN.out⟩
     case measure=>simp [intOf];omega
    ·have q4:¬(4:Int) <= (I:Int):=(by omega);have HEN:=zh (show e0 - pos=E by rw [<- HEN.out];exact (Bz HX.out HBV.out (by rw [HII.out];exact h4)).symm);have HBW:=HB3;have hge:=HEN.out;have hpe2:e0 - pos=E:=hge;have hEE:pos+E=e0:=(by omega);have HEE:=zh (And.intro hpe2 hEE);have HI2:=zh (HH.out.below HBW.out);have HK2:=zh (Kp.of_below (b:=b) (ov:=ov) HBW.out HH.out.hB);obtain ⟨c0,c1,c2,c3⟩:=HI2.out.pr.cells;have hlc:=HI2.out.lc;have d0:w3.drew.cell? ⟨b,0,none⟩=some (.slice (some ⟨g,o,none⟩) ls.length lcap):=c0;have d1:w3.drew.cell? ⟨b,1,none⟩=some (.int .i64 (pos:Int)):=c1;have k1:e0 <= lcap:=(by omega);have k2:¬lcap=pos:=(by omega);have hsub:=(HI2.out.lr.below (Below.refl _ w3).drew).sub pos e0 (by omega) hpe;have hjl:((ls.drop pos).take (e0 - pos)).length=e0 - pos:=(by simp;omega);have hjt:fD ((ls.drop pos).take (e0 - pos)) <= 1000000:=by
      have h2:=fB (ls.drop pos) (e0 - pos);have h3:=eD ls pos;have h4:=HI2.out.lt;omega
     have hc:=rs (B:=B) (b:=b) ⟨#[]⟩ (some ⟨g,o+pos,none⟩) (lcap - pos) _ 4 (HI2.out.pr.below (Below.refl _ w3).drew) HI2.out.ol hsub hjt (by omega);rw [hjl]at hc;have HC:=zh hc;clear c0 c1 c2 c3 hsub hjl hjt hc hpe2 hEE hge;go_wp2_with fail;refine aQ (S:=fun j W'=>([4,8].contains j=true) ->W'.cell? ⟨b,0,none⟩=some (.slice (some ⟨g,o,none⟩) ls.length lcap)∧W'.cell? ⟨b,1,none⟩=some (.int .i64 (pos:Int))) (by kernel_rfl) ?_;refine bC 0 53 ?_;simp only [List.set];refine bC 1 54 ?_;simp only [List.set];refine bC 2 55 ?_;simp only [List.set];refine bC 3 56 ?_;simp only [List.set];refine bC 5 58 ?_;simp only [List.set];refine bC 6 59 ?_;simp only [List.set];refine bC 7 60 ?_;simp only [List.set];refine bC 9 62 ?_;simp only [List.set];refine ga 4 57 ?_ rfl [8] (by kernel_rfl) (fun _ _ _ h=>h) (by decide) rfl (Or.inl ⟨by rfl,?_⟩) ⟨d0,d1⟩ ?_;rotate_left
     ·rintro w' ⟨s0,s1⟩;go_simp<;>with_reducible rfl
     simp only [List.set];refine ga 8 61 ?_ rfl [8] (by kernel_rfl) (fun _ _ _ h=>h) (by decide) rfl (Or.inl ⟨by rfl,?_⟩) ⟨d0,d1⟩ ?_;rotate_left
     ·rintro w' ⟨s0,s1⟩;go_simp<;>with_reducible rfl
     simp only [List.set];refine bC 10 63 ?_;simp only [List.set];refine ac (i:=11) (by kernel_rfl) rfl (fun K' hK=>?_);have HKK:=zh hK;clear hK;go_simp
     refine HC.out.mono ?_;rintro e w9 ⟨rfl,hp3⟩;have hp4:=ct.trans (HK2.out.step (Below.refl _ w3).drew HH.out.hB) (Or.inl rfl) hp3;obtain ⟨ov3,hb3,_⟩:=id hp4;have f1:=hb3.frozen 1;have c1:=hb3.cells.2.1;have HP4:=zh hp4;clear hp3 hp4 hb3 d0 d1;go_wp2_with fail;refine HKK.out _ _ ⟨fun h=>absurd h (by decide),?_⟩;clear HKK K';try simp only [Act.put,List.setIfInBounds_toArray,List.set_cons_zero,List.set_cons_succ,List.getElem_toArray,List.getElem_cons_zero,List.getElem_cons_succ]
     refine aP (by kernel_rfl) ?_ _;go_wp2_with fail
     go_end0
     refine ⟨rfl,?_⟩;have hp:=HP4.out.setPos HH.out.pr.base e0 _ rfl;rw [HEE.out.1]at hp;rw [HEE.out.2];exact hp
   ·go_wp2_with fail;refine (HBL.out _).mono ?_;rintro e w2 ⟨rfl,b2⟩;have c0':=(b2.cell (World.block_lt_of_cell? _ _ c0)).trans c0;have hcl':=(b2.cell (World.block_lt_of_cell? _ _ hcl)).trans hcl;have HB2:=zh (aa HBW.out b2);have HN:=zh (show aN (ls.drop (i+1)) (i - pos+1) (e0 - pos)=E by rw [<- zw HX.out HBV.out];exact HEN.out);clear b2 c0 hcl HBW;go_wp2_with fail;refine (HBL.out _).mono ?_;rintro e w4 ⟨rfl,b4⟩;have HB4:=zh (aa HB2.out b4);clear b4 c0' hcl';go_wp2_with fail;go_roundw;case rel=>exact ⟨i+1,e0,by omega,by omega,by omega,rfl,by go_num,HB4.out,by rw [show i+1 - pos=i - pos+1 by omega];exact HN.out⟩
    case measure=>simp [intOf];omega
  ·have hie:i=ls.length:=(by omega);have HBW:=zh hbw;have HEN:=zh (show e0 - pos=E by rw [hie,List.drop_length]at hen;exact hen);have hil2:¬(i:Int)<(ls.length:Int):=(by omega);clear hen hin hbw c1 c2 c3;have hge:=HEN.out;have hpe2:e0 - pos=E:=hge;have hEE:pos+E=e0:=(by omega);have HEE:=zh (And.intro hpe2 hEE);have HI2:=zh (HH.out.below HBW.out);have HK2:=zh (Kp.of_below (b:=b) (ov:=ov) HBW.out HH.out.hB);obtain ⟨c0,c1,c2,c3⟩:=HI2.out.pr.cells;have hlc:=HI2.out.lc;have d0:wr.drew.cell? ⟨b,0,none⟩=some (.slice (some ⟨g,o,none⟩) ls.length lcap):=c0;have d1:wr.drew.cell? ⟨b,1,none⟩=some (.int .i64 (pos:Int)):=c1;have k1:e0 <= lcap:=(by omega);have k2:¬lcap=pos:=(by omega);have hsub:=(HI2.out.lr.below (Below.refl _ wr).drew).sub pos e0 (by omega) hpe;have hjl:((ls.drop pos).take (e0 - pos)).length=e0 - pos:=(by simp;omega);have hjt:fD ((ls.drop pos).take (e0 - pos)) <= 1000000:=by
    have h2:=fB (ls.drop pos) (e0 - pos);have h3:=eD ls pos;have h4:=HI2.out.lt;omega
   have hc:=rs (B:=B) (b:=b) ⟨#[]⟩ (some ⟨g,o+pos,none⟩) (lcap - pos) _ 4 (HI2.out.pr.below (Below.refl _ wr).drew) HI2.out.ol hsub hjt (by omega);rw [hjl]at hc;have HC:=zh hc;clear c0 c1 c2 c3 hsub hjl hjt hc hpe2 hEE hge;go_wp2_with fail;refine aQ (S:=fun j W'=>([4,8].contains j=true) ->W'.cell? ⟨b,0,none⟩=some (.slice (some ⟨g,o,none⟩) ls.length lcap)∧W'.cell? ⟨b,1,none⟩=some (.int .i64 (pos:Int))) (by kernel_rfl) ?_;refine bC 0 53 ?_;simp only [List.set];refine bC 1 54 ?_;simp only [List.set];refine bC 2 55 ?_;simp only [List.set];refine bC 3 56 ?_;simp only [List.set];refine bC 5 58 ?_;simp only [List.set];refine bC 6 59 ?_;simp only [List.set];refine bC 7 60 ?_;simp only [List.set];refine bC 9 62 ?_;simp only [List.set];refine ga 4 57 ?_ rfl [8] (by kernel_rfl) (fun _ _ _ h=>h) (by decide) rfl (Or.inl ⟨by rfl,?_⟩) ⟨d0,d1⟩ ?_;rotate_left
   ·rintro w' ⟨s0,s1⟩;go_simp<;>with_reducible rfl
   simp only [List.set];refine ga 8 61 ?_ rfl [8] (by kernel_rfl) (fun _ _ _ h=>h) (by decide) rfl (Or.inl ⟨by rfl,?_⟩) ⟨d0,d1⟩ ?_;rotate_left
   ·rintro w' ⟨s0,s1⟩;go_simp<;>with_reducible rfl
   simp only [List.set];refine bC 10 63 ?_;simp only [List.set];refine ac (i:=11) (by kernel_rfl) rfl (fun K' hK=>?_);have HKK:=zh hK;clear hK;go_simp
   refine HC.out.mono ?_;rintro e w9 ⟨rfl,hp3⟩;have hp4:=ct.trans (HK2.out.step (Below.refl _ wr).drew HH.out.hB) (Or.inl rfl) hp3;obtain ⟨ov3,hb3,_⟩:=id hp4;have f1:=hb3.frozen 1;have c1:=hb3.cells.2.1;have HP4:=zh hp4;clear hp3 hp4 hb3 d0 d1;go_wp2_with fail;refine HKK.out _ _ ⟨fun h=>absurd h (by decide),?_⟩;clear HKK K';try simp only [Act.put,List.setIfInBounds_toArray,List.set_cons_zero,List.set_cons_succ,List.getElem_toArray,List.getElem_cons_zero,List.getElem_cons_succ]
   refine aP (by kernel_rfl) ?_ _;go_wp2_with fail
   go_end0
   refine ⟨rfl,?_⟩;have hp:=HP4.out.setPos HH.out.pr.base e0 _ rfl;rw [HEE.out.1]at hp;rw [HEE.out.2];exact hp
end Go.Proofs.YtcannffahjbjnaaGreatDoor
