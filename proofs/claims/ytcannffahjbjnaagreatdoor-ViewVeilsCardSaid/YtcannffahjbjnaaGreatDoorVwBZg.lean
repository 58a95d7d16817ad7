import Derived.Test.YtcannffahjbjnaaGreatDoorVwBZ
set_option linter.unusedVariables false
set_option linter.unusedSimpArgs false
set_option maxRecDepth 100000
set_option maxHeartbeats 64000000
namespace Go.Proofs.YtcannffahjbjnaaGreatDoor
open Go.RowKit
theorem mE (A:ByteArray):(A==A)=true:=by
 obtain ⟨A⟩:=A;show (A==A)=true;simp
theorem aY.dgg {w:World} {g o n:Nat} {l:List pG} (h:aY w 2 (some ⟨g,o,none⟩) n (l.flatMap fH)) (k:Nat) (x:pG) (hk:l[k]? =some x):
  w.cell? ⟨g,o+k*2,none⟩=some (.int .i64 (x.kind:Int))∧w.cell? ⟨g,o+k*2+1,none⟩=some (.string ⟨x.text.toArray⟩):=
 ⟨h.cell (fun _=>rfl) k 0 x _ hk (by omega) rfl,h.cell (fun _=>rfl) k 1 x _ hk (by omega) rfl⟩
theorem vh {w:World} {ao bo:Option Addr} {ca cb:Nat} {l:List aI} (ha:aY w 6 ao l.length (l.flatMap bS)) (hb:aY w 6 bo l.length (l.flatMap bS)) (hl:l.length <= 1000000000000):
  Calls Tryz.prog 8 #[.slice ao l.length ca,.slice bo l.length cb] w fun e w'=>e=.returned (.bool true)∧Below w.heap.size w w':=by
 have HA:=zh ha;have HB:=zh hb;clear ha hb;go_enter Tryz.func8,Tryz.ntmps8
 go_wp2_with fail;go_loopw [5] (fun u5 wr=>∃i:Nat,i <= l.length∧u5=.int .i64 (i:Int)∧Below w.heap.size w wr) (fun u5 _=>l.length - (intOf u5).toNat)
 case atStart=>exact ⟨0,Nat.zero_le _,rfl,Below.refl _ _⟩
 case round=>
  rename World=>wx
  obtain ⟨i,hi,rfl,hbw⟩:=hrel;by_cases hlt:i<l.length
  ·have hltI:(i:Int)<(l.length:Int):=(by omega);obtain ⟨x,hx⟩:∃x,l[i]? =some x:=⟨_,List.getElem?_eq_getElem hlt⟩
   obtain ⟨g1,o1,rfl⟩:=aY.addr HA.out (by omega);obtain ⟨g2,o2,rfl⟩:=aY.addr HB.out (by omega);have p:=aY.blk (aY.below HA.out hbw) i x hx;have q:=aY.blk (aY.below HB.out hbw) i x hx
   (obtain ⟨p0,p1,p2,p3,p4,p5⟩:=p;obtain ⟨q0,q1,q2,q3,q4,q5⟩:=q;have s1:=mE ⟨x.text.toArray⟩;have s2:=mE ⟨x.info.toArray⟩)
   have HBW:=zh hbw;clear hx hbw;go_wp2_with fail;go_quiet (fail)
   have HBQ:=zh (aa HBW.out (bN _ nq));go_wp2_with fail;go_roundw;case rel=>exact ⟨i+1,by omega,by go_num,HBQ.out⟩
   case measure=>simp [intOf];omega
  ·have hltI:¬(i:Int)<(l.length:Int):=(by omega);have HBW:=zh hbw;clear hbw;go_wp2_with fail;go_ret;exact ⟨rfl,HBW.out⟩
theorem Af {w:World} {ao bo:Option Addr} {ca cb:Nat} {l:List cR} (ha:aY w 5 ao l.length (ce l)) (hb:aY w 5 bo l.length (ce l)) (hl:l.length <= 1000000000000):
  Calls Tryz.prog 11 #[.slice ao l.length ca,.slice bo l.length cb] w fun e w'=>e=.returned (.bool true)∧Below w.heap.size w w':=by
 have HA:=zh ha;have HB:=zh hb;clear ha hb;go_enter Tryz.func11,Tryz.ntmps11
 go_wp2_with fail;go_loopw [5] (fun u5 wr=>∃i:Nat,i <= l.length∧u5=.int .i64 (i:Int)∧Below w.heap.size w wr) (fun u5 _=>l.length - (intOf u5).toNat)
 case atStart=>exact ⟨0,Nat.zero_le _,rfl,Below.refl _ _⟩
 case round=>
  rename World=>wx
  obtain ⟨i,hi,rfl,hbw⟩:=hrel;by_cases hlt:i<l.length
  ·have hltI:(i:Int)<(l.length:Int):=(by omega);obtain ⟨x,hx⟩:∃x,l[i]? =some x:=⟨_,List.getElem?_eq_getElem hlt⟩
   obtain ⟨g1,o1,rfl⟩:=aY.addr HA.out (by omega);obtain ⟨g2,o2,rfl⟩:=aY.addr HB.out (by omega);have p:=aY.dfn (aY.below HA.out hbw) i x hx;have q:=aY.dfn (aY.below HB.out hbw) i x hx
   (obtain ⟨p0,p1,p2,p3,p4⟩:=p;obtain ⟨q0,q1,q2,q3,q4⟩:=q;have s1:=mE ⟨x.name.toArray⟩;have s2:=mE ⟨x.text.toArray⟩;have s3:=mE ⟨x.url.toArray⟩;have s4:=mE ⟨x.title.toArray⟩)
   have HBW:=zh hbw;clear hx hbw;go_wp2_with fail;go_quiet (fail)
   have HBQ:=zh (aa HBW.out (bN _ nq));go_wp2_with fail;go_roundw;case rel=>exact ⟨i+1,by omega,by go_num,HBQ.out⟩
   case measure=>simp [intOf];omega
  ·have hltI:¬(i:Int)<(l.length:Int):=(by omega);have HBW:=zh hbw;clear hbw;go_wp2_with fail;go_ret;exact ⟨rfl,HBW.out⟩
theorem xz {w:World} {ao bo:Option Addr} {ca cb:Nat} {l:List pG} (ha:aY w 2 ao l.length (l.flatMap fH)) (hb:aY w 2 bo l.length (l.flatMap fH)) (hl:l.length <= 1000000000000):
  Calls Tryz.prog 12 #[.slice ao l.length ca,.slice bo l.length cb] w fun e w'=>e=.returned (.bool true)∧Below w.heap.size w w':=by
 have HA:=zh ha;have HB:=zh hb;clear ha hb;go_enter Tryz.func12,Tryz.ntmps12
 go_wp2_with fail;go_loopw [5] (fun u5 wr=>∃i:Nat,i <= l.length∧u5=.int .i64 (i:Int)∧Below w.heap.size w wr) (fun u5 _=>l.length - (intOf u5).toNat)
 case atStart=>exact ⟨0,Nat.zero_le _,rfl,Below.refl _ _⟩
 case round=>
  rename World=>wx
  obtain ⟨i,hi,rfl,hbw⟩:=hrel;by_cases hlt:i<l.length
  ·have hltI:(i:Int)<(l.length:Int):=(by omega);obtain ⟨x,hx⟩:∃x,l[i]? =some x:=⟨_,List.getElem?_eq_getElem hlt⟩
   obtain ⟨g1,o1,rfl⟩:=aY.addr HA.out (by omega);obtain ⟨g2,o2,rfl⟩:=aY.addr HB.out (by omega);have p:=aY.dgg (aY.below HA.out hbw) i x hx;have q:=aY.dgg (aY.below HB.out hbw) i x hx
   (obtain ⟨p0,p1⟩:=p;obtain ⟨q0,q1⟩:=q;have s1:=mE ⟨x.text.toArray⟩)
   have HBW:=zh hbw;clear hx hbw;go_wp2_with fail;go_quiet (fail)
   have HBQ:=zh (aa HBW.out (bN _ nq));go_wp2_with fail;go_roundw;case rel=>exact ⟨i+1,by omega,by go_num,HBQ.out⟩
   case measure=>simp [intOf];omega
  ·have hltI:¬(i:Int)<(l.length:Int):=(by omega);have HBW:=zh hbw;clear hbw;go_wp2_with fail;go_ret;exact ⟨rfl,HBW.out⟩
end Go.Proofs.YtcannffahjbjnaaGreatDoor
