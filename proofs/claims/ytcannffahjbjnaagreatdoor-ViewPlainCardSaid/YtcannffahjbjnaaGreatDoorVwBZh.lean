import Derived.Test.YtcannffahjbjnaaGreatDoorVwBZe
import Derived.Test.YtcannffahjbjnaaGreatDoorVwBV
import Derived.Test.YtcannffahjbjnaaGreatDoorVwBZb
set_option linter.unusedVariables false
set_option linter.unusedSimpArgs false
set_option maxRecDepth 100000
set_option maxHeartbeats 64000000
namespace Go.Proofs.YtcannffahjbjnaaGreatDoor
open Go.RowKit Go.Deep Go.ChangeShapes Go.WideShapes
theorem BE (A:ByteArray):(A==A)=true:=by
 obtain ⟨A⟩:=A;show (A==A)=true;simp
theorem zH {w:World} {ao bo:Option Addr} {ca cb:Nat} {l:List ak} (ha:bL w 6 ao l.length (l.flatMap aL)) (hb:bL w 6 bo l.length (l.flatMap aL)) (hl:l.length <= 100000000):
  Calls Tryz.prog 8 #[.slice ao l.length ca,.slice bo l.length cb] w fun e w'=>e=.returned (.bool true)∧Below w.heap.size w w':=by
 have HA:=zh ha;have HB:=zh hb;clear ha hb;go_enter Tryz.func8,Tryz.ntmps8
 go_wp2_with fail;go_loopw [5] (fun u5 wr=>∃i:Nat,i <= l.length∧u5=.int .i64 (i:Int)∧Below w.heap.size w wr) (fun u5 _=>l.length - (intOf u5).toNat)
 case atStart=>exact ⟨0,Nat.zero_le _,rfl,Below.refl _ _⟩
 case round=>
  rename World=>wx
  obtain ⟨i,hi,rfl,hbw⟩:=hrel;by_cases hlt:i<l.length
  ·have hltI:(i:Int)<(l.length:Int):=(by omega);obtain ⟨x,hx⟩:∃x,l[i]? =some x:=⟨_,List.getElem?_eq_getElem hlt⟩
   obtain ⟨g1,o1,rfl⟩:=bL.addr HA.out (by omega);obtain ⟨g2,o2,rfl⟩:=bL.addr HB.out (by omega);obtain ⟨p0,p1,p2,p3,p4,p5⟩:=bL.blk (bL.below HA.out hbw) i x hx;obtain ⟨q0,q1,q2,q3,q4,q5⟩:=bL.blk (bL.below HB.out hbw) i x hx;have s1:=BE ⟨x.text.toArray⟩;have s2:=BE ⟨x.info.toArray⟩;have HBW:=zh hbw;clear hx hbw;go_wp2_with fail;go_quiet (fail)
   have HBQ:=zh (bD HBW.out nq);go_wp2_with fail;go_roundw;case rel=>exact ⟨i+1,by omega,by go_num,HBQ.out⟩
   case measure=>simp [intOf];omega
  ·have hltI:¬(i:Int)<(l.length:Int):=(by omega);have HBW:=zh hbw;clear hbw;go_wp2_with fail;go_ret;exact ⟨rfl,HBW.out⟩
theorem open_strsC {H:Type} {enc:TypeId×Value ->H} {W:World} {a:Option Addr} {len cap:Nat} {d:DataW H} {p:List MemPlace}
  (hk:DataW.Trod enc Tryz.prog W 0 (fun _=>true) true 22 (.slice a len cap) d p):∃P,iG Value.string W a len P∧len <= cap:=by
 obtain ⟨P,hP⟩:=yW hk;refine ⟨P,hP,?_⟩;obtain ⟨fuel,hf⟩:=hk;rcases open_slice1 Tryz.underlying22 qF hf with ⟨hcs,_⟩|⟨x,l,c,m,n,V,D,Pl,hcs,hb,hl,_⟩
 ·simp only [Value.cells,List.cons.injEq,Value.slice.injEq,and_true]at hcs;omega
 ·simp only [Value.cells,List.cons.injEq,Value.slice.injEq,and_true]at hcs;omega
end Go.Proofs.YtcannffahjbjnaaGreatDoor
