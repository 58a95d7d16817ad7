/-
  LawVMore: a part of the proof.
-/
import Derived.Test.YtoccgnleiekomaaGreatDoorVwBZ
import Derived.Test.YtoccgnleiekomaaGreatDoorVwBW
namespace Go.Proofs.YtoccgnleiekomaaGreatDoor
open Go.RowKit
set_option maxRecDepth 100000
set_option linter.unusedVariables false
set_option linter.unusedSimpArgs false
def cntAt (doc:ByteArray) (k:Nat):Nat:=(buildL (diaSeer k) doc.data.toList).atoms.length
def cnt4 (doc:ByteArray) (k i:Nat):Value:=.int .i64 (if i<k then (cntAt doc i:Int)else 0)
theorem vw_field1 (a b c d:Value) (W:World):(Instr.field 33 (.agg #[a,b,c,d]) 1).run Tryz.prog W=.ok b W:=by kernel_rfl
theorem remk (k:Nat) (h:k<4):(wrap64 ((k:Int).tmod 4+4)).tmod 4=(k:Int):=by
 have:k=0∨k=1∨k=2∨k=3:=by omega
 rcases this with rfl|rfl|rfl|rfl<;>decide+kernel
set_option maxHeartbeats 8000000 in
theorem law_vmore (doc:ByteArray) (w:World) (hE:EnvI w):
  Calls Tryz.prog 5 #[.string doc] w fun e w'=>e=.returned (.bool true)∧Below w.heap.size w w':=by
 by_cases h1:(1000:Int)<(doc.size:Int)
 ·go_enter Tryz.func5,Tryz.ntmps5
  go_wp2_with fail
  refine (alive23_any _ hE).mono ?_
  rintro e w1 ⟨rfl,b1⟩
  go_wp2_with fail
  go_ret
  exact ⟨rfl,b1⟩
 ·have HE:=Lib.hid hE
  clear hE
  go_enter Tryz.func5,Tryz.ntmps5
  go_wp2_with fail
  refine (alive23_any _ HE.out).mono ?_
  rintro e w1 ⟨rfl,b1⟩
  have HB1:=Lib.hid b1
  clear b1
  go_wp2_with fail
  go_loopw [4] (fun u4 wr=>∃k:Nat,u4=.int .i64 (k:Int)∧k≤4∧Below w1.heap.size w1 wr∧wr.heap[w1.heap.size]? =some (.cells #[cnt4 doc k 0,cnt4 doc k 1,cnt4 doc k 2,cnt4 doc k 3] 42 (0,0))) (fun u4 _=>4 - (intOf u4).toNat)
  case atStart=>exact ⟨0,by go_num,Nat.zero_le _,(Below.refl _ _).alloc (Nat.le_refl _) _,heap_alloc_new w1 _⟩
  case round=>
   obtain ⟨k,rfl,hk,hb,hh⟩:=hrel
   have HB:=Lib.hid hb
   have HH:=Lib.hid hh
   have hlt:=(Array.getElem?_eq_some_iff.1 hh).1
   by_cases hk4:k<4
   ·clear hb hh
    go_wp2_with fail
    refine (see_k (k:Int) k hk4 (remk k hk4) _).mono ?_
    rintro e w2 ⟨sb,v,rfl,hse,hb2⟩
    have HB2:=Lib.hid (HB.out.trans (hb2.mono HB.out.size))
    have hh2:=(hb2.block _ hlt).trans HH.out
    have HV:=Lib.hid (view_any hse (HE.out.below (below_step HB1.out HB2.out)) doc (by omega) _ rfl)
    have HH2:=Lib.hid hh2
    clear hse hb2 hh2
    go_wp2_with fail
    refine HV.out.mono ?_
    rintro e w3 ⟨o0,o1,o2,o3,c0,c1,c2,c3,rfl,hv,hb3⟩
    have HB3:=Lib.hid (HB2.out.trans (hb3.mono HB2.out.size))
    have hl2:=(Array.getElem?_eq_some_iff.1 HH2.out).1
    have hh3:=(hb3.block _ hl2).trans HH2.out
    have HH3:=Lib.hid hh3
    have hkk:k=0∨k=1∨k=2∨k=3:=by omega
    clear hv hb3 hl2 HH2 HV HH HB
    obtain ⟨nn,hnn⟩:∃n,(buildL (diaSeer k) doc.data.toList).atoms.length=n:=⟨_,rfl⟩
    rw [hnn]
    have hst:=heap_setCell_same w3 w1.heap.size k _ _ (.int .i64 (nn:Int)) hh3
    have HST:=Lib.hid (show (w3.setCell ⟨w1.heap.size,k,none⟩ (.int .i64 (nn:Int))).heap[w1.heap.size]? =some (.cells #[cnt4 doc (k+1) 0,cnt4 doc (k+1) 1,cnt4 doc (k+1) 2,cnt4 doc (k+1) 3] 42 (0,0))from by
     rw [hst,←hnn]
     rcases hkk with rfl|rfl|rfl|rfl<;>rfl)
    have ck:∃u,w3.cell? ⟨w1.heap.size,k,none⟩=some u:=by
     rw [cell_of_row w3 _ _ _ _ _ hh3]
     rcases hkk with rfl|rfl|rfl|rfl<;>exact ⟨_,rfl⟩
    obtain ⟨u,ck⟩:=ck
    have fk:=frozen_of_row w3 w1.heap.size k _ _ hh3
    have HBS:=Lib.hid (HB3.out.setCell (p:=⟨w1.heap.size,k,none⟩) (Nat.le_refl _) (.int .i64 (nn:Int)))
    have hki:(k:Int)<4:=by omega
    have hfd:=fun W=>vw_field1 (.slice o0 (buildL (diaSeer k) doc.data.toList).blocks.length c0) (.slice o1 nn c1) (.slice o2 (buildL (diaSeer k) doc.data.toList).defs.length c2) (.slice o3 (buildL (diaSeer k) doc.data.toList).diags.length c3) W
    clear hnn hst hh3 hkk
    go_wp2_with fail
    go_roundw
    case rel=>exact ⟨k+1,by go_num,by omega,HBS.out,HST.out⟩
    case measure=>simp [intOf];omega
   ·obtain rfl:k=4:=by omega
    obtain ⟨d1,d2,d3,d4⟩:=dia_more
    have e1:=more_law d1 doc.data.toList
    have e2:=more_law d2 doc.data.toList
    have e3:=more_law d3 doc.data.toList
    have e4:=more_law d4 doc.data.toList
    obtain ⟨m0,h0⟩:∃n,cntAt doc 0=n:=⟨_,rfl⟩
    obtain ⟨m1,h1'⟩:∃n,cntAt doc 1=n:=⟨_,rfl⟩
    obtain ⟨m2,h2⟩:∃n,cntAt doc 2=n:=⟨_,rfl⟩
    obtain ⟨m3,h3⟩:∃n,cntAt doc 3=n:=⟨_,rfl⟩
    have f0:wr.cell? ⟨w1.heap.size,0,none⟩=some (.int .i64 (m0:Int)):=by rw [cell_of_row wr _ _ _ _ _ hh,←h0];rfl
    have f1:wr.cell? ⟨w1.heap.size,1,none⟩=some (.int .i64 (m1:Int)):=by rw [cell_of_row wr _ _ _ _ _ hh,←h1'];rfl
    have f2:wr.cell? ⟨w1.heap.size,2,none⟩=some (.int .i64 (m2:Int)):=by rw [cell_of_row wr _ _ _ _ _ hh,←h2];rfl
    have f3:wr.cell? ⟨w1.heap.size,3,none⟩=some (.int .i64 (m3:Int)):=by rw [cell_of_row wr _ _ _ _ _ hh,←h3];rfl
    have g1:(m0:Int)≤(m1:Int):=by have:cntAt doc 0≤cntAt doc 1:=e1;omega
    have g2:(m0:Int)≤(m2:Int):=by have:cntAt doc 0≤cntAt doc 2:=e2;omega
    have g3:(m1:Int)≤(m3:Int):=by have:cntAt doc 1≤cntAt doc 3:=e3;omega
    have g4:(m2:Int)≤(m3:Int):=by have:cntAt doc 2≤cntAt doc 3:=e4;omega
    have HBF:=Lib.hid (below_step HB1.out hb)
    clear e1 e2 e3 e4 d1 d2 d3 d4 h0 h1' h2 h3 hh hb
    go_wp2_with fail
    go_ret
    exact ⟨rfl,HBF.out⟩
end Go.Proofs.YtoccgnleiekomaaGreatDoor
