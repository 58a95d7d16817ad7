/-
  LawVRestores: a part of the proof.
-/
import Derived.Test.YtoccgnleiekomaaGreatDoorVwBZ
import Derived.Test.YtoccgnleiekomaaGreatDoorVwBZb
namespace Go.Proofs.YtoccgnleiekomaaGreatDoor
open Go.RowKit
set_option maxRecDepth 100000
set_option linter.unusedVariables false
set_option linter.unusedSimpArgs false
def NoNul (l:List UInt8):Prop:=(0:UInt8)∉l
theorem nonul_take {l:List UInt8} {k:Nat} {c:UInt8} (h:NoNul (l.take k)) (hk:l[k]? =some c) (hc:c≠0):NoNul (l.take (k+1)):=by
 unfold NoNul at h⊢;obtain ⟨h1,rfl⟩:=List.getElem?_eq_some_iff.1 hk;rw [List.take_succ_eq_append_getElem h1];intro hm;rcases List.mem_append.1 hm with hm|hm
 ·exact h hm
 ·exact hc (List.mem_singleton.1 hm).symm
def three (a b c:ByteArray):List (List UInt8):=[a.data.toList,b.data.toList,c.data.toList]
def twoAtoms (inn:List UInt8):List AtomT:=[⟨[],zeroT⟩,⟨[],inn⟩]
theorem restores_call {w0 w:World} {x:ByteArray} {g:Nat} {inn:List UInt8} (hE:EnvI w0) (hb:Below w0.heap.size w0 w) (hR:RowR w 2 (some ⟨g,0,none⟩) 2 ((twoAtoms inn).flatMap atomCells)) (hx:x.size≤1000000) (hi:inn.length≤60) (Y:ByteArray) (hy:restoreL x.data.toList (twoAtoms inn)=Y.data.toList):
  Calls Tryz.prog 14 #[.string x,.slice (some ⟨g,0,none⟩) 2 2] w fun e w'=>e=.returned (.string Y)∧Below w.heap.size w w':=by
 have h:=vrestore_any x (some ⟨g,0,none⟩) 2 (twoAtoms inn) w (hE.below hb).env (fun _=>hR) hx (by
  intro a ha;rcases List.mem_cons.1 ha with rfl|ha
  ·decide
  ·rw [List.mem_singleton.1 ha];show inn.length≤1000000;omega)
 rw [hy]at h;exact h
theorem three_len {a b c:ByteArray} (h1:(a.size:Int)≤60) (h2:(b.size:Int)≤60) (h3:(c.size:Int)≤60) {i:Nat} {x:List UInt8} (hx:(three a b c)[i]? =some x):x.length≤60:=by
 have hm:=List.mem_of_getElem? hx;unfold three at hm;simp only [List.mem_cons,List.not_mem_nil,or_false]at hm;rcases hm with rfl|rfl|rfl<;>rw [←Lib.size_eq]<;>omega
theorem bself (A:ByteArray):(A==A)=true:=by
 obtain ⟨A⟩:=A;show (A==A)=true;simp
theorem two_row (W:World) (inn:ByteArray) (b:Nat) (hb:b=W.heap.size):RowR (W.alloc (.cells #[.string ⟨#[]⟩,.string ⟨#[122,101,114,111]⟩,.string ⟨#[]⟩,.string inn] 45)) 2 (some ⟨b,0,none⟩) 2 ((twoAtoms inn.data.toList).flatMap atomCells):=by
 have h:=row_new2 W [.string ⟨#[]⟩,.string ⟨#[122,101,114,111]⟩,.string ⟨#[]⟩,.string inn] 45 2 2 b hb rfl (by omega);have e:(twoAtoms inn.data.toList).flatMap atomCells=[.string ⟨#[]⟩,.string ⟨#[122,101,114,111]⟩,.string ⟨#[]⟩,.string inn]:=by
  show [Value.string ⟨([]:List UInt8).toArray⟩,.string ⟨zeroT.toArray⟩,.string ⟨([]:List UInt8).toArray⟩,.string ⟨inn.data.toList.toArray⟩]=_;rw [Lib.mk_data];rfl
 rw [e];exact h
set_option maxHeartbeats 8000000 in
theorem law_vrestores (a b inn:ByteArray) (w:World) (hE:EnvI w):
  Calls Tryz.prog 6 #[.string a,.string b,.string inn] w fun e w'=>e=.returned (.bool true)∧Below w.heap.size w w':=by
 by_cases h1:(60:Int)<(a.size:Int)
 ·go_enter Tryz.func6,Tryz.ntmps6
  go_wp2_with fail;refine (alive23_any _ hE).mono ?_;rintro e w1 ⟨rfl,b1⟩;go_wp2_with fail;go_ret;exact ⟨rfl,b1⟩
 ·by_cases h2:(60:Int)<(b.size:Int)
  ·go_enter Tryz.func6,Tryz.ntmps6
   go_wp2_with fail;refine (alive23_any _ hE).mono ?_;rintro e w1 ⟨rfl,b1⟩;go_wp2_with fail;go_ret;exact ⟨rfl,b1⟩
  ·by_cases h3:(60:Int)<(inn.size:Int)
   ·go_enter Tryz.func6,Tryz.ntmps6
    go_wp2_with fail;refine (alive23_any _ hE).mono ?_;rintro e w1 ⟨rfl,b1⟩;go_wp2_with fail;go_ret;exact ⟨rfl,b1⟩
   ·have HE:=Lib.hid hE;clear hE;go_enter Tryz.func6,Tryz.ntmps6
    go_wp2_with fail;refine (alive23_any _ HE.out).mono ?_;rintro e w1 ⟨rfl,b1⟩;have HB1:=Lib.hid b1;clear b1;go_upto_region 3 with (fail)
    have hrow:StrR (w1.alloc (.cells #[.string a,.string b,.string inn] 9)) (some ⟨w1.heap.size,0,none⟩) (three a b inn):=by
     have:=row_new2 w1 [.string a,.string b,.string inn] 9 1 3 w1.heap.size rfl rfl (by omega);unfold StrR three strV;simp only [List.map_cons,List.map_nil,Lib.mk_data];exact this
    have HB2:=Lib.hid (HB1.out.alloc HB1.out.size (.cells #[.string a,.string b,.string inn] 9));have HR:=Lib.hid hrow;clear hrow;go_wp2_with fail;go_loopw [34] (fun u34 wr=>∃i:Nat,u34=.int .i64 (i:Int)∧i≤3∧wr=w1.alloc (.cells #[.string a,.string b,.string inn] 9)∧Hid (∀k:Nat,k<i→∀x,(three a b inn)[k]? =some x→NoNul x)) (fun u34 _=>3 - (intOf u34).toNat)
    case atStart=>exact ⟨0,by go_num,by omega,rfl,Lib.hid (fun k hk=>absurd hk (by omega))⟩
    case round=>
     obtain ⟨i,rfl,hi,rfl,HN⟩:=hrel;by_cases hlt:i<3
     ·obtain ⟨x,hx⟩:∃x,(three a b inn)[i]? =some x:=⟨_,List.getElem?_eq_getElem hlt⟩
      have cx:=HR.out.at' i x hx;rw [Nat.zero_add]at cx;obtain ⟨X,hX⟩:∃X:ByteArray,(⟨x.toArray⟩:ByteArray)=X:=⟨_,rfl⟩
      have hXl:X.data.toList=x:=(by rw [←hX]);rw [hX]at cx;have hX60:X.size≤60:=by
       rw [Lib.size_eq,hXl];exact three_len h1 h2 h3 hx
      have HXL:=Lib.hid (And.intro hXl hx);have hil:(i:Int)<3:=(by omega);clear hX hXl hx;go_wp2_with fail;go_loop [9] (fun u9=>∃k:Nat,k≤X.size∧u9=.int .i64 k∧Hid (NoNul (X.data.toList.take k))) (fun u9=>X.size - (intOf u9).toNat)
      case atStart=>exact ⟨0,Nat.zero_le _,rfl,Lib.hid (by simp [NoNul])⟩
      case round=>
       obtain ⟨k,hk,rfl,HL⟩:=hrel;by_cases hkt:k<X.size
       ·have hg:=Lib.data_getElem? X k hkt;obtain ⟨d,hd⟩:∃d,X[k]=d:=⟨_,rfl⟩
        rw [hd]at hg;by_cases h0:d=0
        ·have k0:((d.toNat:Int)==0)=true:=(by rw [h0];rfl);clear hg h0;go_wp2_with fail;go_ret;exact ⟨rfl,HB2.out⟩
        ·have k0:((d.toNat:Int)==0)=false:=by
          have:d.toNat≠0:=fun h=>h0 (UInt8.toNat_inj.1 h);simp;omega
         have HN2:=Lib.hid (nonul_take HL.out hg h0);clear hg h0;go_wp2_with fail;go_round;case rel=>exact ⟨k+1,by omega,by go_num,HN2⟩
         case measure=>simp [intOf];omega
       ·obtain rfl:k=X.size:=(by omega);have HN2:=Lib.hid (show∀k:Nat,k<i+1→∀y,(three a b inn)[k]? =some y→NoNul y from fun k hk y hy=>by
         rcases Nat.lt_succ_iff_lt_or_eq.1 hk with h|h
         ·exact HN.out k h y hy
         ·subst h;rw [HXL.out.2]at hy;obtain rfl:=Option.some.inj hy;have:=HL.out;rw [take_all,HXL.out.1]at this;exact this)
        clear cx;go_wp2_with fail;go_roundw;case rel=>exact ⟨i+1,by go_num,by omega,by first|rfl|trivial,HN2⟩
        case measure=>simp [intOf];omega
     ·obtain rfl:i=3:=(by omega);have hlaw:=restores_law a.data.toList b.data.toList inn.data.toList (HN.out 0 (by omega) _ rfl) (HN.out 1 (by omega) _ rfl);have ha60:a.size≤60:=(by omega);have hb60:b.size≤60:=(by omega);have hi60:inn.size≤60:=(by omega);obtain ⟨W2,hW2⟩:∃W,(w1.alloc (.cells #[.string a,.string b,.string inn] 9))=W:=⟨_,rfl⟩
      have hs2:W2.heap.size=w1.heap.size+1:=(by rw [←hW2];simp);have HR3:=Lib.hid (two_row W2 inn (w1.heap.size+1) hs2.symm);rw [hW2]at HB2;have HB3:=Lib.hid (HB2.out.alloc HB2.out.size (.cells #[.string ⟨#[]⟩,.string ⟨#[122,101,114,111]⟩,.string ⟨#[]⟩,.string inn] 45));have HLW:=Lib.hid hlaw;clear hlaw HN;go_wp2_with fail;refine (restores_call HE.out HB3.out HR3.out (by rw [ByteArray.size_append];omega) (by rw [←Lib.size_eq];omega) (a++b) (by rw [ByteArray.data_append,Array.toList_append];exact HLW.out.1)).mono ?_;rintro e w5 ⟨rfl,hb5⟩;have HB5:=Lib.hid (below_step HB3.out hb5);have HR5:=Lib.hid (HR3.out.below hb5);have k1:=bself (a++b);have k2:=bself (a++inn++b);have k3:=bself (a++(⟨#[122,101,114,111]⟩:ByteArray)++inn);have s1:(⟨#[0,49,0]⟩:ByteArray).size=3:=rfl;have s7:(⟨#[0,55,0]⟩:ByteArray).size=3:=rfl;have s0:(⟨#[0,48,0,0,49,0]⟩:ByteArray).size=6:=rfl;have sz:(⟨#[122,101,114,111]⟩:ByteArray).size=4:=rfl;have t1:(a++(⟨#[0,49,0]⟩:ByteArray)).size=a.size+3:=(by rw [ByteArray.size_append,s1]);have t7:(a++(⟨#[0,55,0]⟩:ByteArray)).size=a.size+3:=(by rw [ByteArray.size_append,s7]);have t0:(a++(⟨#[0,48,0,0,49,0]⟩:ByteArray)).size=a.size+6:=(by rw [ByteArray.size_append,s0]);have tz:(a++(⟨#[122,101,114,111]⟩:ByteArray)).size=a.size+4:=(by rw [ByteArray.size_append,sz]);have ti:(a++inn).size=a.size+inn.size:=(by rw [ByteArray.size_append]);have y2:restoreL (a++(⟨#[0,49,0]⟩:ByteArray)++b).data.toList (twoAtoms inn.data.toList)=(a++inn++b).data.toList:=by
       have:=HLW.out.2.1;simpa [twoAtoms]using this
      have y3:restoreL (a++(⟨#[0,55,0]⟩:ByteArray)++b).data.toList (twoAtoms inn.data.toList)=(a++b).data.toList:=by
       have:=HLW.out.2.2.1;simpa [twoAtoms]using this
      have y4:restoreL (a++(⟨#[0,48,0,0,49,0]⟩:ByteArray)).data.toList (twoAtoms inn.data.toList)=(a++(⟨#[122,101,114,111]⟩:ByteArray)++inn).data.toList:=by
       have:=HLW.out.2.2.2;simpa [twoAtoms,zeroT]using this
      have Y2:=Lib.hid y2;have Y3:=Lib.hid y3;have Y4:=Lib.hid y4;clear hb5 y2 y3 y4;go_wp2_with fail;refine (restores_call HE.out HB5.out HR5.out (by rw [ByteArray.size_append,t1];omega) (by rw [←Lib.size_eq];omega) (a++inn++b) Y2.out).mono ?_;rintro e w6 ⟨rfl,hb6⟩;have HB6:=Lib.hid (below_step HB5.out hb6);have HR6:=Lib.hid (HR5.out.below hb6);clear hb6;go_wp2_with fail;refine (restores_call HE.out HB6.out HR6.out (by rw [ByteArray.size_append,t7];omega) (by rw [←Lib.size_eq];omega) (a++b) Y3.out).mono ?_;rintro e w7 ⟨rfl,hb7⟩;have HB7:=Lib.hid (below_step HB6.out hb7);have HR7:=Lib.hid (HR6.out.below hb7);clear hb7;go_wp2_with fail;refine (restores_call HE.out HB7.out HR7.out (by rw [t0];omega) (by rw [←Lib.size_eq];omega) (a++(⟨#[122,101,114,111]⟩:ByteArray)++inn) Y4.out).mono ?_;rintro e w8 ⟨rfl,hb8⟩;have HB8:=Lib.hid (below_step HB7.out hb8);clear hb8;go_wp2_with fail;go_ret;exact ⟨rfl,HB8.out⟩
end Go.Proofs.YtoccgnleiekomaaGreatDoor
