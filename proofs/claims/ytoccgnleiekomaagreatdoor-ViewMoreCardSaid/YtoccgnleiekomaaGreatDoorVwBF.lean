import Derived.Test.YtoccgnleiekomaaGreatDoorVwBE
import Derived.Lib.TrimUEq
import Derived.Lib.TrimAscii
import Derived.Lib.MapLaws
import Derived.Lib.SpaceUEq
namespace Go.Proofs.YtoccgnleiekomaaGreatDoor
open Go.RowKit
set_option maxRecDepth 100000
set_option linter.unusedVariables false
set_option linter.unusedSimpArgs false
def spaceSps:List (Int×Int):=[(9,10),(12,13),(32,32),(160,160),(5760,5760),(8192,8202),(8239,8239),(8287,8287),(12288,12288)]
def upSps:List (Int×Int):=[(65,90),(192,214),(216,222)]
def foldGo:Nat→List UInt8→Bool→List UInt8→List UInt8
 |0,_,_,acc=>acc
 |n+1,l,sp,acc=>
  if l=[]then acc
  else if inSps (Lib.decodeL l).1 spaceSps then foldGo n (l.drop (Lib.decodeL l).2) true acc
  else foldGo n (l.drop (Lib.decodeL l).2) false
   ((if sp&&decide (0<acc.length)then acc++[32]else acc)++(if inSps (Lib.decodeL l).1 upSps then Lib.encodeRune ((Lib.decodeL l).1+32:Int)else l.take (Lib.decodeL l).2))
def fold (l:List UInt8):List UInt8:=foldGo l.length l false []
theorem foldGo_nil (n:Nat) (sp:Bool) (acc:List UInt8):foldGo n [] sp acc=acc:=by cases n<;>simp [foldGo]
theorem space_any (r:Int) (w:World):
  Calls Tryz.prog 179 #[.int .i32 r] w fun e w'=>e=.returned (.bool (inSps r spaceSps))∧Below w.heap.size w w':=by
 let o:Obj:=.cells #[.int .i32 9,.int .i32 10,.int .i32 12,.int .i32 13,.int .i32 32,.int .i32 32,.int .i32 160,.int .i32 160,.int .i32 5760,.int .i32 5760,.int .i32 8192,.int .i32 8202,.int .i32 8239,.int .i32 8239,.int .i32 8287,.int .i32 8287,.int .i32 12288,.int .i32 12288] 219
 have hba:Below w.heap.size w (w.alloc o):=(Below.refl _ _).alloc (Nat.le_refl _) _
 have hsp:SpAt (w.alloc o) w.heap.size spaceSps:=by
  refine ⟨by simp,fun i hi=>?_⟩
  have:i=0∨i=1∨i=2∨i=3∨i=4∨i=5∨i=6∨i=7∨i=8:=by simp [spaceSps]at hi;omega
  rcases this with rfl|rfl|rfl|rfl|rfl|rfl|rfl|rfl|rfl<;>simp [spaceSps,o]
 have hcall:=among_any spaceSps r w.heap.size 9 (w.alloc o) (by decide) hsp
 have HC:=Lib.hid hcall
 have HB:=Lib.hid hba
 clear hcall hba hsp
 go_enter Tryz.func179,Tryz.ntmps179
 go_wp2_with fail
 refine HC.out.mono ?_
 rintro e w2 ⟨rfl,hb⟩
 go_wp2_with fail
 go_ret
 rw [World.size_alloc]at hb
 exact ⟨rfl,HB.out.trans (hb.mono (by omega))⟩
def upObj:Obj:=.cells #[.int .i32 65,.int .i32 90,.int .i32 192,.int .i32 214,.int .i32 216,.int .i32 222] 219
theorem up_any (r:Int) (w:World) (g:Nat) (hg:g=w.heap.size):
  Calls Tryz.prog 181 #[.int .i32 r,.slice (some ⟨g,0,none⟩) 3 3] (w.alloc (.cells #[.int .i32 65,.int .i32 90,.int .i32 192,.int .i32 214,.int .i32 216,.int .i32 222] 219)) fun e w'=>e=.returned (.bool (inSps r upSps))∧Below w.heap.size w w':=by
 subst hg
 have hba:Below w.heap.size w (w.alloc upObj):=(Below.refl _ _).alloc (Nat.le_refl _) _
 have hsp:SpAt (w.alloc upObj) w.heap.size upSps:=by
  refine ⟨by simp,fun i hi=>?_⟩
  have:i=0∨i=1∨i=2:=by simp [upSps]at hi;omega
  rcases this with rfl|rfl|rfl<;>simp [upSps,upObj]
 refine (among_any upSps r w.heap.size 3 (w.alloc upObj) (by decide) hsp).mono ?_
 rintro e w2 ⟨rfl,hb⟩
 rw [World.size_alloc]at hb
 exact ⟨rfl,hba.trans (hb.mono (by omega))⟩
theorem width4 (l:List UInt8):(Lib.decodeL l).2≤4:=by rw [Lib.decodeL_N];exact (Lib.decodeN_conts _ _ _ _ _).2.2.2
theorem decodeGo_at (s:ByteArray) (pos:Nat) (h:pos<s.size):Lib.decodeGo (s.extract pos s.size)=Lib.decodeL (s.data.toList.drop pos):=by
 have hsz:(s.extract pos s.size).size≠0:=by rw [Lib.size_eq,Lib.extract_to_end];simp;omega
 unfold Lib.decodeGo
 rw [if_neg hsz,←Lib.decodeL_drop (s.extract pos s.size) 0,List.drop_zero,Lib.extract_to_end]
def FoldRel (s:ByteArray) (w:World) (sp:Bool) (pos:Nat) (wr:World):Prop:=
 ∃(f:Nat) (acc:List UInt8),Lib.IsBuilderF 96 5 w.heap.size w.heap.size (Lib.byteCells acc) wr∧wr.heap[w.heap.size+1]? =some (.stringIter s pos)∧Below w.heap.size w wr∧foldGo f (s.data.toList.drop pos) sp acc=fold s.data.toList∧s.size≤pos+f∧acc.length≤5*pos
theorem iter_below {W W':World} {k pos:Nat} {s:ByteArray} (h:W.heap[k]? =some (.stringIter s pos)) (hb:Below W.heap.size W W'):W'.heap[k]? =some (.stringIter s pos):=
 (hb.block k (Array.getElem?_eq_some_iff.1 h).1).trans h
set_option maxHeartbeats 4000000 in
theorem fold_any (s:ByteArray) (w:World) (hE:Env w) (hs:s.size≤1000000000):
  Calls Tryz.prog 139 #[.string s] w fun e w'=>e=.returned (.string ⟨(fold s.data.toList).toArray⟩)∧Below w.heap.size w w':=by
 have HE:=Lib.hid hE
 clear hE
 go_enter Tryz.func139,Tryz.ntmps139
 go_wp2_with fail
 go_loopw [4] (fun u4 wr=>∃(sp:Bool) (pos:Nat),u4=.bool sp∧FoldRel s w sp pos wr) (fun _ wr=>s.size - wr.iterPos (w.heap.size+1))
 case atStart=>
  refine ⟨false,0,rfl,s.size,[],(Lib.IsBuilderF.of (Lib.fresh_isBuilder 96 5 w)).alloc _,?_,((Below.refl _ w).alloc (Nat.le_refl _) _).alloc (by simp) _,by unfold fold;rw [←Lib.size_eq];rfl,by omega,by simp⟩
  have:=World.iter_heap (w.alloc (.cells #[.pointer none,.slice none 0 0] 96)) s 0
  simpa using this
 case round=>
  obtain ⟨sp,pos,rfl,f,acc,hI,hit,hbw,hacc,hfu,hal⟩:=hrel
  have hsz:w.heap.size+1<wr.heap.size:=(Array.getElem?_eq_some_iff.1 hit).1
  by_cases hp:pos<s.size
  ·have hnx:∀ty,(Instr.next (.pointer (some ⟨w.heap.size+1,0,none⟩)) true ty).run Tryz.prog wr=_:=fun ty=>Lib.run_next_any_at wr (w.heap.size+1) s pos ty hit hp
   have hI2:=hI.iterAt hit (pos+(Utf8.decode s pos).2)
   have hit2:=Lib.iterAt_heap wr (w.heap.size+1) s pos (pos+(Utf8.decode s pos).2) hit
   have hbw2:=Lib.below_iterAt hbw (k:=w.heap.size+1) (by omega) s (pos+(Utf8.decode s pos).2)
   obtain ⟨f,rfl⟩:∃g,f=g+1:=⟨f - 1,by omega⟩
   have hdl:=Lib.decodeL_drop s pos
   have hwd:=Lib.decodeL_width (s.data.toList.drop pos)
   have hrl:=Lib.decodeL_rune (s.data.toList.drop pos)
   have hne:s.data.toList.drop pos≠[]:=by intro h0;have:=congrArg List.length h0;simp at this;omega
   have hwl:=Lib.decodeL_le _ hne
   rw [foldGo,if_neg hne,List.drop_drop]at hacc
   have hgo:=decodeGo_at s pos hp
   obtain ⟨S,hS⟩:∃S:ByteArray,s.extract pos s.size=S:=⟨_,rfl⟩
   obtain ⟨Y,hY⟩:∃Y:ByteArray,s.extract pos (pos+(Lib.decodeL (s.data.toList.drop pos)).2)=Y:=⟨_,rfl⟩
   have hYl:Y.data.toList=(s.data.toList.drop pos).take (Lib.decodeL (s.data.toList.drop pos)).2:=by rw [←hY,Lib.extract_data];congr 1;omega
   rw [←hYl]at hacc
   have hYz:Y.size=(Lib.decodeL (s.data.toList.drop pos)).2:=by rw [Lib.size_eq,hYl];simp at hwl⊢;omega
   rw [hS]at hgo
   rw [←hdl]at hnx hI2 hit2 hbw2
   obtain ⟨r,n,hrn⟩:∃r n,Lib.decodeL (s.data.toList.drop pos)=(r,n):=⟨_,_,rfl⟩
   rw [hrn]at hnx hI2 hit2 hbw2 hwd hrl hwl hacc hgo hY hYz
   simp only at hnx hI2 hit2 hbw2 hwd hrl hwl hacc hY hYz
   have hn4:n≤4:=by
    have:=width4 (s.data.toList.drop pos)
    rw [hrn]at this;exact this
   have hpn:pos+n≤s.size:=by simp at hwl;omega
   have HACC:=Lib.hid hacc
   have HGO:=Lib.hid hgo
   clear hacc hgo hrn hdl hYl hI hbw
   obtain ⟨wi,hwi⟩:∃wi,wr.iterAt (w.heap.size+1) s (pos+n)=wi:=⟨_,rfl⟩
   rw [hwi]at hI2 hit2 hbw2
   cases hsp:inSps (r:Int) spaceSps
   ·have HSP:=Lib.hid hsp
    have hacc':=HACC.out
    rw [hsp,if_neg (by simp)]at hacc'
    clear hsp
    have hYL:=hYz
    rw [Lib.size_eq]at hYL
    have HYL:=Lib.hid hYL
    clear hYL
    cases sp
    ·simp only [Bool.false_and,Bool.false_eq_true,if_false]at hacc'
     cases hup:inSps (r:Int) upSps
     ·rw [hup]at hacc'
      simp only [Bool.false_eq_true,if_false]at hacc'
      have HA2:=Lib.hid hacc'
      have HUP:=Lib.hid hup
      clear hacc' hup
      go_wp2_with fail
      refine (space_any (r:Int) _).mono ?_
      rintro e w2 ⟨rfl,b2⟩
      rw [HSP.out]
      have hI3:=bld_below hI2 b2
      have hit3:=iter_below hit2 b2
      have hbw3:=below_step hbw2 b2
      go_wp2_with fail
      refine (Tryz.utf8_DecodeRuneInString S _ (HE.out.below hbw3).u8).mono ?_
      rintro e w4 ⟨rfl,b4⟩
      have hI4:=bld_below hI3 b4
      have hit4:=iter_below hit3 b4
      have hbw4:=below_step hbw3 b4
      rw [HGO.out]
      go_wp2_with fail
      refine (up_any (r:Int) _ _ (by simp)).mono ?_
      rintro e w5 ⟨rfl,b5⟩
      have hI5:=bld_below hI4 b5
      have hit5:=iter_below hit4 b5
      have hbw5:=below_step hbw4 b5
      rw [HUP.out]
      go_wp2_with fail
      refine (bld_string w.heap.size w.heap.size _ Y _ hI5 (by rw [Lib.byteCells_length];omega) hbw5.size).mono ?_
      rintro e w6 ⟨rfl,h6,b6,k6⟩
      go_wp2_with fail
      go_roundw
      case rel=>exact ⟨false,pos+n,rfl,f,acc++Y.data.toList,by rw [Lib.byteCells_append];exact Or.inr h6,k6.iter hit5 (by omega),hbw5.trans b6,HA2.out,by omega,by have:=HYL.out;simp only [List.length_append,List.length_cons,List.length_nil];omega⟩
      case measure=>simp only [World.iterPos,k6.iter hit5 (by omega),hit];omega
     ·rw [hup]at hacc'
      simp only [if_true]at hacc'
      have HA2:=Lib.hid hacc'
      have HUP:=Lib.hid hup
      clear hacc' hup
      go_wp2_with fail
      refine (space_any (r:Int) _).mono ?_
      rintro e w2 ⟨rfl,b2⟩
      rw [HSP.out]
      have hI3:=bld_below hI2 b2
      have hit3:=iter_below hit2 b2
      have hbw3:=below_step hbw2 b2
      go_wp2_with fail
      refine (Tryz.utf8_DecodeRuneInString S _ (HE.out.below hbw3).u8).mono ?_
      rintro e w4 ⟨rfl,b4⟩
      have hI4:=bld_below hI3 b4
      have hit4:=iter_below hit3 b4
      have hbw4:=below_step hbw3 b4
      rw [HGO.out]
      go_wp2_with fail
      refine (up_any (r:Int) _ _ (by simp)).mono ?_
      rintro e w5 ⟨rfl,b5⟩
      have hI5:=bld_below hI4 b5
      have hit5:=iter_below hit4 b5
      have hbw5:=below_step hbw4 b5
      rw [HUP.out]
      go_wp2_with fail
      refine (bld_rune w.heap.size w.heap.size _ ((r:Int)+32) (by omega) (by omega) _ hI5 (by rw [Lib.byteCells_length];omega) hbw5.size).mono ?_
      rintro e w6 ⟨rfl,h6,b6,k6⟩
      have hl4:=Lib.runeCells_le ((r:Int)+32)
      rw [Lib.runeCells_length]at hl4
      have HL4:=Lib.hid hl4
      clear hl4
      go_wp2_with fail
      go_roundw
      case rel=>exact ⟨false,pos+n,rfl,f,acc++Lib.encodeRune ((r:Int)+32),by rw [Lib.byteCells_append,Lib.byteCells_encodeRune];exact Or.inr h6,k6.iter hit5 (by omega),hbw5.trans b6,HA2.out,by omega,by have:=HL4.out;simp only [List.length_append,List.length_cons,List.length_nil];omega⟩
      case measure=>simp only [World.iterPos,k6.iter hit5 (by omega),hit];omega
    ·by_cases h0:0<acc.length
     ·have h0':(0:Int)<(acc.length:Int):=by omega
      rw [decide_eq_true h0]at hacc'
      simp only [Bool.and_true,if_true]at hacc'
      cases hup:inSps (r:Int) upSps
      ·rw [hup]at hacc'
       simp only [Bool.false_eq_true,if_false]at hacc'
       have HA2:=Lib.hid hacc'
       have HUP:=Lib.hid hup
       clear hacc' hup
       go_wp2_with fail
       refine (space_any (r:Int) _).mono ?_
       rintro e w2 ⟨rfl,b2⟩
       rw [HSP.out]
       have hI3:=bld_below hI2 b2
       have hit3:=iter_below hit2 b2
       have hbw3:=below_step hbw2 b2
       go_wp2_with fail
       refine (Tryz.Builder_Len_f w.heap.size w.heap.size _ _ hI3).mono ?_
       rintro e w3 ⟨rfl,rfl⟩
       rw [Lib.byteCells_length]
       go_wp2_with fail
       refine (bld_byte w.heap.size w.heap.size _ 32 _ hI3 (by rw [Lib.byteCells_length];omega) hbw3.size).mono ?_
       rintro e w7 ⟨rfl,h7,b7,k7⟩
       have hI7:Lib.IsBuilderF 96 5 w.heap.size w.heap.size (Lib.byteCells (acc++[32])) w7:=by rw [Lib.byteCells_append];exact Or.inr h7
       have hit7:=k7.iter hit3 (by omega)
       have hbw7:=hbw3.trans b7
       have hal7:(acc++[32]).length≤5*pos+1:=by simp;omega
       go_wp2_with fail
       refine (Tryz.utf8_DecodeRuneInString S _ (HE.out.below hbw7).u8).mono ?_
       rintro e w4 ⟨rfl,b4⟩
       have hI4:=bld_below hI7 b4
       have hit4:=iter_below hit7 b4
       have hbw4:=below_step hbw7 b4
       rw [HGO.out]
       go_wp2_with fail
       refine (up_any (r:Int) _ _ (by simp)).mono ?_
       rintro e w5 ⟨rfl,b5⟩
       have hI5:=bld_below hI4 b5
       have hit5:=iter_below hit4 b5
       have hbw5:=below_step hbw4 b5
       rw [HUP.out]
       go_wp2_with fail
       refine (bld_string w.heap.size w.heap.size _ Y _ hI5 (by rw [Lib.byteCells_length];omega) hbw5.size).mono ?_
       rintro e w6 ⟨rfl,h6,b6,k6⟩
       go_wp2_with fail
       go_roundw
       case rel=>exact ⟨false,pos+n,rfl,f,(acc++[32])++Y.data.toList,by rw [Lib.byteCells_append];exact Or.inr h6,k6.iter hit5 (by omega),hbw5.trans b6,HA2.out,by omega,by have:=HYL.out;simp only [List.length_append,List.length_cons,List.length_nil];omega⟩
       case measure=>simp only [World.iterPos,k6.iter hit5 (by omega),hit];omega
      ·rw [hup]at hacc'
       simp only [if_true]at hacc'
       have HA2:=Lib.hid hacc'
       have HUP:=Lib.hid hup
       clear hacc' hup
       go_wp2_with fail
       refine (space_any (r:Int) _).mono ?_
       rintro e w2 ⟨rfl,b2⟩
       rw [HSP.out]
       have hI3:=bld_below hI2 b2
       have hit3:=iter_below hit2 b2
       have hbw3:=below_step hbw2 b2
       go_wp2_with fail
       refine (Tryz.Builder_Len_f w.heap.size w.heap.size _ _ hI3).mono ?_
       rintro e w3 ⟨rfl,rfl⟩
       rw [Lib.byteCells_length]
       go_wp2_with fail
       refine (bld_byte w.heap.size w.heap.size _ 32 _ hI3 (by rw [Lib.byteCells_length];omega) hbw3.size).mono ?_
       rintro e w7 ⟨rfl,h7,b7,k7⟩
       have hI7:Lib.IsBuilderF 96 5 w.heap.size w.heap.size (Lib.byteCells (acc++[32])) w7:=by rw [Lib.byteCells_append];exact Or.inr h7
       have hit7:=k7.iter hit3 (by omega)
       have hbw7:=hbw3.trans b7
       have hal7:(acc++[32]).length≤5*pos+1:=by simp;omega
       go_wp2_with fail
       refine (Tryz.utf8_DecodeRuneInString S _ (HE.out.below hbw7).u8).mono ?_
       rintro e w4 ⟨rfl,b4⟩
       have hI4:=bld_below hI7 b4
       have hit4:=iter_below hit7 b4
       have hbw4:=below_step hbw7 b4
       rw [HGO.out]
       go_wp2_with fail
       refine (up_any (r:Int) _ _ (by simp)).mono ?_
       rintro e w5 ⟨rfl,b5⟩
       have hI5:=bld_below hI4 b5
       have hit5:=iter_below hit4 b5
       have hbw5:=below_step hbw4 b5
       rw [HUP.out]
       go_wp2_with fail
       refine (bld_rune w.heap.size w.heap.size _ ((r:Int)+32) (by omega) (by omega) _ hI5 (by rw [Lib.byteCells_length];omega) hbw5.size).mono ?_
       rintro e w6 ⟨rfl,h6,b6,k6⟩
       have hl4:=Lib.runeCells_le ((r:Int)+32)
       rw [Lib.runeCells_length]at hl4
       have HL4:=Lib.hid hl4
       clear hl4
       go_wp2_with fail
       go_roundw
       case rel=>exact ⟨false,pos+n,rfl,f,(acc++[32])++Lib.encodeRune ((r:Int)+32),by rw [Lib.byteCells_append,Lib.byteCells_encodeRune];exact Or.inr h6,k6.iter hit5 (by omega),hbw5.trans b6,HA2.out,by omega,by have:=HL4.out;simp only [List.length_append,List.length_cons,List.length_nil];omega⟩
       case measure=>simp only [World.iterPos,k6.iter hit5 (by omega),hit];omega
     ·have h0':¬(0:Int)<(acc.length:Int):=by omega
      rw [decide_eq_false h0]at hacc'
      simp only [Bool.and_false,Bool.false_eq_true,if_false]at hacc'
      cases hup:inSps (r:Int) upSps
      ·rw [hup]at hacc'
       simp only [Bool.false_eq_true,if_false]at hacc'
       have HA2:=Lib.hid hacc'
       have HUP:=Lib.hid hup
       clear hacc' hup
       go_wp2_with fail
       refine (space_any (r:Int) _).mono ?_
       rintro e w2 ⟨rfl,b2⟩
       rw [HSP.out]
       have hI3:=bld_below hI2 b2
       have hit3:=iter_below hit2 b2
       have hbw3:=below_step hbw2 b2
       go_wp2_with fail
       refine (Tryz.Builder_Len_f w.heap.size w.heap.size _ _ hI3).mono ?_
       rintro e w3 ⟨rfl,rfl⟩
       rw [Lib.byteCells_length]
       go_wp2_with fail
       refine (Tryz.utf8_DecodeRuneInString S _ (HE.out.below hbw3).u8).mono ?_
       rintro e w4 ⟨rfl,b4⟩
       have hI4:=bld_below hI3 b4
       have hit4:=iter_below hit3 b4
       have hbw4:=below_step hbw3 b4
       rw [HGO.out]
       go_wp2_with fail
       refine (up_any (r:Int) _ _ (by simp)).mono ?_
       rintro e w5 ⟨rfl,b5⟩
       have hI5:=bld_below hI4 b5
       have hit5:=iter_below hit4 b5
       have hbw5:=below_step hbw4 b5
       rw [HUP.out]
       go_wp2_with fail
       refine (bld_string w.heap.size w.heap.size _ Y _ hI5 (by rw [Lib.byteCells_length];omega) hbw5.size).mono ?_
       rintro e w6 ⟨rfl,h6,b6,k6⟩
       go_wp2_with fail
       go_roundw
       case rel=>exact ⟨false,pos+n,rfl,f,acc++Y.data.toList,by rw [Lib.byteCells_append];exact Or.inr h6,k6.iter hit5 (by omega),hbw5.trans b6,HA2.out,by omega,by have:=HYL.out;simp only [List.length_append,List.length_cons,List.length_nil];omega⟩
       case measure=>simp only [World.iterPos,k6.iter hit5 (by omega),hit];omega
      ·rw [hup]at hacc'
       simp only [if_true]at hacc'
       have HA2:=Lib.hid hacc'
       have HUP:=Lib.hid hup
       clear hacc' hup
       go_wp2_with fail
       refine (space_any (r:Int) _).mono ?_
       rintro e w2 ⟨rfl,b2⟩
       rw [HSP.out]
       have hI3:=bld_below hI2 b2
       have hit3:=iter_below hit2 b2
       have hbw3:=below_step hbw2 b2
       go_wp2_with fail
       refine (Tryz.Builder_Len_f w.heap.size w.heap.size _ _ hI3).mono ?_
       rintro e w3 ⟨rfl,rfl⟩
       rw [Lib.byteCells_length]
       go_wp2_with fail
       refine (Tryz.utf8_DecodeRuneInString S _ (HE.out.below hbw3).u8).mono ?_
       rintro e w4 ⟨rfl,b4⟩
       have hI4:=bld_below hI3 b4
       have hit4:=iter_below hit3 b4
       have hbw4:=below_step hbw3 b4
       rw [HGO.out]
       go_wp2_with fail
       refine (up_any (r:Int) _ _ (by simp)).mono ?_
       rintro e w5 ⟨rfl,b5⟩
       have hI5:=bld_below hI4 b5
       have hit5:=iter_below hit4 b5
       have hbw5:=below_step hbw4 b5
       rw [HUP.out]
       go_wp2_with fail
       refine (bld_rune w.heap.size w.heap.size _ ((r:Int)+32) (by omega) (by omega) _ hI5 (by rw [Lib.byteCells_length];omega) hbw5.size).mono ?_
       rintro e w6 ⟨rfl,h6,b6,k6⟩
       have hl4:=Lib.runeCells_le ((r:Int)+32)
       rw [Lib.runeCells_length]at hl4
       have HL4:=Lib.hid hl4
       clear hl4
       go_wp2_with fail
       go_roundw
       case rel=>exact ⟨false,pos+n,rfl,f,acc++Lib.encodeRune ((r:Int)+32),by rw [Lib.byteCells_append,Lib.byteCells_encodeRune];exact Or.inr h6,k6.iter hit5 (by omega),hbw5.trans b6,HA2.out,by omega,by have:=HL4.out;simp only [List.length_append,List.length_cons,List.length_nil];omega⟩
       case measure=>simp only [World.iterPos,k6.iter hit5 (by omega),hit];omega
   ·have hacc':=HACC.out
    rw [hsp,if_pos rfl]at hacc'
    have HA2:=Lib.hid hacc'
    have HSP:=Lib.hid hsp
    clear hsp hacc'
    go_wp2_with fail
    refine (space_any (r:Int) _).mono ?_
    rintro e w2 ⟨rfl,b2⟩
    rw [HSP.out]
    have hI3:=bld_below hI2 b2
    have hit3:=iter_below hit2 b2
    have hbw3:=below_step hbw2 b2
    go_wp2_with fail
    go_roundw
    case rel=>exact ⟨true,pos+n,rfl,f,acc,hI3,hit3,hbw3,HA2.out,by omega,by omega⟩
    case measure=>simp only [World.iterPos,hit3,hit];omega
  ·have hnx:∀ty,(Instr.next (.pointer (some ⟨w.heap.size+1,0,none⟩)) true ty).run Tryz.prog wr=_:=fun ty=>Lib.run_next_end_at wr (w.heap.size+1) s pos ty hit hp
   rw [drop_end s pos (by omega),foldGo_nil]at hacc
   subst hacc
   go_wp2_with fail
   refine (Tryz.Builder_String_any_k w.heap.size w.heap.size _ wr hI hbw.size).mono ?_
   rintro e w2 ⟨rfl,_,hb2,_⟩
   go_wp2_with fail
   go_ret
   exact ⟨rfl,hbw.trans hb2⟩
end Go.Proofs.YtoccgnleiekomaaGreatDoor
