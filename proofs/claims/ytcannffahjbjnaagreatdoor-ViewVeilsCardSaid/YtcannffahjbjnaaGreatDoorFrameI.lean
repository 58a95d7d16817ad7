/-
  FrameI: a part of the proof.
-/
import Derived.Test.YtcannffahjbjnaaGreatDoorRows
import Derived.Test.YtcannffahjbjnaaGreatDoorVwBD
import Derived.Test.YtcannffahjbjnaaGreatDoorVwBU
import Derived.Deep.DeepHandedRow
import Derived.Stop.Joined
import Derived.Stop.LaidErr
import Derived.Lib.LaidU8
import Derived.PinnedBridge
import Derived.Lay
import Derived.LaidLaws
import Derived.MakeChecks
set_option linter.unusedVariables false
set_option linter.unusedSimpArgs false
set_option maxRecDepth 100000
set_option maxHeartbeats 64000000
namespace Go.Proofs.YtcannffahjbjnaaGreatDoor
open Go.RowKit Go.Lib
theorem own:ownKnob Tryz.prog.godebug=none:=by kernel_rfl
theorem laidOut:laidOutB Tryz.prog=true:=by kernel_rfl
theorem Ew:WhiteExtra Tryz.prog Tryz.lays199_ren:=⟨by kernel_rfl,by kernel_rfl,by kernel_rfl,by kernel_rfl,by kernel_rfl,by kernel_rfl,by kernel_rfl,by kernel_rfl⟩
theorem Fc:U8Extra Tryz.prog Tryz.lays260_ren:=⟨by kernel_rfl,by kernel_rfl,by kernel_rfl,by kernel_rfl,by kernel_rfl,by kernel_rfl,by kernel_rfl⟩
theorem yL:(Rows.laid_unicode_utf8_acceptRanges:DataW Unit)=acceptData:=by kernel_rfl
theorem CT:(Rows.laid_unicode_White_Space:DataW Unit)=whiteData:=by kernel_rfl
theorem CA:(Rows.laid_strings_asciiSpace:DataW Unit)=Lib.tabData .u8 Lib.asciiSpaceTab:=by kernel_rfl
theorem Bq:Rows.laid_unicode_utf8_first=firstData:=Pinned.utf8First_eq
theorem Em:(Rows.laid_internal_strconv_uint64pow10:DataW Unit)=Lib.tabData .u64 Lib.pow10Tab:=by kernel_rfl
def BI:List (String×DataW Unit):=Rows.viewPlainRow.laid
theorem env_of_laid {W:World} (h:laidMetH Tryz.prog BI W) (hsh:W.ShapedOpen Tryz.prog):qY W:=by
 rw [MakeChecks.laidMetH_plain _ _ _ (by kernel_rfl)]at h;obtain ⟨m,hm⟩:=Tryz.laysM145.s1_3 W hsh;have hp:=laidMet.tail (laidMet.tail h);have h:=laidMet.tail hp;refine ⟨⟨?_,?_,?_,⟨m,hm⟩⟩,?_⟩
 ·have h2:=laidMet.tail (laidMet.tail h);rw [CA]at h2;exact Lib.tabIs_of_head (g:=6) (by kernel_rfl) (by kernel_rfl) Tryz.underlying236 Tryz.underlying5 (by kernel_rfl) (by kernel_rfl) h2
 ·have h1:=Lib.laidMet.reads (laidMet.tail h) (.head _);rw [CT]at h1;exact whiteTab_of_reads Tryz.lays199 Ew h1
 ·have h0:=Lib.laidMet.reads h (.head _);have h3:=Lib.laidMet.reads (laidMet.tail (laidMet.tail (laidMet.tail h))) (.head _);rw [yL]at h0;rw [Bq]at h3;exact utf8Tabs_of_reads Tryz.lays260 Fc h3 h0
 ·rw [Em]at hp;exact Lib.tabIs_of_head (g:=3) (by kernel_rfl) (by kernel_rfl) Tryz.underlying241 Tryz.underlying148 (by kernel_rfl) (by kernel_rfl) hp
noncomputable def laidWorld (os:Os):World:=World.laidAll Tryz.prog os BI
theorem laid_met (os:Os) (args:Array Value):laidMetH Tryz.prog BI ((laidWorld os).forCall (fun _ _=>0) ⟨#[],args,[]⟩).memory:=by
 rw [MakeChecks.laidMetH_plain _ _ _ (by kernel_rfl)];exact laidMet_laidAll _ (by kernel_rfl) (by kernel_rfl)
theorem witness_row {H:Type} {enc:TypeId×Value ->H} {C:Checked} {os:Os} {f:FuncId} {fn:Func} {s:OpenSpec} {conds:List PathCond} {apart:Bool} {laid:List (String×DataW Unit)} (w0:World) (args:Array Value) (hos:w0.os=os)
  (hsh:(w0.forCall (fun _ _=>0) ⟨#[],args,[]⟩).Shaped C.prog)
  (hok:Input.okWideB C.prog (w0.forCall (fun _ _=>0) ⟨#[],args,[]⟩) f ⟨#[],args,[]⟩=true)
  (hrow:s.preRow enc C.prog fn conds apart laid (w0.forCall (fun _ _=>0) ⟨#[],args,[]⟩).memory args):
  ∃(w:World) (tape:Tape) (i:Input),w.os=os∧(w.forCall tape i).Shaped C.prog∧i.vars=[]∧Input.okWide C.prog (w.forCall tape i) .any w.heap.size f i∧
   s.preRow enc C.prog fn conds apart laid (w.forCall tape i).memory i.args∧({}:Assume).holds C.prog (lone (Frame.enter C.prog f i.args .normal) [] (w.forCall tape i)):=
 ⟨w0,fun _ _=>0,⟨#[],args,[]⟩,hos,hsh,(Input.okWide_of_okWideB (base:=0) hok).1,(Input.okWide_of_okWideB hok).2,hrow,by
  simp only [Assume.holds];exact ⟨by simp,by simp,by simp,by simp,by simp⟩⟩
end Go.Proofs.YtcannffahjbjnaaGreatDoor
