import Derived.Test.YtcannffahjbjnaaGreatDoorRows
import Derived.Test.YtcannffahjbjnaaGreatDoorShelf
import Derived.WalkSmall
import Derived.Shelf.Unicode.IsSpaceAny
import Derived.Shelf.Unicode.DecodeSlow
import Derived.Deep.DeepFit
import Derived.Test.YtcannffahjbjnaaGreatDoorVwBA
import Derived.Laws.Runes
import Derived.Lib.TrimU
import Derived.WalkLawsBesides
import Derived.WalkSpells
import Derived.BigCall
import Derived.WalkMore
import Derived.Laws.Bits64b
import Derived.Outline
import Derived.Lib.IndexMore
import Derived.Lib.SlTrimSet
import Derived.Laws.OwnMore
import Derived.Deep.DeepCutAuto
import Derived.Deep.CutBlock
set_option linter.unusedVariables false
set_option linter.unusedSimpArgs false
set_option maxRecDepth 100000
set_option maxHeartbeats 64000000
namespace Go.Proofs.YtcannffahjbjnaaGreatDoor
open Go.RowKit
structure lx (w:World):Prop where
 sp:Lib.TabIs Tryz.prog w "strings.asciiSpace" .u8 Lib.asciiSpaceTab
 white:Lib.WhiteTab 7 w
 u8:Lib.Utf8Tabs 1 2 w
 maxl:∃m,w.cell? ⟨0,0,none⟩=some (.int .i64 m)
theorem sC {n:String} {g:Nat} {k:IntKind} {zs:List Int} {w w':World} (hg:Tryz.prog.globalNamed n=some g) (h:Lib.TabIs Tryz.prog w n k zs) (hb:Below w.heap.size w w'):Lib.TabIs Tryz.prog w' n k zs:=by
 unfold Lib.TabIs at h⊢;refine var?_below hb hg ?_ h;rcases Nat.lt_or_ge g w.heap.size with h'|h'
 ·exact h'
 ·unfold World.var? at h;rw [hg]at h;simp only [Option.bind_some]at h;rw [Array.getElem?_eq_none h']at h;cases h
theorem lx.below {w w':World} (h:lx w) (hb:Below w.heap.size w w'):lx w':=
 ⟨sC (g:=6) (by kernel_rfl) h.sp hb,WhiteTab_below h.white hb,Utf8Tabs_below h.u8 hb,by
  obtain ⟨m,hm⟩:=h.maxl;exact ⟨m,(hb.cell (p:=⟨0,0,none⟩) (World.block_lt_of_cell? _ _ hm)).trans hm⟩⟩
theorem bN (w:World) (n:Nat):Below w.heap.size w (w.drewN n):=⟨rfl,rfl,rfl,Nat.le_refl _,fun _ _=>rfl⟩
theorem aa {w w1 w2:World} (h1:Below w.heap.size w w1) (h2:Below w1.heap.size w1 w2):Below w.heap.size w w2:=h1.trans (h2.mono h1.size)
def cQ (l:List UInt8):Prop:=∀b∈l,b.toNat<128
theorem rf (l:List UInt8) (c:UInt8) (h:∀b∈l,b≠c):Lib.indexByte l c= -1:=by
 induction l with
 |nil=>rfl
 |cons b l ih=>
  unfold Lib.indexByte;rw [ih (fun x hx=>h x (List.mem_cons_of_mem _ hx))];simp [h b (List.mem_cons_self ..)]
theorem nN {s:ByteArray} (hs:cQ s.data.toList) (i:Nat) (hi:i<s.size):s[i].toNat<128:=
 hs _ (Array.getElem_mem_toList (xs:=s.data) hi)
theorem wm {s:ByteArray} (hs:cQ s.data.toList) (i:Nat) (hi:i<s.size):Utf8.decode s i=(s[i].toNat,1):=by
 have h1:=nN hs i hi;exact Go.decode_ascii s i hi h1
theorem iq (s:ByteArray) (r:Int) (w:World) (hs:cQ s.data.toList) (hz:s.size <= 1000000000) (h0:128 <= r) (h1:r <= 2147483647):
  Calls Tryz.prog 146 #[.string s,.int .i32 r] w fun e w'=>e=.returned (.int .i64 (-1))∧Below w.heap.size w w':=by
 by_cases c1:r=65533
 ·subst c1;go_enter Tryz.func146,Tryz.ntmps146
  go_wp2_with fail;go_loopw [] (fun wr=>∃pos:Nat,wr.heap[w.heap.size]? =some (.stringIter s pos)∧Below w.heap.size w wr) (fun wr=>s.size - wr.iterPos w.heap.size)
  case atStart=>
   refine ⟨0,?_,?_⟩
   ·have:=World.iter_heap w s 0;simpa using this
   ·exact (Below.refl _ w).alloc (Nat.le_refl _) _
  case round=>
   obtain ⟨pos,hit,hbw⟩:=hrel;have hsz:w.heap.size<wr.heap.size:=(Array.getElem?_eq_some_iff.1 hit).1;by_cases hp:pos<s.size
   ·have hnx:∀ty,(Instr.next (.pointer (some ⟨w.heap.size,0,none⟩)) true ty).run Tryz.prog wr=_:=fun ty=>Lib.run_next_any_at wr w.heap.size s pos ty hit hp;have hd:=wm hs pos hp;have hlt:=nN hs pos hp;rw [hd]at hnx;have hit2:=Lib.iterAt_heap wr w.heap.size s pos (pos+1) hit;have hbw2:=Lib.below_iterAt hbw (k:=w.heap.size) (by omega) s (pos+1);obtain ⟨x,hx⟩:∃x,s[pos].toNat=x:=⟨_,rfl⟩
    rw [hx]at hlt hnx;have ht:((x:Int)==65533)=false:=by simp;omega
    go_wp2
    go_roundw;case rel=>exact ⟨pos+1,hit2,hbw2⟩
    case measure=>simp only [World.iterPos,hit2,hit];omega
   ·have hnx:∀ty,(Instr.next (.pointer (some ⟨w.heap.size,0,none⟩)) true ty).run Tryz.prog wr=_:=fun ty=>Lib.run_next_end_at wr w.heap.size s pos ty hit (by omega)
    go_wp2
    go_ret;exact ⟨rfl,hbw⟩
 ·have c1':(r==65533)=false:=(by simpa using c1);by_cases c2:Lib.validRune r=true
  ·go_enter Tryz.func146,Tryz.ntmps146
   go_wp2_with fail;refine (Tryz.utf8_ValidRune r w).mono ?_;rintro e w' ⟨rfl,rfl⟩;rw [c2];have hv:Utf8.valid r=true:=(by rw [validRune_eq];exact c2);obtain ⟨e1,e2,e3⟩:=encode_facts r hv h0;obtain ⟨q,hq⟩:∃q,Utf8.encode r=q:=⟨_,rfl⟩
   rw [hq]at e1 e2 e3;have e4:=e3 (by omega);go_wp2_with fail
   go_step3
   go_wp2_with fail;rw [show ((q.size:Int) - 1)=((q.size - 1:Nat):Int) by omega];obtain ⟨n,hn⟩:∃n,q.size - 1=n:=⟨_,rfl⟩
   have hn2:n<q.size:=(by omega);have e4':128 <= q[n].toNat:=(by subst hn;exact e4);clear e4 e3;rw [hn];go_loopw [9] (fun u7 wr=>u7=.int .i64 n∧wr=w') (fun _ _=>0)
   case atStart=>exact ⟨rfl,rfl⟩
   case round=>
    obtain ⟨rfl,rfl⟩:=hrel;by_cases c3:n<s.size
    ·have e5:=nN hs n c3;obtain ⟨x,hx⟩:∃x,s[n]=x:=⟨_,rfl⟩
     obtain ⟨y,hy⟩:∃y,q[n]=y:=⟨_,rfl⟩
     rw [hx]at e5;rw [hy]at e4';have hne:((x.toNat:Int) !=(y.toNat:Int))=true:=(by simp;omega);have hy2:((y.toNat:Int)).toNat.toUInt8=y:=(by simp);have hix:∀a b,Lib.indexByte (s.extract a b).data.toList y= -1:=fun a b=>rf _ _ (fun z hz he=>by
      have:=hs z (mem_extract hz);rw [he]at this;omega)
     go_wp2_with fail
     go_step3
     go_wp2_with fail;go_quiet (fail)
     go_wp2_with fail;have HC:∀(a b:Nat) W,Calls Tryz.prog 176 #[.string (s.extract a b),.int .u8 (y.toNat:Int)] W fun e w'=>e=.returned (.int .i64 (-1))∧w'=W:=fun a b W=>by
      refine (Tryz.strings_IndexByte _ _ _).mono ?_;rintro e w' ⟨rfl,rfl⟩;rw [hy2,hix];exact ⟨rfl,rfl⟩
     have hk1:IntKind.i64.wrap ((n:Int)+1)=((n+1:Nat):Int):=(by rw [wrap_small _ (by omega) (by omega)];omega);have hk2:((n+1:Nat):Int) <= (s.size:Int):=(by omega);have hk3:(((n+1:Nat):Int)).toNat=n+1:=(by omega);have hk4:(0:Int) <= ((n+1:Nat):Int):=by omega
     go_region_with (go_at_call 176;refine (HC _ _ _).mono ?_;rintro e w' ⟨rfl,rfl⟩)
     all_goals
      go_wp2_with fail;rw [Exit.noGoto_ret];go_wp2_with fail;try rw [Exit.noGoto_ret]
      go_ret;exact ⟨rfl,((Below.refl _ _).trans ⟨rfl,rfl,rfl,Nat.le_refl _,fun _ _=>rfl⟩)⟩
    ·go_wp2_with fail;rw [Exit.noGoto_ret];go_ret;exact ⟨rfl,Below.refl _ _⟩
  ·go_enter Tryz.func146,Tryz.ntmps146
   go_wp2_with fail;refine (Tryz.utf8_ValidRune r w).mono ?_;rintro e w' ⟨rfl,rfl⟩;rw [show Lib.validRune r=false from by simpa using c2];go_wp2_with fail;go_ret;exact ⟨rfl,Below.refl _ _⟩
def zu:List UInt8:=[48,49,50,51,52,53,54,55,56,57,97,98,99,100,101,102]
def i7 (c:UInt8):Nat:=
 if 48 <= c∧c <= 57 then c.toNat - 48 else if 65 <= c∧c <= 70 then c.toNat - 55 else if 97 <= c∧c <= 102 then c.toNat - 87 else 99
def qe (base:Nat) (c:UInt8):Bool:=decide (i7 c<base)
def jn (base:Nat) (l:List UInt8):Nat:=l.foldl (fun v c=>v*base+i7 c) 0
def dB (base:Nat) (l:List UInt8):Nat:=(l.takeWhile (qe base)).length
def number (base most:Nat) (l:List UInt8):List UInt8×Nat:=
 let k:=dB base l
 if most<k∨k=0∨l.getD k 0≠59 then ([],0)
 else
  let v:=jn base (l.take k)
  (if v=0∨Lib.validRune v=false then [239,191,189]else (Utf8.encode v).data.toList,k)
theorem pf (a b:Nat) (ha:a<2097152) (hb:b<2097152):bits .or .i32 (a:Int) (b:Int)=((a ||| b:Nat):Int):=by
 have hx:a ||| b<2 ^ 21:=Nat.or_lt_two_pow (by omega) (by omega);have h1:(BitVec.ofInt 32 (a:Int)).toNat=a:=by
  rw [BitVec.ofInt_natCast,BitVec.toNat_ofNat];exact Nat.mod_eq_of_lt (by omega)
 have h2:(BitVec.ofInt 32 (b:Int)).toNat=b:=by
  rw [BitVec.ofInt_natCast,BitVec.toNat_ofNat];exact Nat.mod_eq_of_lt (by omega)
 show IntKind.i32.wrap ((BitVec.ofInt 32 (a:Int) ||| BitVec.ofInt 32 (b:Int)).toNat:Int)=_;rw [BitVec.toNat_or,h1,h2];have hm:(((a ||| b:Nat):Int)) % 4294967296=((a ||| b:Nat):Int):=(by omega);unfold IntKind.wrap;simp [IntKind.bits,IntKind.signed];omega
theorem El (r:Nat) (h:128 <= r) (h1:r <= 1114111):128 <= bits .or .i32 (r:Int) 32∧bits .or .i32 (r:Int) 32 <= 2147483647:=by
 have:=pf r 32 (by omega) (by omega);have e:((32:Nat):Int)=32:=rfl;rw [e]at this;rw [this];have h2:r <= r ||| 32:=Nat.left_le_or;have h3:r ||| 32<2 ^ 21:=Nat.or_lt_two_pow (by omega) (by omega);omega
theorem lV (s:ByteArray) (i:Nat) (hi:i<s.size) (h:128 <= s[i].toNat):128 <= (Utf8.decode s i).1:=by
 rw [Lib.decode_at];have e:s.get! i=s[i]:=by
  simp [ByteArray.get!,getElem!_pos,hi];rfl
 rw [e];unfold Lib.decodeN
 repeat' split
 all_goals first|omega|(simp only;omega)
theorem zf (c:UInt8):c.toNat<128 ->
  (0 <= bits BinOp.or IntKind.i32 (c.toNat:Int) 32∧bits BinOp.or IntKind.i32 (c.toNat:Int) 32<128)∧
  (if 48 <= c.toNat∧c.toNat <= 102∧¬(57<c.toNat∧c.toNat<65)then
   (i7 c<16∧Lib.indexByte zu (bits BinOp.or IntKind.i32 (c.toNat:Int) 32).toNat.toUInt8=i7 c)∨(i7 c=99∧Lib.indexByte zu (bits BinOp.or IntKind.i32 (c.toNat:Int) 32).toNat.toUInt8= -1)
  else i7 c=99):=
 vS (p:=fun c=>c.toNat<128 ->
  (0 <= bits BinOp.or IntKind.i32 (c.toNat:Int) 32∧bits BinOp.or IntKind.i32 (c.toNat:Int) 32<128)∧
  (if 48 <= c.toNat∧c.toNat <= 102∧¬(57<c.toNat∧c.toNat<65)then
   (i7 c<16∧Lib.indexByte zu (bits BinOp.or IntKind.i32 (c.toNat:Int) 32).toNat.toUInt8=i7 c)∨(i7 c=99∧Lib.indexByte zu (bits BinOp.or IntKind.i32 (c.toNat:Int) 32).toNat.toUInt8= -1)
  else i7 c=99)) (by unfold tI;decide+kernel) c
def zv (r:Int) (p:Int×Int):Bool:=decide (p.1 <= r)&&decide (r <= p.2)
def fg (r:Int) (l:List (Int×Int)):Bool:=l.any (zv r)
theorem CE (a b r:Int) (g:Nat) (w:World) (hc:w.cell? ⟨g,0,none⟩=some (.int .i32 r)) (hg:g<w.heap.size):
  Calls Tryz.prog 228 #[.agg #[.int .i32 a,.int .i32 b],.pointer (some ⟨g,0,none⟩)] w fun e w'=>e=.returned (.bool (zv r (a,b)))∧Below w.heap.size w w':=by
 have h1:(w.alloc (.cells #[.int .i32 a,.int .i32 b] 227)).cell? ⟨g,0,none⟩=some (.int .i32 r):=
  (((Below.refl w.heap.size w).alloc (Nat.le_refl _) _).cell (p:=⟨g,0,none⟩) hg).trans hc
 by_cases c1:a <= r
 ·go_enter Tryz.func228,Tryz.ntmps228
  go_wp2
  go_ret;exact ⟨eB (by simp [zv,c1]),(Below.refl _ _).alloc (Nat.le_refl _) _⟩
 ·go_enter Tryz.func228,Tryz.ntmps228
  go_wp2
  go_ret;exact ⟨eB (by rw [zv,decide_eq_false (show¬a <= r by omega)];rfl),(Below.refl _ _).alloc (Nat.le_refl _) _⟩
def sO (w:World) (b:Nat) (l:List (Int×Int)):Prop:=b<w.heap.size∧∀i,i<l.length ->w.cell? ⟨b,i*2,none⟩=some (.int .i32 (l.getD i (0,0)).1)∧w.cell? ⟨b,i*2+1,none⟩=some (.int .i32 (l.getD i (0,0)).2)
theorem AY (r:Int) (l:List (Int×Int)) (k:Nat) (hk:k<l.length):fg r (l.take (k+1))=(fg r (l.take k)||zv r (l.getD k (0,0))):=by
 unfold fg;rw [List.take_succ_eq_append_getElem hk,List.any_append];simp [List.getD_eq_getElem?_getD,hk]
def C2 (W:World) (r:Int) (l:List (Int×Int)) (e:Ending) (w':World):Prop:=∃n:Int,e=.returned (.int .i64 n)∧decide (0 <= n)=fg r l∧Below W.heap.size W w'
theorem Dt (l:List (Int×Int)) (r:Int) (b c g:Nat) (w:World) (hl:l.length <= 1000) (hs:sO w b l) (hc:w.cell? ⟨g,0,none⟩=some (.int .i32 r)) (hg:g<w.heap.size):
  Calls Tryz.prog 241 #[.slice (some ⟨b,0,none⟩) l.length c,.func (.func 228) #[] #[.pointer (some ⟨g,0,none⟩)]] w (C2 w r l):=by
 obtain ⟨hb,hcs⟩:=hs;go_enter Tryz.func241,Tryz.ntmps241
 go_wp2
 go_loopw [8] (fun u8 wr=>∃k:Nat,k <= l.length∧u8=.int .i64 k∧Below w.heap.size w wr∧fg r (l.take k)=false) (fun u8 _=>l.length - (intOf u8).toNat)
 case atStart=>exact ⟨0,Nat.zero_le _,rfl,Below.refl _ _,rfl⟩
 case round=>
  obtain ⟨k,hk,rfl,hB,hno⟩:=hrel;have HN:=zh hno;clear hno;by_cases hlt:k<l.length
  ·have h0:=(hB.cell (p:=⟨b,k*2,none⟩) hb).trans (hcs k hlt).1;have h1:=(hB.cell (p:=⟨b,k*2+1,none⟩) hb).trans (hcs k hlt).2;have hg':=(hB.cell (p:=⟨g,0,none⟩) hg).trans hc;have HT:=zh (AY r l k hlt);obtain ⟨x,hx⟩:∃x,x=(l.getD k (0,0)).1:=⟨_,rfl⟩
   obtain ⟨y,hy⟩:∃y,y=(l.getD k (0,0)).2:=⟨_,rfl⟩
   rw [<- hx]at h0;rw [<- hy]at h1;have HXY:=zh (show l.getD k (0,0)=(x,y) by rw [hx,hy]);clear hx hy;go_wp2_with fail;refine (CE x y r g wr hg' (by have:=hB.size;omega)).mono ?_;rintro e w2 ⟨rfl,hb2⟩;have hbb:=hB.trans (hb2.mono hB.size);cases hh:zv r (x,y)
   ·have HK:=zh (show fg r (l.take (k+1))=false by rw [HT.out,HN.out,HXY.out,hh];rfl);clear hh
    go_wp2
    go_roundw;case rel=>exact ⟨k+1,by omega,by go_num,hbb,HK.out⟩
    case measure=>simp [intOf];omega
   ·have HK:=zh (show fg r l=true by
     have e1:fg r (l.take (k+1))=true:=(by rw [HT.out,HXY.out,hh];simp);unfold fg at e1⊢;obtain ⟨z,hz,hz'⟩:=List.any_eq_true.1 e1;exact List.any_eq_true.2 ⟨z,List.mem_of_mem_take hz,hz'⟩)
    clear hh
    go_wp2
    go_ret;exact ⟨k,rfl,by rw [HK.out];simp,hbb⟩
  ·obtain rfl:k=l.length:=by omega
   go_wp2
   go_ret;exact ⟨-1,rfl,by have:=HN.out;rw [List.take_length]at this;rw [this];rfl,hB⟩
theorem Dq (l:List (Int×Int)) (r:Int) (b c g:Nat) (w:World) (hl:l.length <= 1000) (hs:sO w b l) (hc:w.cell? ⟨g,0,none⟩=some (.int .i32 r)) (hg:g<w.heap.size):
  Calls Tryz.prog 227 #[.slice (some ⟨b,0,none⟩) l.length c,.func (.func 228) #[] #[.pointer (some ⟨g,0,none⟩)]] w fun e w'=>e=.returned (.bool (fg r l))∧Below w.heap.size w w':=by
 have hcall:=Dt l r b c g w hl hs hc hg;have HC:=zh hcall;clear hcall;go_enter Tryz.func227,Tryz.ntmps227
 go_wp2_with fail;refine HC.out.mono ?_;rintro e w2 ⟨n,rfl,hn,hb⟩;have HN:=zh hn;clear hn
 go_wp2
 go_ret;exact ⟨eB HN.out,hb⟩
theorem sO.below {w w':World} {b:Nat} {l:List (Int×Int)} (h:sO w b l) (hb:Below w.heap.size w w'):sO w' b l:=
 ⟨Nat.lt_of_lt_of_le h.1 hb.size,fun i hi=>⟨(hb.cell (p:=⟨b,i*2,none⟩) h.1).trans (h.2 i hi).1,(hb.cell (p:=⟨b,i*2+1,none⟩) h.1).trans (h.2 i hi).2⟩⟩
theorem nM (l:List (Int×Int)) (r:Int) (b c:Nat) (w:World) (hl:l.length <= 1000) (hs:sO w b l):
  Calls Tryz.prog 205 #[.int .i32 r,.slice (some ⟨b,0,none⟩) l.length c] w fun e w'=>e=.returned (.bool (fg r l))∧Below w.heap.size w w':=by
 have hba:Below w.heap.size w (w.alloc (.cells #[.int .i32 r] 21)):=(Below.refl _ _).alloc (Nat.le_refl _) _;have hcall:=Dq l r b c w.heap.size (w.alloc (.cells #[.int .i32 r] 21)) hl (hs.below hba) (by simp) (by simp);have HC:=zh hcall;clear hcall;go_enter Tryz.func205,Tryz.ntmps205
 go_wp2_with fail;refine HC.out.mono ?_;rintro e w2 ⟨rfl,hb⟩
 go_wp2
 go_ret;rw [World.size_alloc]at hb;exact ⟨rfl,hba.trans (hb.mono (by omega))⟩
def jO:List (Int×Int):=[(33,47),(58,64),(91,96),(123,126)]
def lO (c:UInt8):Bool:=fg c.toNat jO
theorem rr (c:UInt8) (w:World):
  Calls Tryz.prog 226 #[.int .u8 c.toNat] w fun e w'=>e=.returned (.bool (lO c))∧Below w.heap.size w w':=by
 have hc:=xX c;obtain ⟨hc0,hc1⟩:=hc
 let o:Obj:=.cells #[.int .i32 33,.int .i32 47,.int .i32 58,.int .i32 64,.int .i32 91,.int .i32 96,.int .i32 123,.int .i32 126] 227
 have hba:Below w.heap.size w (w.alloc o):=(Below.refl _ _).alloc (Nat.le_refl _) _;have hsp:sO (w.alloc o) w.heap.size jO:=by
  refine ⟨by simp,fun i hi=>?_⟩;have:i=0∨i=1∨i=2∨i=3:=(by simp [jO]at hi;omega);rcases this with rfl|rfl|rfl|rfl<;>simp [jO,o]
 have hcall:=nM jO c.toNat w.heap.size 4 (w.alloc o) (by decide) hsp;have HC:=zh hcall;have HB:=zh hba;clear hcall hba hsp;go_enter Tryz.func226,Tryz.ntmps226
 go_wp2_with fail;refine HC.out.mono ?_;rintro e w2 ⟨rfl,hb⟩
 go_wp2
 go_ret;rw [World.size_alloc]at hb;exact ⟨rfl,HB.out.trans (hb.mono (by omega))⟩
def dI:List (List UInt8):=[[97,109,112],[108,116],[103,116],[113,117,111,116],[97,112,111,115],[110,98,115,112],[99,111,112,121],[114,101,103],[100,101,103],[115,101,99,116],[112,97,114,97],[109,105,100,100,111,116],[101,97,99,117,116,101],[97,117,109,108],[111,117,109,108],[117,117,109,108],[115,122,108,105,103],[110,100,97,115,104],[109,100,97,115,104],[104,101,108,108,105,112],[101,117,114,111],[108,97,114,114],[114,97,114,114]]
def mN:List Int:=[38,60,62,34,39,160,169,174,176,167,182,183,233,228,246,252,223,8211,8212,8230,8364,8592,8594]
def named (l:List UInt8):List UInt8×Bool:=
 match dI.findIdx? (·==l)with
 |some i=>((Utf8.encode (mN.getD i 0)).data.toList,true)
 |none=>([],false)
def cH (l:List UInt8):List UInt8×Nat:=
 match l with
 |38::35::r=>
  let hex:=r.head? =some 120∨r.head? =some 88
  let ahead:=if hex then 3 else 2
  let p:=number (if hex then 16 else 10) (if hex then 6 else 7) (l.drop ahead)
  if p.2=0 then ([],0)else (p.1,ahead+p.2+1)
 |38::rest=>
  let c:=Lib.cut rest [59]
  if c.2.2 then
   let n:=named c.1
   if n.2 then (n.1,c.1.length+2)else ([],0)
  else ([],0)
 |_=>([],0)
def cC:Nat ->List UInt8 ->List UInt8
 |0,_=>[]
 |_+1,[]=>[]
 |n+1,c::l=>
  if c=92∧(l.head?.map lO).getD false=true then l.take 1++cC n (l.drop 1)
  else if 0<(cH (c::l)).2 then (cH (c::l)).1++cC n ((c::l).drop (cH (c::l)).2)
  else c::cC n l
def gK (l:List UInt8):List UInt8:=cC l.length l
def dU (e:UInt8) (bad:UInt8 ->Bool):Nat ->List UInt8 ->Nat ->Option Nat
 |0,_,_=>none
 |_+1,[],_=>none
 |n+1,c::l,i=>
  if c=92 then (if l.head? =some 0 then none else dU e bad n (l.drop 1) (i+2))
  else if c=e then some i
  else if bad c∨c=0 then none
  else dU e bad n l (i+1)
def gz (l:List UInt8):List UInt8×Nat×Bool:=
 match dU 62 (fun c=>c==60||c==10) l.length (l.drop 1) 1 with
 |some i=>(gK ((l.take i).drop 1),i+1,true)
 |none=>([],0,false)
def eI (c:UInt8):Bool:=c <= 32||c==127
def ew:Nat ->List UInt8 ->Nat ->Nat ->Nat×Nat
 |0,_,o,i=>(o,i)
 |_+1,[],o,i=>(o,i)
 |n+1,c::l,o,i=>
  if eI c then (o,i)
  else if c=92∧(l.head?.map (fun d=> !eI d)).getD false=true then ew n (l.drop 1) o (i+2)
  else if c=40 then ew n l (o+1) (i+1)
  else if c=41∧o=0 then (o,i)
  else if c=41 then ew n l (o - 1) (i+1)
  else ew n l o (i+1)
def im (l:List UInt8):List UInt8×Nat×Bool:=
 if l.head? =some 60 then gz l
 else
  let p:=ew l.length l 0 0
  if p.2=0∨0<p.1 then ([],0,false)else (gK (l.take p.2),p.2,true)
def title (l:List UInt8):List UInt8×Nat×Bool:=
 match l with
 |[]=>([],0,false)
 |c::r=>
  if c=34∨c=39∨c=40 then
   let e:=if c=40 then 41 else c
   match dU e (fun d=>d==40&&e==41) r.length r 1 with
   |some i=>(gK ((l.take i).drop 1),i+1,true)
   |none=>([],0,false)
  else ([],0,false)
theorem gS (c:UInt8) (l:List UInt8) (h:c≠38):cH (c::l)=([],0):=by
 unfold cH;split
 ·rename_i heq;simp only [List.cons.injEq]at heq;exact absurd heq.1 h
 ·rename_i heq;simp only [List.cons.injEq]at heq;exact absurd heq.1 h
 ·rfl
def C3 (w:World) (A:Nat):Prop:=A<w.heap.size∧∀i,i<23 ->w.cell? ⟨A,i,none⟩=some (.string ⟨(dI.getD i []).toArray⟩)
def rp (w:World) (e:Ending) (w':World):Prop:=∃A,e=.returned (.slice (some ⟨A,0,none⟩) 23 23)∧C3 w' A∧w.heap.size <= A∧Below w.heap.size w w'
theorem gj:dI.length=23:=rfl
def th:ByteArray:=⟨#[97,109,112,32,108,116,32,103,116,32,113,117,111,116,32,97,112,111,115,32,110,98,115,112,32,99,111,112,121,32,114,101,103,32,100,101,103,32,115,101,99,116,32,112,97,114,97,32,109,105,100,100,111,116,32,101,97,99,117,116,101,32,97,117,109,108,32,111,117,109,108,32,117,117,109,108,32,115,122,108,105,103,32,110,100,97,115,104,32,109,100,97,115,104,32,104,101,108,108,105,112,32,101,117,114,111,32,108,97,114,114,32,114,97,114,114]⟩
theorem zl:Lib.fieldsD th.data.toList=dI:=by decide+kernel
theorem sZ (w:World) (hE:lx w):Calls Tryz.prog 248 #[.string th] w (rp w):=by
 have h:=Tryz.strings_Fields_any th w (by decide) hE.sp hE.white;rw [zl]at h;refine h.mono ?_;rintro e w1 ⟨A,rfl,hA,ho,hB⟩;refine ⟨A,rfl,⟨(ho.lt A rfl).2,fun i hi=>?_⟩,hA,hB⟩;have:=ho.cellAt i (by rw [gj];omega);rw [this,List.getElem?_map];have h23:i<dI.length:=(by rw [gj];exact hi);simp [List.getD_eq_getElem?_getD,h23]
theorem zO (w:World) (hE:lx w):Calls Tryz.prog 242 #[] w (rp w):=by
 go_enter Tryz.func242,Tryz.ntmps242
 go_wp2_with fail;refine (sZ _ hE).mono ?_;rintro e w1 ⟨A,rfl,hN,hA,hB⟩;have HN:=zh hN;clear hN;go_wp2_with fail;go_ret;exact ⟨A,rfl,HN.out,hA,hB⟩
def qC:Obj:=.cells #[.int .i32 38,.int .i32 60,.int .i32 62,.int .i32 34,.int .i32 39,.int .i32 160,.int .i32 169,.int .i32 174,.int .i32 176,.int .i32 167,.int .i32 182,.int .i32 183,.int .i32 233,.int .i32 228,.int .i32 246,.int .i32 252,.int .i32 223,.int .i32 8211,.int .i32 8212,.int .i32 8230,.int .i32 8364,.int .i32 8592,.int .i32 8594] 21
theorem Ae (w:World):Calls Tryz.prog 243 #[] w fun e w'=>e=.returned (.slice (some ⟨w.heap.size,0,none⟩) 23 23)∧w'=w.alloc qC:=by
 go_enter Tryz.func243,Tryz.ntmps243
 go_wp2_with fail;go_ret;exact ⟨rfl,rfl⟩
theorem Ad (w:World) (k:Nat) (hk:k<23):(w.alloc qC).cell? ⟨w.heap.size,k,none⟩=some (.int .i32 (mN.getD k 0)):=by
 unfold qC;rw [World.cell?_alloc_at _ _ _ _ rfl];have:k=0∨k=1∨k=2∨k=3∨k=4∨k=5∨k=6∨k=7∨k=8∨k=9∨k=10∨k=11∨k=12∨k=13∨k=14∨k=15∨k=16∨k=17∨k=18∨k=19∨k=20∨k=21∨k=22:=(by omega);rcases this with rfl|rfl|rfl|rfl|rfl|rfl|rfl|rfl|rfl|rfl|rfl|rfl|rfl|rfl|rfl|rfl|rfl|rfl|rfl|rfl|rfl|rfl|rfl<;>rfl
theorem wR (l:List UInt8) (h:∀j,j<23 ->dI.getD j []≠l):named l=([],false):=by
 unfold named;have:dI.findIdx? (·==l)=none:=by
  rw [List.findIdx?_eq_none_iff];intro x hx;obtain ⟨j,hj,rfl⟩:=List.mem_iff_getElem.1 hx;have:=h j (by rw [gj]at hj;exact hj);simp [List.getD_eq_getElem?_getD,hj]at this;simpa using this
 rw [this]
theorem wT (l:List UInt8) (k:Nat) (hk:k<23) (h:∀j,j<k ->dI.getD j []≠l) (he:dI.getD k []=l):named l=((Utf8.encode (mN.getD k 0)).data.toList,true):=by
 unfold named;have hk':k<dI.length:=(by rw [gj];exact hk);have:dI.findIdx? (·==l)=some k:=by
  rw [List.findIdx?_eq_some_iff_getElem];refine ⟨hk',?_,fun j hj=>?_⟩
  ·simp [List.getD_eq_getElem?_getD,hk']at he;simpa using he
  ·have:=h j hj;have hj':j<dI.length:=(by omega);simp [List.getD_eq_getElem?_getD,hj']at this;simpa using this
 rw [this]
theorem zN (s:ByteArray) (w:World) (hE:lx w):
  Calls Tryz.prog 230 #[.string s] w fun e w'=>e=.returned (.tuple #[.string ⟨(named s.data.toList).1.toArray⟩,.bool (named s.data.toList).2])∧Below w.heap.size w w':=by
 go_enter Tryz.func230,Tryz.ntmps230
 go_wp2_with fail;refine (zO _ hE).mono ?_;rintro e w1 ⟨A,rfl,⟨hAl,hN⟩,hA,hB⟩;have HN:=zh hN;clear hN;go_wp2_with fail;go_loop [8] (fun u8=>∃k:Nat,k <= 23∧u8=.int .i64 k∧∀j,j<k ->dI.getD j []≠s.data.toList) (fun u8=>23 - (intOf u8).toNat)
 case atStart=>exact ⟨0,by omega,rfl,fun j hj=>by omega⟩
 case round=>
  obtain ⟨k,hk,rfl,hno⟩:=hrel;have HNO:=zh hno;clear hno;by_cases hlt:k<23
  ·have hc:=HN.out k hlt;obtain ⟨p,hp⟩:∃p:ByteArray,p=⟨(dI.getD k []).toArray⟩:=⟨_,rfl⟩
   rw [<- hp]at hc;have HP:=zh (show p.data.toList=dI.getD k [] by rw [hp]);clear hp;have hr:=Ad w1 k hlt;obtain ⟨r,hr0⟩:∃r,mN.getD k 0=r:=⟨_,rfl⟩
   rw [hr0]at hr;have HR:=zh hr0;clear hr0;cases he:(p.toList==s.toList)
   ·have hne:=A8 he;have HE:=zh hne;go_wp2_with fail;go_round;case rel=>exact ⟨k+1,by omega,by go_num,fun j hj=>by
     by_cases e:j=k
     ·subst e;rw [<- HP.out];exact HE.out
     ·exact HNO.out j (by omega)⟩
    case measure=>simp [intOf];omega
   ·have HS:=zh (wT s.data.toList k hlt HNO.out (by rw [<- HP.out];exact A7 he));go_wp2_with fail;refine (Ae _).mono ?_;rintro e w2 ⟨rfl,rfl⟩;go_wp2_with fail
    go_ret2
    exact ⟨iw (by rw [HS.out,HR.out]),hB.trans ((Below.refl _ _).alloc (by have:=hB.size;omega) _)⟩
  ·obtain rfl:k=23:=(by omega);have HS:=zh (wR s.data.toList HNO.out);go_wp2_with fail
   go_ret2
   exact ⟨iw HS.out,hB⟩
theorem tX (base:Nat):∀(l:List UInt8) (k:Nat),k <= dB base l ->k<l.length ->qe base (l.getD k 0)=true ->k+1 <= dB base l:=by
 intro l;induction l with
 |nil=>intro k _ h;simp at h
 |cons c l ih=>
  intro k h1 h2 h3;unfold dB at*;rw [List.takeWhile_cons]at*;cases k with
  |zero=>simp at h3;simp [h3]
  |succ k=>
   split at h1
   ·rename_i hc;simp only [List.length_cons]at*;have:=ih k (by omega) (by omega) (by simpa using h3);simp [hc];omega
   ·simp at h1
theorem oD (base:Nat):∀(l:List UInt8) (k:Nat),k <= dB base l ->qe base (l.getD k 0)=false ->dB base l=k:=by
 intro l;induction l with
 |nil=>intro k h _;simp [dB]at*;omega
 |cons c l ih=>
  intro k h1 h3;unfold dB at*;rw [List.takeWhile_cons]at*;cases k with
  |zero=>simp at h3;simp [h3]
  |succ k=>
   split at h1
   ·rename_i hc;simp only [List.length_cons]at*;have:=ih k (by omega) (by simpa using h3);simp [hc,this]
   ·simp at h1
theorem ze (base:Nat) (l:List UInt8):dB base l <= l.length:=by
 unfold dB;exact (List.takeWhile_sublist _).length_le
theorem uI (base:Nat) (l:List UInt8) (k:Nat) (hk:k<l.length):jn base (l.take (k+1))=jn base (l.take k)*base+i7 (l.getD k 0):=by
 unfold jn;rw [List.take_succ_eq_append_getElem hk,List.foldl_append];simp [List.getD_eq_getElem?_getD,hk]
theorem nV (s:ByteArray) (k:Nat) (hk:k<s.size):s.data.toList.getD k 0=s[k]:=by
 simp [List.getD_eq_getElem?_getD,hk];rfl
theorem gT (base most:Nat) (l:List UInt8) (h:most<dB base l∨dB base l=0∨l.getD (dB base l) 0≠59):number base most l=([],0):=by
 unfold number;exact if_pos h
theorem uJ (base most:Nat) (l:List UInt8) (h1:dB base l <= most) (h2:dB base l≠0) (h3:l.getD (dB base l) 0=59):
  number base most l=(if jn base (l.take (dB base l))=0∨Lib.validRune (jn base (l.take (dB base l)))=false then [239,191,189]else (Utf8.encode (jn base (l.take (dB base l)))).data.toList,dB base l):=by
 unfold number;rw [if_neg (by rintro (h|h|h);omega;exact h2 h;exact h h3)]
theorem ld {p q:List UInt8×Nat} (h:p=q):Ending.returned (.tuple #[.string ⟨q.1.toArray⟩,.int .i64 q.2])=.returned (.tuple #[.string ⟨p.1.toArray⟩,.int .i64 p.2]):=by rw [h]
theorem vd {p:List UInt8×Nat} {x:ByteArray} {n:Nat} (h:p=(x.data.toList,n)):Ending.returned (.tuple #[.string x,.int .i64 n])=.returned (.tuple #[.string ⟨p.1.toArray⟩,.int .i64 p.2]):=by rw [h,Lib.mk_data]
theorem qs (s:ByteArray) (base most:Nat) (hb:base=10∨base=16) (hm:most <= 7) (hz:s.size <= 1000000000) (w:World):
  Calls Tryz.prog 229 #[.string s,.int .i64 base,.int .i64 most] w fun e w'=>e=.returned (.tuple #[.string ⟨(number base most s.data.toList).1.toArray⟩,.int .i64 (number base most s.data.toList).2])∧Below w.heap.size w w':=by
 go_enter Tryz.func229,Tryz.ntmps229
 go_upto_block 0 with (fail)
 go_cut [8,9] (fun u8 u9 wc=>∃v n:Nat,u8=.int .i64 v∧u9=.int .i64 n∧Below w.heap.size w wc∧(n=0∧dB base s.data.toList=s.size∨n=dB base s.data.toList∧n<s.size∧n <= most∧v=jn base (s.data.toList.take n))∧v<16 ^ 7)
 case first=>
  go_wp2_with fail;go_loopw [8,9] (fun u8 u9 wr=>∃v pos:Nat,u8=.int .i64 v∧u9=.int .i64 0∧wr.heap[w.heap.size]? =some (.stringIter s pos)∧Below w.heap.size w wr∧pos <= s.size∧pos <= dB base s.data.toList∧pos <= most∧v=jn base (s.data.toList.take pos)∧v<16 ^ pos) (fun _ _ wr=>s.size - wr.iterPos w.heap.size)
  case atStart=>
   refine ⟨0,0,rfl,rfl,?_,?_,by omega,by omega,by omega,rfl,by decide⟩
   ·have:=World.iter_heap w s 0;simpa using this
   ·exact (Below.refl _ w).alloc (Nat.le_refl _) _
  case round=>
   obtain ⟨v,pos,rfl,rfl,hit,hbw,hpz,hpd,hpm,hv,hv16⟩:=hrel;have hsz:w.heap.size<wr.heap.size:=(Array.getElem?_eq_some_iff.1 hit).1;have hp16:16 ^ pos <= 16 ^ 7:=Nat.pow_le_pow_right (by omega) (by omega);by_cases hp:pos<s.size
   ·have hnx:∀ty,(Instr.next (.pointer (some ⟨w.heap.size,0,none⟩)) true ty).run Tryz.prog wr=_:=fun ty=>Lib.run_next_any_at wr w.heap.size s pos ty hit hp;have hit2:=Lib.iterAt_heap wr w.heap.size s pos (pos+(Utf8.decode s pos).2) hit;have hbw2:=Lib.below_iterAt hbw (k:=w.heap.size) (by omega) s (pos+(Utf8.decode s pos).2);by_cases hasc:s[pos].toNat<128
    ·have hd:=Go.decode_ascii s pos hp hasc;rw [hd]at hnx hit2 hbw2;have hgd:=nV s pos hp;obtain ⟨c,hc⟩:∃c,s[pos]=c:=⟨_,rfl⟩
     rw [hc]at hasc hnx hit2 hbw2 hgd;clear hd;obtain ⟨⟨o1,o2⟩,o3⟩:=zf c hasc;obtain ⟨q,hq⟩:∃q,bits BinOp.or IntKind.i32 (c.toNat:Int) 32=q:=⟨_,rfl⟩
     rw [hq]at o1 o2 o3;simp only at hnx hit2 hbw2;have HC:∀W,Calls Tryz.prog 146 #[.string ⟨#[48,49,50,51,52,53,54,55,56,57,97,98,99,100,101,102]⟩,.int .i32 q] W fun e w'=>e=.returned (.int .i64 (Lib.indexByte zu q.toNat.toUInt8))∧w'=W:=fun W=>Tryz.strings_IndexRune_ascii _ q W o1 o2;obtain ⟨d,hd⟩:∃d,Lib.indexByte zu q.toNat.toUInt8=d:=⟨_,rfl⟩
     rw [hd]at o3;simp only [hd]at HC;by_cases cD:qe base c=true
     ·have cD':i7 c<base:=(by simpa [qe]using cD);have o4:48 <= c.toNat∧c.toNat <= 102∧¬(57<c.toNat∧c.toNat<65):=by
       by_cases o4:48 <= c.toNat∧c.toNat <= 102∧¬(57<c.toNat∧c.toNat<65)
       ·exact o4
       ·rw [if_neg o4]at o3;omega
      rw [if_pos o4]at o3;have o5:d=i7 c:=(by omega);subst o5;have t1:¬(c.toNat:Int)<48:=(by omega);have t2:¬(102:Int)<(c.toNat:Int):=(by omega);have t5:¬(i7 c:Int)<0:=(by omega);have t6:¬(base:Int) <= (i7 c:Int):=(by omega);have hst:=tX base s.data.toList pos hpd (by simpa using hp) (by rw [hgd];exact cD);have hns:=uI base s.data.toList pos (by simpa using hp);rw [<- hv,hgd]at hns;have HNS:=zh hns;have HV:=zh hv;clear hns hv o3;by_cases cM:pos=most
      ·subst cM;by_cases t3:c.toNat <= 57
       ·have t4:¬(57:Int)<(c.toNat:Int):=(by omega);go_wp2_with fail;refine (HC _).mono ?_;rintro e w' ⟨rfl,rfl⟩;go_wp2_with fail
        go_ret2
        exact ⟨ld (gT base pos _ (Or.inl (by omega))),hbw2⟩
       ·have t4:(57:Int)<(c.toNat:Int):=(by omega);have t7:¬(c.toNat:Int)<65:=(by omega);go_wp2_with fail;refine (HC _).mono ?_;rintro e w' ⟨rfl,rfl⟩;go_wp2_with fail
        go_ret2
        exact ⟨ld (gT base pos _ (Or.inl (by omega))),hbw2⟩
      ·have cM':¬(pos:Int)=(most:Int):=(by omega);have m1:v*base <= v*16:=Nat.mul_le_mul_left _ (by omega);obtain ⟨V,hV⟩:∃V,v*base=V:=⟨_,rfl⟩
       have m5:IntKind.i64.wrap ((v:Int)*(base:Int))=(V:Int):=by
        rw [<- hV,wrap_small _ (by omega) (by omega)];simp
       have m4:16 ^ (pos+1)=16 ^ pos*16:=Nat.pow_succ ..;rw [hV]at m1;by_cases t3:c.toNat <= 57
       ·have t4:¬(57:Int)<(c.toNat:Int):=(by omega);go_wp2_with fail;refine (HC _).mono ?_;rintro e w' ⟨rfl,rfl⟩;go_wp2_with fail;go_roundw
        case rel=>
         exact ⟨V+i7 c,pos+1,by simp,rfl,hit2,hbw2,by omega,hst,by omega,by rw [HNS.out,hV],by omega⟩
        case measure=>simp only [World.iterPos,hit2,hit];omega
       ·have t4:(57:Int)<(c.toNat:Int):=(by omega);have t7:¬(c.toNat:Int)<65:=(by omega);go_wp2_with fail;refine (HC _).mono ?_;rintro e w' ⟨rfl,rfl⟩;go_wp2_with fail;go_roundw
        case rel=>
         exact ⟨V+i7 c,pos+1,by simp,rfl,hit2,hbw2,by omega,hst,by omega,by rw [HNS.out,hV],by omega⟩
        case measure=>simp only [World.iterPos,hit2,hit];omega
     ·have cD':¬i7 c<base:=(by simpa [qe]using cD);have hst:=oD base s.data.toList pos hpd (by rw [hgd];simpa using cD);have HST:=zh hst;have HV:=zh hv;clear hst hv
      have hcases:((c.toNat:Int)<48)∨(¬(c.toNat:Int)<48∧(102:Int)<(c.toNat:Int))∨(¬(c.toNat:Int)<48∧¬(102:Int)<(c.toNat:Int)∧(57:Int)<(c.toNat:Int)∧(c.toNat:Int)<65)
        ∨(¬(c.toNat:Int)<48∧¬(102:Int)<(c.toNat:Int)∧(57:Int)<(c.toNat:Int)∧¬(c.toNat:Int)<65∧d<0)∨(¬(c.toNat:Int)<48∧¬(102:Int)<(c.toNat:Int)∧(57:Int)<(c.toNat:Int)∧¬(c.toNat:Int)<65∧¬d<0∧(base:Int) <= d)
        ∨(¬(c.toNat:Int)<48∧¬(102:Int)<(c.toNat:Int)∧¬(57:Int)<(c.toNat:Int)∧d<0)∨(¬(c.toNat:Int)<48∧¬(102:Int)<(c.toNat:Int)∧¬(57:Int)<(c.toNat:Int)∧¬d<0∧(base:Int) <= d):=by
       by_cases o4:48 <= c.toNat∧c.toNat <= 102∧¬(57<c.toNat∧c.toNat<65)
       ·rw [if_pos o4]at o3;omega
       ·rw [if_neg o4]at o3;omega
      clear o3 cD cD';rcases hcases with t1|⟨t1,t2⟩|⟨t1,t2,t3,t4⟩|⟨t1,t2,t3,t4,t5⟩|⟨t1,t2,t3,t4,t5,t6⟩|⟨t1,t2,t3,t5⟩|⟨t1,t2,t3,t5,t6⟩
      all_goals
       go_wp2_with fail;refine (HC _).mono ?_;rintro e w' ⟨rfl,rfl⟩;go_wp2_with fail
       go_meet
       case rel=>exact ⟨v,pos,rfl,rfl,hbw2,Or.inr ⟨HST.out.symm,hp,hpm,HV.out⟩,by omega⟩
    ·have hbig:=lV s pos hp (by omega);have hdl:=Lib.rune_le s pos;have hst:=oD base s.data.toList pos hpd (by
      rw [nV s pos hp];unfold qe i7;have:¬s[pos].toNat<128:=hasc;rw [if_neg (by rw [UInt8.le_iff_toNat_le,UInt8.le_iff_toNat_le];simp;omega),if_neg (by rw [UInt8.le_iff_toNat_le,UInt8.le_iff_toNat_le];simp;omega),if_neg (by rw [UInt8.le_iff_toNat_le,UInt8.le_iff_toNat_le];simp;omega)];simp;omega)
     have HST:=zh hst;have HV:=zh hv;clear hst hv;obtain ⟨r,n,hrn⟩:∃r n,Utf8.decode s pos=(r,n):=⟨_,_,rfl⟩
     rw [hrn]at hnx hit2 hbw2 hbig hdl;simp only at hnx hit2 hbw2 hbig hdl;clear hrn;obtain ⟨o1,o2⟩:=El r hbig (by omega);obtain ⟨q,hq⟩:∃q,bits BinOp.or IntKind.i32 (r:Int) 32=q:=⟨_,rfl⟩
     rw [hq]at o1 o2;have t1:¬(r:Int)<48:=(by omega);have t2:(102:Int)<(r:Int):=(by omega);go_wp2_with fail;refine (iq _ q _ (by unfold cQ;decide) (by decide) o1 o2).mono ?_;rintro e w' ⟨rfl,hb3⟩;have hbb:=hbw2.trans (hb3.mono hbw2.size);go_wp2_with fail
     go_meet
     case rel=>exact ⟨v,pos,rfl,rfl,hbb,Or.inr ⟨HST.out.symm,hp,hpm,HV.out⟩,by omega⟩
   ·have hnx:∀ty,(Instr.next (.pointer (some ⟨w.heap.size,0,none⟩)) true ty).run Tryz.prog wr=_:=fun ty=>Lib.run_next_end_at wr w.heap.size s pos ty hit hp;have hdl:=ze base s.data.toList
    have HS:=zh (show dB base s.data.toList=s.size by have:s.data.toList.length=s.size:=by simp
                                                      omega)
    clear hv;go_wp2_with fail
    go_meet
    case rel=>exact ⟨v,0,rfl,rfl,hbw,Or.inl ⟨rfl,HS.out⟩,by omega⟩
 case rest=>
  obtain ⟨v,n,rfl,rfl,hB,hD,hv⟩:=hcut;rw [show 16 ^ 7=268435456 from by decide]at hv;by_cases c0:n=0
  ·have HN:=zh (gT base most s.data.toList (by
    rcases hD with ⟨_,h⟩|⟨h,_⟩
    ·exact Or.inr (Or.inr (by rw [h];simp [List.getD_eq_getElem?_getD]))
    ·exact Or.inr (Or.inl (by omega))))
   subst c0;clear hD;go_wp2_with fail
   go_ret2
   exact ⟨ld HN.out,hB⟩
  ·rcases hD with ⟨h,_⟩|⟨h1,h2,h3,h4⟩
   ·omega
   ·have hc0:((n:Int)==0)=false:=(by simp;omega);have hgd:=nV s n h2;obtain ⟨x,hx⟩:∃x,s[n]=x:=⟨_,rfl⟩
    rw [hx]at hgd;have HG:=zh hgd;have H1:=zh h1;have H4:=zh h4;clear hgd h1 h4 c0;by_cases c1:x.toNat=59
    ·have hxe:x=59:=UInt8.toNat.inj (by simpa using c1);have HNS:=zh (uJ base most s.data.toList (by rw [<- H1.out];exact h3) (by rw [<- H1.out];intro h;rw [h]at hc0;simp at hc0) (by rw [<- H1.out,HG.out,hxe]));clear hxe;have t1:((x.toNat:Int)==59)=true:=(by simp;omega);have t1':((x.toNat:Int) !=59)=false:=(by simp;omega);clear c1;by_cases c2:v=0
     ·have HB:=zh (show number base most s.data.toList=([239,191,189],n) by
       rw [HNS.out,<- H1.out,<- H4.out,if_pos (Or.inl c2)])
      have t2:((v:Int)==0)=true:=(by simp;omega);clear c2;go_wp2_with fail
      go_ret2
      exact ⟨ld HB.out,hB⟩
     ·have t2:((v:Int)==0)=false:=(by simp;omega);have hw:IntKind.i32.wrap (v:Int)=(v:Int):=(by unfold IntKind.wrap;simp [IntKind.bits,IntKind.signed];omega);cases hvr:Lib.validRune (v:Int)
      ·have HB:=zh (show number base most s.data.toList=([239,191,189],n) by
        rw [HNS.out,<- H1.out,<- H4.out,if_pos (Or.inr hvr)])
       have HR:=zh hvr;clear c2 hvr;go_wp2_with fail;refine (Tryz.utf8_ValidRune _ _).mono ?_;rintro e w' ⟨rfl,rfl⟩;rw [HR.out];go_wp2_with fail
       go_ret2
       exact ⟨ld HB.out,hB⟩
      ·have HB:=zh (show number base most s.data.toList=((Utf8.encode (v:Int)).data.toList,n) by
        rw [HNS.out,<- H1.out,<- H4.out,if_neg (by rintro (h|h);exact c2 h;rw [hvr]at h;cases h)])
       have HR:=zh hvr;clear c2 hvr;go_wp2_with fail;refine (Tryz.utf8_ValidRune _ _).mono ?_;rintro e w' ⟨rfl,rfl⟩;rw [HR.out];go_wp2_with fail
       go_ret2
       exact ⟨vd HB.out,hB⟩
    ·have HN:=zh (gT base most s.data.toList (Or.inr (Or.inr (by
      rw [<- H1.out,HG.out];intro h;rw [h]at c1;exact c1 rfl))))
     have t1:((x.toNat:Int)==59)=false:=(by simp;omega);have t1':((x.toNat:Int) !=59)=true:=(by simp;omega);clear c1;go_wp2_with fail
     go_ret2
     exact ⟨ld HN.out,hB⟩
theorem jD (c:UInt8) (l:List UInt8):Lib.trimPrefix (c::l) [c]=l:=by simp [Lib.trimPrefix,Lib.hasPrefix]
theorem rF (rest:List UInt8) (h:rest.head? ≠some 35):cH (38::rest)=
  (if (Lib.cut rest [59]).2.2=true then (if (named (Lib.cut rest [59]).1).2=true then ((named (Lib.cut rest [59]).1).1,(Lib.cut rest [59]).1.length+2)else ([],0))else ([],0)):=by
 unfold cH;split
 ·rename_i heq;simp only [List.cons.injEq,true_and]at heq;rw [heq]at h;simp at h
 ·rename_i heq;simp only [List.cons.injEq,true_and]at heq;rw [heq]
 ·rename_i h1 h2;exact absurd rfl (h2 rest)
theorem kP (r:List UInt8) (b m a:Nat) (h:(r.head? =some 120∨r.head? =some 88)∧b=16∧m=6∧a=3∨¬(r.head? =some 120∨r.head? =some 88)∧b=10∧m=7∧a=2):
  cH (38::35::r)=(if (number b m ((38::35::r).drop a)).2=0 then ([],0)else ((number b m ((38::35::r).drop a)).1,a+(number b m ((38::35::r).drop a)).2+1)):=by
 rcases h with ⟨h,rfl,rfl,rfl⟩|⟨h,rfl,rfl,rfl⟩
 ·unfold cH;simp only [h,if_true]
 ·unfold cH;simp only [h,if_false]
theorem Ch (r:List UInt8) (c:UInt8):Lib.hasPrefix (35::r) [35,c]=decide (r.head? =some c):=by
 unfold Lib.hasPrefix;cases r with
 |nil=>simp [List.isPrefixOf]
 |cons d r=>simp [List.isPrefixOf];rw [Bool.eq_iff_iff];simp;exact eq_comm
theorem Eo (rest p:List UInt8) (h:rest.head? ≠some 35):Lib.hasPrefix rest (35::p)=false:=by
 unfold Lib.hasPrefix;cases rest with
 |nil=>rfl
 |cons d r=>simp at h;simp [List.isPrefixOf];intro e;exact absurd e.symm h
theorem nY (b m:Nat) (l:List UInt8):(number b m l).2 <= m:=by
 unfold number;simp only;split
 ·exact Nat.zero_le _
 ·rename_i h;simp only;omega
theorem wl (l p:List UInt8):(Lib.cut l p).1.length <= l.length:=by
 unfold Lib.cut;split
 ·simp only;exact List.length_take_le' _ _
 ·exact Nat.le_refl _
theorem iv {p:List UInt8×Nat} {x:List UInt8} {n:Int} {m:Nat} (h:p=(x,m)) (hn:n=m):Ending.returned (.tuple #[.string ⟨x.toArray⟩,.int .i64 n])=.returned (.tuple #[.string ⟨p.1.toArray⟩,.int .i64 p.2]):=by rw [h,hn]
theorem D6 (s R:ByteArray) (r:List UInt8) (w:World) (hs:s.data.toList=38::35::r) (hR:R.data.toList=35::r) (hz:s.size <= 1000000000):
  Calls Tryz.prog 208 #[.string s] w fun e w'=>e=.returned (.tuple #[.string ⟨(cH s.data.toList).1.toArray⟩,.int .i64 (cH s.data.toList).2])∧Below w.heap.size w w':=by
 have hcut:∀W,Calls Tryz.prog 88 #[.string s,.string ⟨#[38]⟩] W fun e w'=>e=.returned (.tuple #[.string R,.bool true])∧w'=W:=fun W=>by
  refine (Tryz.strings_CutPrefix s ⟨#[38]⟩ W).mono ?_;rintro e w' ⟨rfl,rfl⟩;refine ⟨?_,rfl⟩;rw [hs,A0 hR,show (ByteArray.mk #[38]).data.toList=[38]from rfl,jD];rfl
 have hl:s.size=r.length+2:=(by rw [Lib.size_eq,hs];simp);have hp:∀(c:UInt8) W,Calls Tryz.prog 106 #[.string R,.string ⟨#[35,c]⟩] W fun e w'=>e=.returned (.bool (decide (r.head? =some c)))∧w'=W:=fun c W=>by
  have:=Tryz.strings_HasPrefix R ⟨#[35,c]⟩ W;rw [hR,show (ByteArray.mk #[35,c]).data.toList=[35,c]from rfl,Ch]at this;exact this
 have hp0:∀W,Calls Tryz.prog 106 #[.string R,.string ⟨#[35]⟩] W fun e w'=>e=.returned (.bool true)∧w'=W:=fun W=>by
  have:=Tryz.strings_HasPrefix R ⟨#[35]⟩ W;rw [hR,show Lib.hasPrefix (35::r) (ByteArray.mk #[35]).data.toList=true by simp [Lib.hasPrefix]]at this;exact this
 have HC:=zh hcut;have HP:=zh hp;have HP0:=zh hp0;have HS:=zh hs;clear hcut hp hp0 hs hR
 have fin:∀(b m a:Nat) (p:List UInt8×Nat),cH (38::35::r)=(if (number b m ((38::35::r).drop a)).2=0 then ([],0)else ((number b m ((38::35::r).drop a)).1,a+(number b m ((38::35::r).drop a)).2+1)) ->
   number b m ((38::35::r).drop a)=p ->cH s.data.toList=if p.2=0 then ([],0)else (p.1,a+p.2+1):=fun b m a p h hp=>by rw [HS.out,h,hp]
 have FIN:=zh fin;clear fin;have hsl:2 <= s.size:=(by omega);by_cases h2:r.head? =some 120∨r.head? =some 88
 ·have hr1:1 <= r.length:=(by cases r with|nil=>simp at h2|cons _ _=>simp);have hs3:(3:Int) <= (s.size:Int):=(by omega);obtain ⟨S,hS⟩:∃S:ByteArray,s.extract 3 s.size=S:=⟨_,rfl⟩
  have hSl:S.data.toList=(38::35::r).drop 3:=(by rw [<- hS,Lib.extract_to_end,HS.out]);have hSz:S.size <= 1000000000:=(by rw [Lib.size_eq,hSl];simp;omega);have hnum:∀W,Calls Tryz.prog 229 #[.string S,.int .i64 16,.int .i64 6] W _:=qs S 16 6 (Or.inr rfl) (by omega) hSz;rw [hSl]at hnum;have hnl:=nY 16 6 ((38::35::r).drop 3);obtain ⟨p,hp⟩:∃p,number 16 6 ((38::35::r).drop 3)=p:=⟨_,rfl⟩
  have HF:=zh (FIN.out 16 6 3 p (kP r 16 6 3 (Or.inl ⟨h2,rfl,rfl,rfl⟩)) hp);rw [hp]at hnum hnl;have HN:=zh hnum;clear hnum hp hSl FIN hl;by_cases h3:r.head? =some 120
  ·have hd:decide (r.head? =some 120)=true:=decide_eq_true h3;have HD:=zh hd;clear h2 h3 hd;by_cases h0:p.2=0
   ·have HR:=zh (show cH s.data.toList=([],0) by rw [HF.out,if_pos h0]);have h0':((p.2:Int)==0)=true:=(by simp;omega);clear h0 HF;go_enter Tryz.func208,Tryz.ntmps208
    go_wp2_with fail;refine (HC.out _).mono ?_;rintro e w' ⟨rfl,rfl⟩;go_wp2_with fail;refine (HP.out 120 _).mono ?_;rintro e w' ⟨rfl,rfl⟩;rw [HD.out];go_wp2_with fail;refine (HP0.out _).mono ?_;rintro e w' ⟨rfl,rfl⟩;go_wp2_with fail;refine (HN.out _).mono ?_;rintro e w' ⟨rfl,hb⟩;go_wp2_with fail
    go_ret2
    exact ⟨iv HR.out rfl,hb⟩
   ·have HR:=zh (show cH s.data.toList=(p.1,3+p.2+1) by rw [HF.out,if_neg h0]);have h0':((p.2:Int)==0)=false:=(by simp;omega);clear h0 HF;go_enter Tryz.func208,Tryz.ntmps208
    go_wp2_with fail;refine (HC.out _).mono ?_;rintro e w' ⟨rfl,rfl⟩;go_wp2_with fail;refine (HP.out 120 _).mono ?_;rintro e w' ⟨rfl,rfl⟩;rw [HD.out];go_wp2_with fail;refine (HP0.out _).mono ?_;rintro e w' ⟨rfl,rfl⟩;go_wp2_with fail;refine (HN.out _).mono ?_;rintro e w' ⟨rfl,hb⟩;go_wp2_with fail
    go_ret2
    exact ⟨iv HR.out (by simp),hb⟩
  ·have hd:decide (r.head? =some 120)=false:=decide_eq_false h3;have hd2:decide (r.head? =some 88)=true:=decide_eq_true (h2.resolve_left h3);have HD:=zh hd;have HD2:=zh hd2;clear h2 h3 hd hd2;by_cases h0:p.2=0
   ·have HR:=zh (show cH s.data.toList=([],0) by rw [HF.out,if_pos h0]);have h0':((p.2:Int)==0)=true:=(by simp;omega);clear h0 HF;go_enter Tryz.func208,Tryz.ntmps208
    go_wp2_with fail;refine (HC.out _).mono ?_;rintro e w' ⟨rfl,rfl⟩;go_wp2_with fail;refine (HP.out 120 _).mono ?_;rintro e w' ⟨rfl,rfl⟩;rw [HD.out];go_wp2_with fail;refine (HP.out 88 _).mono ?_;rintro e w' ⟨rfl,rfl⟩;rw [HD2.out];go_wp2_with fail;refine (HP0.out _).mono ?_;rintro e w' ⟨rfl,rfl⟩;go_wp2_with fail;refine (HN.out _).mono ?_;rintro e w' ⟨rfl,hb⟩;go_wp2_with fail
    go_ret2
    exact ⟨iv HR.out rfl,hb⟩
   ·have HR:=zh (show cH s.data.toList=(p.1,3+p.2+1) by rw [HF.out,if_neg h0]);have h0':((p.2:Int)==0)=false:=(by simp;omega);clear h0 HF;go_enter Tryz.func208,Tryz.ntmps208
    go_wp2_with fail;refine (HC.out _).mono ?_;rintro e w' ⟨rfl,rfl⟩;go_wp2_with fail;refine (HP.out 120 _).mono ?_;rintro e w' ⟨rfl,rfl⟩;rw [HD.out];go_wp2_with fail;refine (HP.out 88 _).mono ?_;rintro e w' ⟨rfl,rfl⟩;rw [HD2.out];go_wp2_with fail;refine (HP0.out _).mono ?_;rintro e w' ⟨rfl,rfl⟩;go_wp2_with fail;refine (HN.out _).mono ?_;rintro e w' ⟨rfl,hb⟩;go_wp2_with fail
    go_ret2
    exact ⟨iv HR.out (by simp),hb⟩
 ·have hd:decide (r.head? =some 120)=false:=decide_eq_false (fun h=>h2 (Or.inl h));have hd2:decide (r.head? =some 88)=false:=decide_eq_false (fun h=>h2 (Or.inr h));have HD:=zh hd;have HD2:=zh hd2;have hs3:(2:Int) <= (s.size:Int):=(by omega);obtain ⟨S,hS⟩:∃S:ByteArray,s.extract 2 s.size=S:=⟨_,rfl⟩
  have hSl:S.data.toList=(38::35::r).drop 2:=(by rw [<- hS,Lib.extract_to_end,HS.out]);have hSz:S.size <= 1000000000:=(by rw [Lib.size_eq,hSl];simp;omega);have hnum:∀W,Calls Tryz.prog 229 #[.string S,.int .i64 10,.int .i64 7] W _:=qs S 10 7 (Or.inl rfl) (by omega) hSz;rw [hSl]at hnum;have hnl:=nY 10 7 ((38::35::r).drop 2);obtain ⟨p,hp⟩:∃p,number 10 7 ((38::35::r).drop 2)=p:=⟨_,rfl⟩
  have HF:=zh (FIN.out 10 7 2 p (kP r 10 7 2 (Or.inr ⟨h2,rfl,rfl,rfl⟩)) hp);rw [hp]at hnum hnl;have HN:=zh hnum;clear hnum hp hSl FIN hl;clear h2 hd hd2;by_cases h0:p.2=0
  ·have HR:=zh (show cH s.data.toList=([],0) by rw [HF.out,if_pos h0]);have h0':((p.2:Int)==0)=true:=(by simp;omega);clear h0 HF;go_enter Tryz.func208,Tryz.ntmps208
   go_wp2_with fail;refine (HC.out _).mono ?_;rintro e w' ⟨rfl,rfl⟩;go_wp2_with fail;refine (HP.out 120 _).mono ?_;rintro e w' ⟨rfl,rfl⟩;rw [HD.out];go_wp2_with fail;refine (HP.out 88 _).mono ?_;rintro e w' ⟨rfl,rfl⟩;rw [HD2.out];go_wp2_with fail;refine (HP0.out _).mono ?_;rintro e w' ⟨rfl,rfl⟩;go_wp2_with fail;refine (HN.out _).mono ?_;rintro e w' ⟨rfl,hb⟩;go_wp2_with fail
   go_ret2
   exact ⟨iv HR.out rfl,hb⟩
  ·have HR:=zh (show cH s.data.toList=(p.1,2+p.2+1) by rw [HF.out,if_neg h0]);have h0':((p.2:Int)==0)=false:=(by simp;omega);clear h0 HF;go_enter Tryz.func208,Tryz.ntmps208
   go_wp2_with fail;refine (HC.out _).mono ?_;rintro e w' ⟨rfl,rfl⟩;go_wp2_with fail;refine (HP.out 120 _).mono ?_;rintro e w' ⟨rfl,rfl⟩;rw [HD.out];go_wp2_with fail;refine (HP.out 88 _).mono ?_;rintro e w' ⟨rfl,rfl⟩;rw [HD2.out];go_wp2_with fail;refine (HP0.out _).mono ?_;rintro e w' ⟨rfl,rfl⟩;go_wp2_with fail;refine (HN.out _).mono ?_;rintro e w' ⟨rfl,hb⟩;go_wp2_with fail
   go_ret2
   exact ⟨iv HR.out (by simp),hb⟩
theorem D4 (s:ByteArray) (w:World) (hE:lx w) (hz:s.size <= 1000000000):
  Calls Tryz.prog 208 #[.string s] w fun e w'=>e=.returned (.tuple #[.string ⟨(cH s.data.toList).1.toArray⟩,.int .i64 (cH s.data.toList).2])∧Below w.heap.size w w':=by
 obtain ⟨mx,hmx⟩:=hE.maxl;have HE:=zh hE;clear hE;by_cases h0:∃rest,s.data.toList=38::rest
 ·obtain ⟨rest,hs⟩:=h0;have hRl:(ByteArray.mk rest.toArray).data.toList=rest:=rfl;by_cases h1:rest.head? =some 35
  ·obtain ⟨r,rfl⟩:∃r,rest=35::r:=by
    cases rest with
    |nil=>simp at h1
    |cons d r=>simp at h1;exact ⟨r,by rw [h1]⟩
   exact D6 s ⟨(35::r).toArray⟩ r w hs rfl hz
  ·obtain ⟨R,hR⟩:∃R:ByteArray,R=⟨rest.toArray⟩:=⟨_,rfl⟩
   have hRl:R.data.toList=rest:=by rw [hR]
   have hRs:R.size <= 1000000000:=by rw [Lib.size_eq,hRl];have:s.size=rest.length+1:=by rw [Lib.size_eq,hs];simp
                                     omega
   have hcut:∀W,Calls Tryz.prog 88 #[.string s,.string ⟨#[38]⟩] W fun e w'=>e=.returned (.tuple #[.string R,.bool true])∧w'=W:=fun W=>by
    refine (Tryz.strings_CutPrefix s ⟨#[38]⟩ W).mono ?_;rintro e w' ⟨rfl,rfl⟩;refine ⟨?_,rfl⟩;rw [hs,hR,show (ByteArray.mk #[38]).data.toList=[38]from rfl,jD];rfl
   have hp:∀(p:List UInt8) W,Calls Tryz.prog 106 #[.string R,.string ⟨(35::p).toArray⟩] W fun e w'=>e=.returned (.bool false)∧w'=W:=fun p W=>by
    have:=Tryz.strings_HasPrefix R ⟨(35::p).toArray⟩ W;rw [hRl,show (ByteArray.mk (35::p).toArray).data.toList=35::p from rfl,Eo _ _ h1]at this;exact this
   have hc:=Tryz.strings_Cut R ⟨#[59]⟩ mx;rw [hRl,show (ByteArray.mk #[59]).data.toList=[59]from rfl]at hc;have hcl:=wl rest [59];have hrl:rest.length <= 1000000000:=(by rw [<- hRl,<- Lib.size_eq];exact hRs);have HA:=zh (rF rest h1);obtain ⟨c,hce⟩:∃c,Lib.cut rest [59]=c:=⟨_,rfl⟩
   rw [hce]at hc hcl;have HCE:=zh hce;have HC:=zh hcut;have HP:=zh hp;have HT:=zh hc;have HS:=zh hs;clear hce hcut hp hc hs hRl hR h1;cases hb:c.2.2
   ·have HR:=zh (show cH s.data.toList=([],0) by rw [HS.out,HA.out,HCE.out,hb];rfl);have HB:=zh hb;clear hb;go_enter Tryz.func208,Tryz.ntmps208
    go_wp2_with fail;refine (HC.out _).mono ?_;rintro e w' ⟨rfl,rfl⟩;go_wp2_with fail;refine (HP.out [120] _).mono ?_;rintro e w' ⟨rfl,rfl⟩;go_wp2_with fail;refine (HP.out [88] _).mono ?_;rintro e w' ⟨rfl,rfl⟩;go_wp2_with fail;refine (HP.out [] _).mono ?_;rintro e w' ⟨rfl,rfl⟩;go_wp2_with fail;refine (HT.out _ (by omega) hmx).mono ?_;rintro e w' ⟨rfl,nq,rfl⟩;rw [HB.out];go_wp2_with fail
    go_ret2
    exact ⟨iv HR.out rfl,bN _ _⟩
   ·obtain ⟨q,hq⟩:∃q,named c.1=q:=⟨_,rfl⟩
    have hcz:c.1.length <= 1000000000:=(by omega);have hN:∀W,lx W ->Calls Tryz.prog 230 #[.string ⟨c.1.toArray⟩] W fun e w'=>e=.returned (.tuple #[.string ⟨q.1.toArray⟩,.bool q.2])∧Below W.heap.size W w':=fun W hW=>by
     have:=zN ⟨c.1.toArray⟩ W hW;rw [show (ByteArray.mk c.1.toArray).data.toList=c.1 from rfl,hq]at this;exact this
    have HN:=zh hN;have HB:=zh hb;have hsz:(ByteArray.mk c.1.toArray).size=c.1.length:=(by rw [Lib.size_eq]);have HZ:=zh hsz;have HQ:=zh hq;clear hb hN hsz hq;cases hq2:q.2
    ·have HR:=zh (show cH s.data.toList=([],0) by rw [HS.out,HA.out,HCE.out,HB.out,HQ.out,hq2];rfl);have HQ2:=zh hq2;clear hq2;go_enter Tryz.func208,Tryz.ntmps208
     go_wp2_with fail;refine (HC.out _).mono ?_;rintro e w' ⟨rfl,rfl⟩;go_wp2_with fail;refine (HP.out [120] _).mono ?_;rintro e w' ⟨rfl,rfl⟩;go_wp2_with fail;refine (HP.out [88] _).mono ?_;rintro e w' ⟨rfl,rfl⟩;go_wp2_with fail;refine (HP.out [] _).mono ?_;rintro e w' ⟨rfl,rfl⟩;go_wp2_with fail;refine (HT.out _ (by omega) hmx).mono ?_;rintro e w' ⟨rfl,nq,rfl⟩;rw [HB.out];go_wp2_with fail;refine (HN.out _ (HE.out.below (bN _ _))).mono ?_;rintro e w' ⟨rfl,hb⟩;rw [HQ2.out];go_wp2_with fail
     go_ret2
     exact ⟨iv HR.out rfl,(bN _ _).trans hb⟩
    ·have HR:=zh (show cH s.data.toList=(q.1,c.1.length+2) by rw [HS.out,HA.out,HCE.out,HB.out,HQ.out,hq2];rfl);have HQ2:=zh hq2;clear hq2;go_enter Tryz.func208,Tryz.ntmps208
     go_wp2_with fail;refine (HC.out _).mono ?_;rintro e w' ⟨rfl,rfl⟩;go_wp2_with fail;refine (HP.out [120] _).mono ?_;rintro e w' ⟨rfl,rfl⟩;go_wp2_with fail;refine (HP.out [88] _).mono ?_;rintro e w' ⟨rfl,rfl⟩;go_wp2_with fail;refine (HP.out [] _).mono ?_;rintro e w' ⟨rfl,rfl⟩;go_wp2_with fail;refine (HT.out _ (by omega) hmx).mono ?_;rintro e w' ⟨rfl,nq,rfl⟩;rw [HB.out];go_wp2_with fail;refine (HN.out _ (HE.out.below (bN _ _))).mono ?_;rintro e w' ⟨rfl,hb⟩;rw [HQ2.out];go_wp2_with fail
     go_ret2
     exact ⟨iv HR.out (by simp),(bN _ _).trans hb⟩
 ·have hno:Lib.hasPrefix s.data.toList [38]=false:=by
   unfold Lib.hasPrefix;cases hl:s.data.toList with
   |nil=>rfl
   |cons d r=>
    simp [List.isPrefixOf];intro e;exact h0 ⟨r,by rw [hl,e]⟩
  have hR:cH s.data.toList=([],0):=by
   cases hl:s.data.toList with
   |nil=>rfl
   |cons d r=>exact gS d r (fun e=>h0 ⟨r,by rw [hl,e]⟩)
  have HR:=zh hR;have HNO:=zh hno;clear hno hR h0;go_enter Tryz.func208,Tryz.ntmps208
  go_wp2_with fail;refine (Tryz.strings_CutPrefix _ _ _).mono ?_;rintro e w' ⟨rfl,rfl⟩;rw [show (ByteArray.mk #[38]).data.toList=[38]from rfl,HNO.out];go_wp2_with fail
  go_ret2
  exact ⟨iv HR.out rfl,Below.refl _ _⟩
end Go.Proofs.YtcannffahjbjnaaGreatDoor
