import Derived.WalkKit
import Derived.WalkSmall
import Derived.Deep.Draws
import Derived.Test.YtcannffahjbjnaaGreatDoorRows
import Derived.Outline
import Derived.Deep.QuietTactic
import Derived.BigQuiet
import Derived.WalkLawsBesides
import Derived.Lib.Hide
import Derived.RegionTactic
import Derived.BigRegion
import Derived.Deep.RegionWith
import Derived.Deep.DeepCutAuto
import Derived.Deep.CutBlock
import Derived.ProofKit
import Derived.OpenShut
import Derived.Deep.Slices
import Derived.Deep.AppendLies
import Derived.OwnWalk
import Derived.Laws.OwnMore
import Derived.Deep.RegionLaw
import Derived.Laws.AppendOwnNone
set_option linter.unusedVariables false
set_option linter.unusedSimpArgs false
set_option maxRecDepth 100000
set_option maxHeartbeats 64000000
namespace Go.Proofs.YtcannffahjbjnaaGreatDoor
open Go.RowKit
def mB:Nat:=18446744073709551616
theorem yF:mB=2 ^ 64:=by unfold mB;decide
theorem eB {a b:Bool} (h:a=b):Ending.returned (.bool a)=.returned (.bool b):=by rw [h]
theorem py {k:IntKind} {a b:Int} (h:a=b):Ending.returned (.int k a)=.returned (.int k b):=by rw [h]
theorem oW (u k:Nat) (hu:u<mB):bits BinOp.and IntKind.u64 ((u:Int) / 2 ^ k) 1=(((u >>> k) % 2:Nat):Int):=by
 have e:((u:Int) / 2 ^ k)=((u / 2 ^ k:Nat):Int):=(by simp);have hlt:u / 2 ^ k <= u:=Nat.div_le_self _ _;unfold mB at hu;rw [e];have:=bits_and_u64_nat (u / 2 ^ k) 1 (by omega) (by omega);rw [Nat.and_one_is_mod]at this;rw [Nat.shiftRight_eq_div_pow];exact this
theorem m8 (u k:Nat) (hu:u<mB):decide (0<bits BinOp.and IntKind.u64 ((u:Int) / 2 ^ k) 1)=u.testBit k:=by
 rw [oW u k hu,Nat.testBit_eq_decide_div_mod_eq,Nat.shiftRight_eq_div_pow];by_cases h:u / 2 ^ k % 2=1
 ·simp [h]
 ·have:u / 2 ^ k % 2=0:=(by omega);simp [this]
theorem uz (u k:Nat) (hu:u<mB):(bits BinOp.and IntKind.u64 ((u:Int) / 2 ^ k) 1==0)= !u.testBit k:=by
 rw [oW u k hu,Nat.testBit_eq_decide_div_mod_eq,Nat.shiftRight_eq_div_pow];by_cases h:u / 2 ^ k % 2=1
 ·simp [h]
 ·have:u / 2 ^ k % 2=0:=(by omega);simp [this]
def p2 (k:Nat):Nat:=2 ^ k
theorem sf {k:Nat} (hk:k<64):p2 k<mB:=by unfold p2;rw [yF];exact Nat.pow_lt_pow_right (by omega) hk
theorem tE (k:Nat) (hk:k<64):IntKind.u64.wrap (2 ^ k)=(p2 k:Int):=by
 have h:=sf hk;unfold mB at h;have e:(2 ^ k:Int)=(p2 k:Int):=(by unfold p2;simp);rw [IntKind.wrap_u64,e];omega
theorem xc (a b:Nat) (ha:a<mB) (hb:b<mB):bits BinOp.or IntKind.u64 (a:Int) (b:Int)=((a ||| b:Nat):Int):=by
 unfold mB at ha hb;exact bits_or_u64_nat _ _ ha hb
theorem Bu (u k:Nat) (hu:u<mB) (h:u.testBit k=true):0<bits BinOp.and IntKind.u64 ((u:Int) / 2 ^ k) 1:=by
 have:=m8 u k hu;rw [h]at this;simpa using this
theorem qr (u k:Nat) (hu:u<mB) (h:u.testBit k=false):¬0<bits BinOp.and IntKind.u64 ((u:Int) / 2 ^ k) 1:=by
 have:=m8 u k hu;rw [h]at this;simpa using this
theorem nj (w:World) (x:Value) (t:TypeId):∀j u,[x][j]? =some u ->(w.alloc (.cells #[x] t)).cell? ((⟨w.heap.size,0,none⟩:Addr).add j)=some u:=by
 intro j u hj
 match j,hj with
 |0,hj=>
  simp only [List.getElem?_cons_zero,Option.some.injEq]at hj;subst hj;have:(⟨w.heap.size,0,none⟩:Addr).add 0=⟨w.heap.size,0,none⟩:=(by simp [Addr.add]);rw [this];simp
theorem B8 (w:World) (x:Value) (t:TypeId) (b:Nat) (hb:b=w.heap.size):∀j u,[x][j]? =some u ->(w.alloc (.cells #[x] t)).cell? ⟨b,j,none⟩=some u:=by
 subst hb;intro j u hj
 match j,hj with
 |0,hj=>
  simp only [List.getElem?_cons_zero,Option.some.injEq]at hj;subst hj;simp
def jJ (w:World) (g n:Nat) (f:Nat ->Int):Prop:=∃cur,w.heap[g]? =some (.cells cur 3 (0,0))∧∀i,i<n ->cur[i]? =some (.int .i64 (f i))
theorem jJ.cell {w:World} {g n:Nat} {f:Nat ->Int} (h:jJ w g n f) {i:Nat} (hi:i<n):w.cell? ⟨g,i,none⟩=some (.int .i64 (f i)):=by
 obtain ⟨cur,h1,h2⟩:=h;simp [World.cell?,h1,h2 i hi]
theorem jJ.lt {w:World} {g n:Nat} {f:Nat ->Int} (h:jJ w g n f):g<w.heap.size:=by
 obtain ⟨cur,h1,_⟩:=h;exact lt_of_block h1
theorem jJ.of_block {w w':World} {g n:Nat} {f:Nat ->Int} (h:jJ w g n f) (e:w'.heap[g]? =w.heap[g]?):jJ w' g n f:=by
 obtain ⟨cur,h1,h2⟩:=h;exact ⟨cur,e.trans h1,h2⟩
structure mu (W0 w:World) (bo n ka:Nat) (v:Value) (kb:Nat) (F:Nat ->Nat ->Int) (Bk:Nat):Prop where
 below:Below W0.heap.size W0 w
 bo_new:W0.heap.size <= bo
 bo_lt:bo<Bk
 bk_le:Bk <= w.heap.size
 cells:∃cur,w.heap[bo]? =some (.cells cur 107 (0,0))∧(∀i,i<ka ->∃g c,cur[i]? =some (.slice (some ⟨g,0,none⟩) n c)∧g<Bk∧jJ w g n (F i)∧W0.heap.size <= g)∧
  (ka<n ->cur[ka]? =some v)∧(∀i,ka<i ->i<n ->cur[i]? =some (.slice none 0 0))
 own:w.ownsRow Bk 3 1 v kb ((List.range kb).map fun c=>Value.int .i64 (F ka c))
theorem mu.cellAt {W0 w:World} {bo n ka:Nat} {v:Value} {kb:Nat} {F:Nat ->Nat ->Int} {Bk:Nat} (h:mu W0 w bo n ka v kb F Bk) (hk:ka<n):
  w.cell? ⟨bo,ka,none⟩=some v∧w.frozen? ⟨bo,ka,none⟩=false:=by
 obtain ⟨cur,h1,_,h3,_⟩:=h.cells;exact ⟨by simp [World.cell?,h1,h3 hk],by simp [World.frozen?,h1]⟩
theorem mu.start {W0 w:World} {bo n:Nat} {F:Nat ->Nat ->Int} (hb:Below W0.heap.size W0 w) (hn:W0.heap.size <= bo)
  (hc:w.heap[bo]? =some (.cells (Array.replicate n (.slice none 0 0)) 107 (0,0))):mu W0 w bo n 0 (.slice none 0 0) 0 F w.heap.size:=
 ⟨hb,hn,lt_of_block hc,Nat.le_refl _,⟨_,hc,fun i hi=>absurd hi (by omega),fun hk=>by simp [hk],fun i _ hi=>by simp [hi]⟩,World.ownsRow_nil _ _ _ _⟩
theorem mu.next {W0 w:World} {bo n ka:Nat} {v:Value} {F:Nat ->Nat ->Int} {Bk:Nat} (h:mu W0 w bo n ka v n F Bk) (hk:ka<n):
  mu W0 w bo n (ka+1) (.slice none 0 0) 0 F w.heap.size:=by
 obtain ⟨cur,h1,h2,h3,h4⟩:=h.cells;refine ⟨h.below,h.bo_new,Nat.lt_of_lt_of_le h.bo_lt h.bk_le,Nat.le_refl _,⟨cur,h1,?_,fun hk'=>h4 (ka+1) (by omega) hk',fun i hi hi'=>h4 i (by omega) hi'⟩,World.ownsRow_nil _ _ _ _⟩;intro i hi;by_cases e:i=ka
 ·subst e;rcases h.own.2 with ⟨_,e0⟩|⟨g,cap,cur',hv,hg,hh,_,_,hs,ht⟩
  ·omega
  ·refine ⟨g,cap,by rw [h3 hk,hv],lt_of_block hh,⟨cur',hh,fun j hj=>?_⟩,by have:=h.bo_new;have:=h.bo_lt;omega⟩;have:=congrArg (fun l=>l[j]?) ht;simp only [List.getElem?_take,Nat.mul_one,hj,if_true]at this;simpa [hj]using this
 ·obtain ⟨g,c,a1,a2,a3,a4⟩:=h2 i (by omega);exact ⟨g,c,a1,Nat.lt_of_lt_of_le a2 h.bk_le,a3,a4⟩
theorem mu.of_heap {W0 w w':World} {bo n ka:Nat} {v:Value} {kb:Nat} {F:Nat ->Nat ->Int} {Bk:Nat} (h:mu W0 w bo n ka v kb F Bk)
  (hs:w.heap.size <= w'.heap.size) (hb:∀k,k<w.heap.size ->w'.heap[k]? =w.heap[k]?) (ho:w'.os=w.os) (ht:w'.tape=w.tape) (hp:w'.output=w.output):mu W0 w' bo n ka v kb F Bk:=by
 obtain ⟨cur,h1,h2,h3,h4⟩:=h.cells;have hz:=h.below.size;have hbl:=h.bo_lt;have hbk:=h.bk_le;refine ⟨h.below.trans ⟨ho,ht,hp,hs,fun k hk=>hb k (by omega)⟩,h.bo_new,h.bo_lt,by omega,⟨cur,(hb bo (by omega)).trans h1,fun i hi=>?_,h3,h4⟩,?_⟩
 ·obtain ⟨g,c,a1,a2,a3,a4⟩:=h2 i hi;exact ⟨g,c,a1,a2,a3.of_block (hb g (by omega)),a4⟩
 ·rcases h.own with ⟨l1,l2|⟨g,cap,cur',hv,hg,hh,r⟩⟩
  ·exact ⟨l1,.inl l2⟩
  ·exact ⟨l1,.inr ⟨g,cap,cur',hv,hg,(hb g (lt_of_block hh)).trans hh,r⟩⟩
theorem mu.drew {W0 w:World} {bo n ka:Nat} {v:Value} {kb:Nat} {F:Nat ->Nat ->Int} {Bk:Nat} (h:mu W0 w bo n ka v kb F Bk):mu W0 w.drew bo n ka v kb F Bk:=
 h.of_heap (Nat.le_refl _) (fun _ _=>rfl) rfl rfl rfl
theorem mu.drewN {W0 w:World} {bo n ka:Nat} {v:Value} {kb:Nat} {F:Nat ->Nat ->Int} {Bk:Nat} (h:mu W0 w bo n ka v kb F Bk) (m:Nat):mu W0 (w.drewN m) bo n ka v kb F Bk:=
 h.of_heap (Nat.le_refl _) (fun _ _=>rfl) rfl rfl rfl
theorem mu.alloc {W0 w:World} {bo n ka:Nat} {v:Value} {kb:Nat} {F:Nat ->Nat ->Int} {Bk:Nat} (h:mu W0 w bo n ka v kb F Bk) (o:Obj):mu W0 (w.alloc o) bo n ka v kb F Bk:=
 h.of_heap (by simp) (fun k hk=>Below.heap_alloc _ _ _ hk) rfl rfl rfl
theorem mu.push {W0 w w2:World} {bo n ka:Nat} {v v':Value} {kb:Nat} {F:Nat ->Nat ->Int} {Bk:Nat} (h:mu W0 w bo n ka v kb F Bk) (hk:ka<n)
  (hown:w2.ownsRow Bk 3 1 v' (kb+1) (((List.range kb).map fun c=>Value.int .i64 (F ka c))++[.int .i64 (F ka kb)]))
  (hg:w.grownBy w2 v.ownBlock):mu W0 (w2.setCell ⟨bo,ka,none⟩ v') bo n ka v' (kb+1) F Bk:=by
 obtain ⟨cur,h1,h2,h3,h4⟩:=h.cells;have hz:=h.below.size;have hbl:=h.bo_lt;have hbk:=h.bk_le;have hbn:=h.bo_new;have hob:=h.own.lt;have hw2:∀k,k<Bk ->w2.heap[k]? =w.heap[k]? :=fun k hk'=>hg.block k (by omega) (fun e=>by have:=hob k e.symm;omega);have hset:∀k,k≠bo ->(w2.setCell ⟨bo,ka,none⟩ v').heap[k]? =w2.heap[k]? :=fun k hk'=>Below.heap_setCell _ _ _ _ hk';have hgs:=hg.size;have hbo:(w2.setCell ⟨bo,ka,none⟩ v').heap[bo]? =some (.cells (cur.setIfInBounds ka v') 107 (0,0)):=by
  have e:=(hw2 bo hbl).trans h1;simp [World.setCell,Array.getElem?_modify,e]
 refine ⟨(h.below.grown hg (by omega) (fun k e=>by have:=hob k e;omega)).setCell hbn _,hbn,hbl,by simp [World.setCell];omega,⟨_,hbo,fun i hi=>?_,fun _=>?_,fun i hi hi'=>?_⟩,?_⟩
 ·obtain ⟨g,c,a1,a2,a3,a4⟩:=h2 i hi;have hne:g≠bo:=by
   rintro rfl;obtain ⟨c',b1,_⟩:=a3;rw [b1]at h1;simp at h1
  exact ⟨g,c,by rw [Array.getElem?_setIfInBounds_ne (by omega)];exact a1,a2,a3.of_block ((hset g hne).trans (hw2 g a2)),a4⟩
 ·have hlt:ka<cur.size:=by
   have:=h3 hk;exact (Array.getElem?_eq_some_iff.1 this).1
  simp [hlt]
 ·rw [Array.getElem?_setIfInBounds_ne (by omega)];exact h4 i hi hi'
 ·have:=ownsRow_setCell_other (a:=⟨bo,ka,none⟩) hown (fun e=>by have:=hown.lt bo e;omega) v';rw [List.range_succ,List.map_append];exact this
theorem mu.kept {W0 w w2:World} {bo n ka:Nat} {v:Value} {kb:Nat} {F:Nat ->Nat ->Int} {Bk:Nat} (h:mu W0 w bo n ka v kb F Bk) (hk:ka<n) (hg:w.grownBy w2 v.ownBlock):
  w2.cell? ⟨bo,ka,none⟩=some v∧w2.frozen? ⟨bo,ka,none⟩=false:=by
 have hbl:=h.bo_lt;have hbk:=h.bk_le;have hb:w2.heap[bo]? =w.heap[bo]? :=hg.block bo (by omega) (fun e=>by have:=h.own.lt bo e.symm;omega);have hc:=h.cellAt hk;exact ⟨(World.cell?_of_block (a:=⟨bo,ka,none⟩) hb).trans hc.1,(World.frozen?_of_block (a:=⟨bo,ka,none⟩) hb).trans hc.2⟩
theorem Ca {w:World} {base:Nat} {e:TypeId} {v:Value} {n:Nat} {xs:List Value} (h:w.ownsRow base e 1 v (n+1) xs):∃g cap,v=.slice (some ⟨g,0,none⟩) (n+1) cap:=by
 rcases h.2 with ⟨_,e0⟩|⟨g,cap,cur',hv,_⟩
 ·omega
 ·exact ⟨g,cap,hv⟩
def gd (B:Nat) (w:World) (v:Value) (n:Nat) (F:Nat ->Nat ->Int):Prop:=
 ∃bo c,v=.slice (some ⟨bo,0,none⟩) n c∧bo<w.heap.size∧B <= bo∧∀a,a<n ->∃br cr,w.cell? ⟨bo,a,none⟩=some (.slice (some ⟨br,0,none⟩) n cr)∧br<w.heap.size∧B <= br∧∀c,c<n ->w.cell? ⟨br,c,none⟩=some (.int .i64 (F a c))
theorem mu.mat {W0 w:World} {bo n:Nat} {v:Value} {F:Nat ->Nat ->Int} {Bk:Nat} (h:mu W0 w bo n n v 0 F Bk) (c:Nat):gd W0.heap.size w (.slice (some ⟨bo,0,none⟩) n c) n F:=by
 obtain ⟨cur,h1,h2,h3,h4⟩:=h.cells;refine ⟨bo,c,rfl,lt_of_block h1,h.bo_new,fun a ha=>?_⟩;obtain ⟨g,c,a1,a2,a3,a4⟩:=h2 a ha;exact ⟨g,c,by simp [World.cell?,h1,a1],a3.lt,a4,fun c hc=>a3.cell hc⟩
theorem gd.below {B:Nat} {w w':World} {v:Value} {n:Nat} {F:Nat ->Nat ->Int} (h:gd B w v n F) (hb:Below w.heap.size w w'):gd B w' v n F:=by
 obtain ⟨bo,c,hv,hlt,hB,hr⟩:=h;refine ⟨bo,c,hv,Nat.lt_of_lt_of_le hlt hb.size,hB,fun a ha=>?_⟩;obtain ⟨br,cr,a1,a2,a3,a4⟩:=hr a ha;exact ⟨br,cr,(hb.cell (p:=⟨bo,a,none⟩) hlt).trans a1,Nat.lt_of_lt_of_le a2 hb.size,a3,fun c hc=>(hb.cell (p:=⟨br,c,none⟩) a2).trans (a4 c hc)⟩
theorem gd.mono {B B':Nat} {w:World} {v:Value} {n:Nat} {F:Nat ->Nat ->Int} (h:gd B w v n F) (hB:B' <= B):gd B' w v n F:=by
 obtain ⟨bo,c,hv,hlt,hB1,hr⟩:=h;exact ⟨bo,c,hv,hlt,Nat.le_trans hB hB1,fun a ha=>by
  obtain ⟨br,cr,a1,a2,a3,a4⟩:=hr a ha;exact ⟨br,cr,a1,a2,Nat.le_trans hB a3,a4⟩⟩
theorem gd.setCell {B:Nat} {w:World} {v:Value} {n:Nat} {F:Nat ->Nat ->Int} (h:gd B w v n F) {p:Addr} (hp:p.block<B) (x:Value):gd B (w.setCell p x) v n F:=by
 obtain ⟨bo,c,hv,hlt,hB,hr⟩:=h;have hc:∀b i,b≠p.block ->(w.setCell p x).cell? ⟨b,i,none⟩=w.cell? ⟨b,i,none⟩:=fun b i hb=>World.cell?_of_block (a:=⟨b,i,none⟩) (Below.heap_setCell _ _ _ _ hb);refine ⟨bo,c,hv,by simpa [World.setCell]using hlt,hB,fun a ha=>?_⟩;obtain ⟨br,cr,a1,a2,a3,a4⟩:=hr a ha;exact ⟨br,cr,(hc _ _ (by omega)).trans a1,by simpa [World.setCell]using a2,a3,fun c h'=>(hc _ _ (by omega)).trans (a4 c h')⟩
def bw (A:Nat ->Nat) (both:Nat):Nat ->Int
 |0=> -1
 |k+1=>if both.testBit k&&A k==both then (k:Int)else bw A both k
theorem ub {A:Nat ->Nat} {both k:Nat} (h1:both.testBit k=true) (h2:A k=both):bw A both (k+1)=(k:Int):=by unfold bw;simp [h1,h2]
theorem s6 {A:Nat ->Nat} {both k:Nat} (h2:A k≠both):bw A both (k+1)=bw A both k:=by
 rw [bw,if_neg (by simp [h2])]
theorem rc {A:Nat ->Nat} {both k:Nat} (h1:¬both.testBit k=true):bw A both (k+1)=bw A both k:=by
 rw [bw,if_neg (by simp [h1])]
theorem l7 (A:Nat ->Nat) (both k:Nat): -1 <= bw A both k∧bw A both k<k:=by
 induction k with
 |zero=>simp [bw]
 |succ k ih=>unfold bw;split<;>omega
theorem Tryz.infoInt:(Tryz.prog.info? 3).map (fun i=>(i.zero,i.size,i.bytes))=some (some (.int .i64 0),1,8):=by kernel_rfl
theorem Tryz.infoInts:(Tryz.prog.info? 107).map (fun i=>(i.zero,i.size,i.bytes))=some (some (.slice none 0 0),1,24):=by kernel_rfl
def vI (W0:World) (n:Nat) (F:Nat ->Nat ->Int) (e:Ending) (w':World):Prop:=
 ∃ad l c ok,e=.returned (.tuple #[.slice ad l c,.bool ok])∧Below W0.heap.size W0 w'∧
  (ok=true ->gd W0.heap.size w' (.slice ad l c) n F∧∀a b,a<n ->b<n ->0 <= F a b)∧(ok=false ->∃a b,a<n∧b<n∧F a b<0)
theorem zT {w:World} {base n g:Nat} {e:TypeId} {z:Value} (h:w.ownsRow base e 1 (.slice (some ⟨g,0,none⟩) n n) n (madeCells #[z] n).toList):
  w.heap[g]? =some (.cells (Array.replicate n z) e (0,0)):=by
 rcases h.2 with ⟨hv,_⟩|⟨g',cap,cur,hv,_,hh,_,_,hs,ht⟩
 ·cases hv
 ·simp only [Value.slice.injEq,Option.some.injEq,Addr.mk.injEq]at hv;obtain ⟨⟨rfl,_⟩,_,rfl⟩:=hv;rw [toList_madeCells_one,List.take_of_length_le (by simp [hs])]at ht;rw [hh];congr 2;apply Array.ext';simp [ht]
theorem pQ (bs cs ba ca n:Nat) (S A:Nat ->Nat) (W0:World) (hn0:0<n) (hn:n <= 64)
  (hS:∀i,i<n ->W0.cell? ⟨bs,i,none⟩=some (.int .u64 (S i))) (hA:∀i,i<n ->W0.cell? ⟨ba,i,none⟩=some (.int .u64 (A i)))
  (hbs:bs<W0.heap.size) (hba:ba<W0.heap.size) (hS64:∀i,i<n ->S i<mB):
  Calls Tryz.prog 85 #[.slice (some ⟨bs,0,none⟩) n cs,.slice (some ⟨ba,0,none⟩) n ca] W0 (vI W0 n (fun a b=>bw A (S a &&& S b) n)):=by
 obtain ⟨i0,hi,hz0,hz1,hz2⟩:=info_parts Tryz.infoInts;go_enter Tryz.func85,Tryz.ntmps85
 go_wp2_with (first
  |(at_make;refine wpList_make_full _ rfl _ _ 145 rfl W0.heap.size 107 i0 (.slice none 0 0) 1 Tryz.underlying145 hi hz0 hz1 .i64 .i64 n n n rfl rfl rfl rfl ?c1 ?c2 ?c3 ?_))
 case c1=>rw [hz2];omega
 case c2=>unfold maxLen;omega
 case c3=>exact Nat.le_refl _
 intro w1 hown hgr;have hc0:=zT hown;have hB0:Below W0.heap.size W0 w1:=(Below.refl _ _).grown hgr (Nat.le_refl _) (fun k e=>by cases e);have T0:mu W0 w1 W0.heap.size n 0 (.slice none 0 0) 0 (fun a b=>bw A (S a &&& S b) n) w1.heap.size:=mu.start hB0 (Nat.le_refl _) hc0;clear hown hgr hc0 hB0
 go_wp2
 go_loopw [17] (fun u17 wr=>∃ka:Nat,ka <= n∧u17=.int .i64 ka∧(∃Bk,mu W0 wr W0.heap.size n ka (.slice none 0 0) 0 (fun a b=>bw A (S a &&& S b) n) Bk)∧(∀a b,a<ka ->b<n ->0 <= bw A (S a &&& S b) n))
  (fun u17 _=>n - (intOf u17).toNat)
 case atStart=>exact ⟨0,Nat.zero_le _,rfl,⟨_,T0⟩,fun a b ha=>absurd ha (by omega)⟩
 case round=>
  obtain ⟨ka,hka,rfl,⟨Bk,T⟩,hpos⟩:=hrel;by_cases hlt:ka<n
  ·go_wp2
   obtain ⟨wo,rfl⟩:∃wo:World,wo=wr:=⟨_,rfl⟩
   go_loopw [22] (fun u22 wr=>∃kb:Nat,kb <= n∧u22=.int .i64 kb∧(∃v,mu W0 wr W0.heap.size n ka v kb (fun a b=>bw A (S a &&& S b) n) Bk)∧(∀b,b<kb ->0 <= bw A (S ka &&& S b) n))
    (fun u22 _=>n - (intOf u22).toNat)
   case atStart=>exact ⟨0,Nat.zero_le _,rfl,⟨_,T⟩,fun b hb=>absurd hb (by omega)⟩
   case round=>
    clear T;obtain ⟨kb,hkb,rfl,⟨v,T⟩,hpos'⟩:=hrel;by_cases hlb:kb<n
    ·have hSa:wr.cell? ⟨bs,ka,none⟩=some (.int .u64 (S ka)):=(T.below.cell (p:=⟨bs,ka,none⟩) hbs).trans (hS ka hlt);have hSb:wr.cell? ⟨bs,kb,none⟩=some (.int .u64 (S kb)):=(T.below.cell (p:=⟨bs,kb,none⟩) hbs).trans (hS kb hlb);obtain ⟨both,hboth⟩:∃both,both=S ka &&& S kb:=⟨_,rfl⟩
     have hb64:both<mB:=(by rw [hboth];exact Nat.lt_of_le_of_lt Nat.and_le_left (hS64 ka hlt));have hbit:bits BinOp.and IntKind.u64 ↑(S ka) ↑(S kb)=(both:Int):=by
      rw [hboth];have h1:=hS64 ka hlt;have h2:=hS64 kb hlb;unfold mB at h1 h2;exact bits_and_u64_nat _ _ h1 h2
     have HB:=Lib.hid hboth;clear hboth
     go_wp2
     go_quiet (fail)
     clear hbit
     go_wp2
     go_loop [10,36] (fun u10 u36=>∃k:Nat,k <= n∧u36=.int .i64 k∧u10=.int .i64 (bw A both k)) (fun _ u36=>n - (intOf u36).toNat)
     case atStart=>exact ⟨0,Nat.zero_le _,rfl,rfl⟩
     case round=>
      obtain ⟨k,hk,rfl,rfl⟩:=hrel;have hbd:=l7 A both k;by_cases hlk:k<n
      ·have hAk:wr.cell? ⟨ba,k,none⟩=some (.int .u64 (A k)):=(T.below.cell (p:=⟨ba,k,none⟩) hba).trans (hA k hlk);by_cases h1:both.testBit k
       ·have h1':0<bits BinOp.and IntKind.u64 ((both:Int) / 2 ^ k) 1:=(by have:=m8 both k hb64;rw [h1]at this;simpa using this);by_cases h2:A k=both
        ·have h2':((A k:Int)==(both:Int))=true:=(by simp [h2]);have HF:=Lib.hid (ub h1 h2);clear h1 h2
         go_wp2
         go_round;case rel=>exact ⟨k+1,by omega,by go_num,by rw [HF.out]⟩
         case measure=>simp [intOf];omega
        ·have h2':((A k:Int)==(both:Int))=false:=(by simp;omega);have HF:=Lib.hid (s6 h2);clear h1 h2
         go_wp2
         go_round;case rel=>exact ⟨k+1,by omega,by go_num,by rw [HF.out]⟩
         case measure=>simp [intOf];omega
       ·have h1':¬0<bits BinOp.and IntKind.u64 ((both:Int) / 2 ^ k) 1:=(by have:=m8 both k hb64;simp only [Bool.not_eq_true]at h1;rw [h1]at this;simpa using this);have HF:=Lib.hid (rc (A:=A) h1);clear h1
        go_wp2
        go_round;case rel=>exact ⟨k+1,by omega,by go_num,by rw [HF.out]⟩
        case measure=>simp [intOf];omega
      ·obtain rfl:n=k:=(by omega);have HB':=Lib.hid (show bw A (S ka &&& S kb) n=bw A both n from by rw [HB.out]);by_cases hneg:bw A both n<0
       ·go_wp2
        go_ret2
        exact ⟨_,_,_,false,rfl,(T.drewN nq).below,fun h=>by (cases h),fun _=>⟨ka,kb,hlt,hlb,by show bw A (S ka &&& S kb) n<0;rw [HB'.out];exact hneg⟩⟩
       ·obtain ⟨hv1,hv2⟩:=T.cellAt hlt;obtain ⟨j0,hj,hy0,hy1,hy2⟩:=info_parts Tryz.infoInt;have T1:=(T.drewN nq).alloc (.cells #[.int .i64 (bw A both n)] 3)
        go_wp2_with (first
         |(at_builtin;refine wpList_append_own _ rfl _ _ 107 rfl Bk 3 j0 (.int .i64 0) 1 8 Tryz.underlying107 hj hy0 hy1 hy2 rfl (by decide) _ _ _ rfl T1.own ⟨wr.heap.size,0,none⟩ 1 1 [.int .i64 (bw A both n)] rfl rfl ?c1 ?c2 ?c3 ?c4 ?c5 ?_))
        case c1=>exact B8 (wr.drewN nq) _ _ _ rfl
        case c2=>first|rfl|(intro u hu;simp at hu;subst hu;rfl)
        case c3=>unfold maxLen;omega
        case c4=>omega
        case c5=>have:=T1.bk_le;simpa using this
        intro v' w2 hown' hgrow _;obtain ⟨g,cap,rfl⟩:=Ca hown';obtain ⟨hk1,hk2⟩:=T1.kept hlt hgrow;have T2:=T1.push (v':=.slice (some ⟨g,0,none⟩) (kb+1) cap) hlt (by show World.ownsRow _ _ _ _ _ _ (_++[Value.int .i64 (bw A (S ka &&& S kb) n)]);rw [HB'.out];exact hown') hgrow;clear hown' hgrow
        go_wp2
        go_roundw;case rel=>exact ⟨kb+1,by omega,by go_num,⟨_,T2⟩,fun b hb=>by
         by_cases e:b=kb
         ·subst e;rw [HB'.out];exact hneg
         ·exact hpos' b (by omega)⟩
        case measure=>simp [intOf];omega
    ·obtain rfl:kb=n:=by omega
     go_wp2
     go_roundw;case rel=>exact ⟨ka+1,by omega,by go_num,⟨_,T.next hlt⟩,fun a b ha hb=>by
      by_cases e:a=ka
      ·subst e;exact hpos' b hb
      ·exact hpos a b (by omega) hb⟩
     case measure=>simp [intOf];omega
  ·obtain rfl:ka=n:=by omega
   go_wp2
   go_ret2
   exact ⟨_,_,_,true,rfl,T.below,fun _=>⟨T.mat _,hpos⟩,fun h=>by cases h⟩
end Go.Proofs.YtcannffahjbjnaaGreatDoor
namespace Go.Proofs.YtcannffahjbjnaaGreatDoor
def lz (n k:Nat):List Nat:=(List.range n).map fun i=>if i<k then p2 i else 0
def tk (U:List Nat) (i x:Nat):List Nat:=U.set i (U.getD i 0 ||| x)
def jq (n:Nat) (P:Nat ->Int×Int):Nat ->List Nat
 |0=>lz n n
 |k+1=>tk (jq n P k) (P k).1.toNat (p2 (P k).2.toNat)
def jd (k i:Nat) (V:List Nat):List Nat:=if (V.getD i 0).testBit k then tk V i (V.getD k 0)else V
def mT (k:Nat) (U:List Nat):Nat ->List Nat
 |0=>U
 |i+1=>jd k i (mT k U i)
def ff (n:Nat) (U:List Nat):Nat ->List Nat
 |0=>U
 |k+1=>mT k (ff n U k) n
def i8 (U:List Nat) (a b:Nat) (D:List Nat):List Nat:=if (U.getD a 0).testBit b then tk D b (p2 a)else D
def j5 (U:List Nat) (a:Nat) (D:List Nat):Nat ->List Nat
 |0=>D
 |b+1=>i8 U a b (j5 U a D b)
def gR (n:Nat) (U:List Nat):Nat ->List Nat
 |0=>List.replicate n 0
 |a+1=>j5 U a (gR n U a) n
def CX (U:List Nat) (a b:Nat):Prop:=(U.getD a 0).testBit b=true∧a≠b∧(U.getD b 0).testBit a=true
def dD (n:Nat) (U:List Nat):Prop:=U.length=n∧∀i,i<n ->U.getD i 0<mB
theorem fK {n:Nat} {U:List Nat} (h:dD n U) (i x:Nat) (hx:x<mB):dD n (tk U i x):=by
 refine ⟨by simp [tk,h.1],fun j hj=>?_⟩;unfold tk;rw [List.getD_eq_getElem?_getD,List.getElem?_set];split
 ·rename_i e;subst e;rw [if_pos (by rw [h.1];exact hj)];have h1:=h.2 i hj;rw [yF]at*;exact Nat.or_lt_two_pow h1 hx
 ·rw [<- List.getD_eq_getElem?_getD];exact h.2 j hj
theorem mi {i:Nat} (hi:i<64):p2 i<mB:=sf hi
theorem dF {n:Nat} {U:List Nat} (h:dD n U) (i:Nat):U.getD i 0<mB:=by
 by_cases hi:i<n
 ·exact h.2 i hi
 ·rw [List.getD_eq_getElem?_getD,List.getElem?_eq_none (by rw [h.1];omega)];simp [mB]
theorem qD (n k:Nat) (hn:n <= 64):dD n (lz n k):=by
 refine ⟨by simp [lz],fun i hi=>?_⟩;unfold lz;rw [List.getD_eq_getElem?_getD,List.getElem?_map,List.getElem?_range hi];simp only [Option.map_some,Option.getD_some];split
 ·exact mi (by omega)
 ·simp [mB]
theorem tw {n:Nat} {U:List Nat} (h:dD n U) (k i:Nat):dD n (jd k i U):=by
 unfold jd;split
 ·exact fK h _ _ (dF h k)
 ·exact h
theorem qE {n:Nat} {U:List Nat} (h:dD n U) (k i:Nat):dD n (mT k U i):=by
 induction i with
 |zero=>exact h
 |succ i ih=>exact tw ih k i
theorem fU {n:Nat} {U:List Nat} (h:dD n U) (k:Nat):dD n (ff n U k):=by
 induction k with
 |zero=>exact h
 |succ k ih=>exact qE ih k n
theorem mm {n:Nat} {P:Nat ->Int×Int} (hn:n <= 64) (m k:Nat) (hk:k <= m) (hin:∀i,i<m ->0 <= (P i).1∧(P i).1<n∧0 <= (P i).2∧(P i).2<n):dD n (jq n P k):=by
 induction k with
 |zero=>exact qD n n hn
 |succ k ih=>
  have:=hin k (by omega);exact fK (ih (by omega)) _ _ (mi (by omega))
theorem mn (n:Nat):dD n (List.replicate n 0):=by
 refine ⟨by simp,fun i hi=>?_⟩;simp [List.getD_eq_getElem?_getD,hi,mB]
theorem tu {n:Nat} {U D:List Nat} (h:dD n D) {a:Nat} (ha:a<64) (b:Nat):dD n (i8 U a b D):=by
 unfold i8;split
 ·exact fK h _ _ (mi ha)
 ·exact h
theorem oX {n:Nat} {U D:List Nat} (h:dD n D) {a:Nat} (ha:a<64) (b:Nat):dD n (j5 U a D b):=by
 induction b with
 |zero=>exact h
 |succ b ih=>exact tu ih ha b
theorem vn {n:Nat} {U:List Nat} (hn:n <= 64) {a:Nat} (ha:a <= n):dD n (gR n U a):=by
 induction a with
 |zero=>exact mn n
 |succ a ih=>exact oX (ih (by omega)) (by omega) n
theorem rL (n:Nat):lz n 0=List.replicate n 0:=by
 unfold lz;apply List.ext_getElem<;>simp
theorem rK (n k:Nat) (_hk:k<n):(lz n k).set k (p2 k)=lz n (k+1):=by
 unfold lz;apply List.ext_getElem
 ·simp
 ·intro i h1 h2;simp only [List.length_set,List.length_map,List.length_range]at h1;simp only [List.getElem_set,List.getElem_map,List.getElem_range];by_cases e:k=i
  ·subst e;simp
  ·rw [if_neg e];have:(i<k)↔(i<k+1):=(by omega);simp [this]
end Go.Proofs.YtcannffahjbjnaaGreatDoor
namespace Go.Proofs.YtcannffahjbjnaaGreatDoor
open Go.RowKit
def gM (U:List Nat):Array Value:=(U.map fun (x:Nat)=>Value.int .u64 (x:Int)).toArray
structure cA (W0 w:World) (bl bu bd n:Nat) (vj vm:Value) (U D:List Nat):Prop where
 below:Below W0.heap.size W0 w
 nl:W0.heap.size <= bl
 nu:W0.heap.size <= bu
 nd:W0.heap.size <= bd
 hl:w.heap[bl]? =some (.cells #[.slice (some ⟨bu,0,none⟩) n n,.slice (some ⟨bd,0,none⟩) n n,vj,vm] 147 (0,0))
 hu:w.heap[bu]? =some (.cells (gM U) 148 (0,0))
 hd:w.heap[bd]? =some (.cells (gM D) 148 (0,0))
 hne:bu≠bd
 sU:dD n U
 sD:dD n D
section
variable {W0 w w':World} {bl bu bd n:Nat} {vj vm:Value} {U D:List Nat}
theorem cA.cell0 (h:cA W0 w bl bu bd n vj vm U D):w.cell? ⟨bl,0,none⟩=some (.slice (some ⟨bu,0,none⟩) n n):=by simp [World.cell?,h.hl]
theorem cA.cell1 (h:cA W0 w bl bu bd n vj vm U D):w.cell? ⟨bl,1,none⟩=some (.slice (some ⟨bd,0,none⟩) n n):=by simp [World.cell?,h.hl]
theorem cA.cell2 (h:cA W0 w bl bu bd n vj vm U D):w.cell? ⟨bl,2,none⟩=some vj:=by simp [World.cell?,h.hl]
theorem cA.cell3 (h:cA W0 w bl bu bd n vj vm U D):w.cell? ⟨bl,3,none⟩=some vm:=by simp [World.cell?,h.hl]
theorem cA.free (h:cA W0 w bl bu bd n vj vm U D) (i:Nat):w.frozen? ⟨bl,i,none⟩=false:=by simp [World.frozen?,h.hl]
theorem vE {U:List Nat} (i:Nat) (hi:i<U.length):(gM U)[i]? =some (.int .u64 (U.getD i 0:Nat)):=by
 simp [gM,List.getD_eq_getElem?_getD,hi]
theorem cA.uAt (h:cA W0 w bl bu bd n vj vm U D) {i:Nat} (hi:i<n):w.cell? ⟨bu,i,none⟩=some (.int .u64 (U.getD i 0:Nat)):=by
 simp only [World.cell?,h.hu];exact vE i (by rw [h.sU.1];exact hi)
theorem cA.dAt (h:cA W0 w bl bu bd n vj vm U D) {i:Nat} (hi:i<n):w.cell? ⟨bd,i,none⟩=some (.int .u64 (D.getD i 0:Nat)):=by
 simp only [World.cell?,h.hd];exact vE i (by rw [h.sD.1];exact hi)
theorem cA.uFree (h:cA W0 w bl bu bd n vj vm U D) (i:Nat):w.frozen? ⟨bu,i,none⟩=false:=by simp [World.frozen?,h.hu]
theorem cA.dFree (h:cA W0 w bl bu bd n vj vm U D) (i:Nat):w.frozen? ⟨bd,i,none⟩=false:=by simp [World.frozen?,h.hd]
theorem cA.of_below (h:cA W0 w bl bu bd n vj vm U D) (hb:Below w.heap.size w w'):cA W0 w' bl bu bd n vj vm U D:=
 ⟨h.below.trans (hb.mono h.below.size),h.nl,h.nu,h.nd,(hb.block _ (lt_of_block h.hl)).trans h.hl,(hb.block _ (lt_of_block h.hu)).trans h.hu,(hb.block _ (lt_of_block h.hd)).trans h.hd,h.hne,h.sU,h.sD⟩
theorem cA.drewN (h:cA W0 w bl bu bd n vj vm U D) (m:Nat):cA W0 (w.drewN m) bl bu bd n vj vm U D:=h.of_below ⟨rfl,rfl,rfl,Nat.le_refl _,fun _ _=>rfl⟩
theorem cA.drew (h:cA W0 w bl bu bd n vj vm U D):cA W0 w.drew bl bu bd n vj vm U D:=h.of_below ⟨rfl,rfl,rfl,Nat.le_refl _,fun _ _=>rfl⟩
theorem cA.alloc (h:cA W0 w bl bu bd n vj vm U D) (o:Obj):cA W0 (w.alloc o) bl bu bd n vj vm U D:=h.of_below ((Below.refl _ _).alloc (Nat.le_refl _) o)
theorem sJ (U:List Nat) (i x:Nat):gM (U.set i x)=(gM U).setIfInBounds i (.int .u64 (x:Int)):=by
 apply Array.ext';simp [gM,List.map_set]
theorem cA.setU (h:cA W0 w bl bu bd n vj vm U D) (i x:Nat) (hs:dD n (U.set i x)):cA W0 (w.setCell ⟨bu,i,none⟩ (.int .u64 (x:Int))) bl bu bd n vj vm (U.set i x) D:=by
 have h1:bl≠bu:=(by rintro rfl;have:=h.hl.symm.trans h.hu;simp at this);refine ⟨h.below.setCell h.nu _,h.nl,h.nu,h.nd,(Below.heap_setCell _ _ _ _ h1).trans h.hl,?_,(Below.heap_setCell _ _ _ _ (fun e=>h.hne e.symm)).trans h.hd,h.hne,hs,h.sD⟩;rw [sJ];simp [World.setCell,Array.getElem?_modify,h.hu]
theorem cA.setD (h:cA W0 w bl bu bd n vj vm U D) (i x:Nat) (hs:dD n (D.set i x)):cA W0 (w.setCell ⟨bd,i,none⟩ (.int .u64 (x:Int))) bl bu bd n vj vm U (D.set i x):=by
 have h1:bl≠bd:=(by rintro rfl;have:=h.hl.symm.trans h.hd;simp at this);refine ⟨h.below.setCell h.nd _,h.nl,h.nu,h.nd,(Below.heap_setCell _ _ _ _ h1).trans h.hl,(Below.heap_setCell _ _ _ _ h.hne).trans h.hu,?_,h.hne,h.sU,hs⟩;rw [sJ];simp [World.setCell,Array.getElem?_modify,h.hd]
theorem cA.setJ (h:cA W0 w bl bu bd n vj vm U D) (x:Value):cA W0 (w.setCell ⟨bl,2,none⟩ x) bl bu bd n x vm U D:=by
 have h1:bu≠bl:=(by rintro rfl;have:=h.hl.symm.trans h.hu;simp at this);have h2:bd≠bl:=(by rintro rfl;have:=h.hl.symm.trans h.hd;simp at this);refine ⟨h.below.setCell h.nl _,h.nl,h.nu,h.nd,?_,(Below.heap_setCell _ _ _ _ h1).trans h.hu,(Below.heap_setCell _ _ _ _ h2).trans h.hd,h.hne,h.sU,h.sD⟩;simp [World.setCell,Array.getElem?_modify,h.hl]
theorem cA.setM (h:cA W0 w bl bu bd n vj vm U D) (x:Value):cA W0 (w.setCell ⟨bl,3,none⟩ x) bl bu bd n vj x U D:=by
 have h1:bu≠bl:=(by rintro rfl;have:=h.hl.symm.trans h.hu;simp at this);have h2:bd≠bl:=(by rintro rfl;have:=h.hl.symm.trans h.hd;simp at this);refine ⟨h.below.setCell h.nl _,h.nl,h.nu,h.nd,?_,(Below.heap_setCell _ _ _ _ h1).trans h.hu,(Below.heap_setCell _ _ _ _ h2).trans h.hd,h.hne,h.sU,h.sD⟩;simp [World.setCell,Array.getElem?_modify,h.hl]
end
def tG (n:Nat):Array Value:=Array.replicate n (.int .u64 0)
theorem AE (n:Nat):madeCells #[Value.int .u64 0] n=tG n:=by
 apply Array.ext';rw [toList_madeCells_one];simp [tG]
theorem qU (n:Nat):tG n=gM (List.replicate n 0):=by
 apply Array.ext';simp [tG,gM]
theorem cA.start {W0 w w':World} {n bl bu bd:Nat} (hb:Below W0.heap.size W0 w) (hb':Below w.heap.size w w') (h1:w.heap.size <= bl) (h2:w.heap.size <= bu) (h3:w.heap.size <= bd) (hne:bu≠bd)
  (hl:w'.heap[bl]? =some (.cells #[.slice (some ⟨bu,0,none⟩) n n,.slice (some ⟨bd,0,none⟩) n n,.slice none 0 0,.slice none 0 0] 147 (0,0)))
  (hu:w'.heap[bu]? =some (.cells (tG n) 148 (0,0))) (hd:w'.heap[bd]? =some (.cells (tG n) 148 (0,0))):
  cA W0 w' bl bu bd n (.slice none 0 0) (.slice none 0 0) (lz n 0) (List.replicate n 0):=
 ⟨hb.trans (hb'.mono hb.size),Nat.le_trans hb.size h1,Nat.le_trans hb.size h2,Nat.le_trans hb.size h3,hl,by rw [rL,<- qU];exact hu,by rw [<- qU];exact hd,hne,
  by rw [rL];exact mn n,mn n⟩
theorem cA.made {W0 w:World} {n bu bd:Nat} (hB:Below W0.heap.size W0 w) (h:(bu=w.heap.size∧bd=w.heap.size+1)∨(bu=w.heap.size+1∧bd=w.heap.size)):
  cA W0 (((w.alloc (.cells (tG n) 148)).alloc (.cells (tG n) 148)).alloc
   (.cells #[.slice (some ⟨bu,0,none⟩) n n,.slice (some ⟨bd,0,none⟩) n n,.slice none 0 0,.slice none 0 0] 147)).drew (w.heap.size+1+1) bu bd n (.slice none 0 0) (.slice none 0 0) (lz n 0) (List.replicate n 0):=by
 have a0:∀o o' o'',(((w.alloc o).alloc o').alloc o'').heap[w.heap.size]? =some o:=fun o o' o''=>by
  rw [Below.heap_alloc _ _ _ (by simp;omega)];exact heap_alloc2_old _ _ _
 have a1:∀o o' o'',(((w.alloc o).alloc o').alloc o'').heap[w.heap.size+1]? =some o':=fun o o' o''=>by
  rw [Below.heap_alloc _ _ _ (by simp)];exact heap_alloc2_new _ _ _
 have a2:∀o o' o'',(((w.alloc o).alloc o').alloc o'').heap[w.heap.size+1+1]? =some o'':=fun o o' o''=>by
  have:=heap_alloc2_new (w.alloc o) o' o'';simpa using this
 have hb:∀o o' o'',Below w.heap.size w (((w.alloc o).alloc o').alloc o'').drew:=fun o o' o''=>
  ((((Below.refl _ _).alloc (Nat.le_refl _) _).alloc (by simp) _).alloc (by simp;omega) _).drew
 rcases h with ⟨rfl,rfl⟩|⟨rfl,rfl⟩
 ·exact cA.start hB (hb _ _ _) (by omega) (by omega) (by omega) (by omega) (a2 _ _ _) (a0 _ _ _) (a1 _ _ _)
 ·exact cA.start hB (hb _ _ _) (by omega) (by omega) (by omega) (by omega) (a2 _ _ _) (a1 _ _ _) (a0 _ _ _)
theorem Tryz.infoU64:(Tryz.prog.info? 148).map (fun i=>(i.zero,i.size,i.bytes))=some (some (.int .u64 0),1,8):=by kernel_rfl
theorem Ac (n:Nat) (hn:n <= 64) (w:World):(Instr.makeSlice 144 (.int .i64 n) (.int .i64 n)).run Tryz.prog w=.ok (.slice (some ⟨w.heap.size,0,none⟩) n n) (w.alloc (.cells (tG n) 148)):=by
 obtain ⟨i0,hi,hz0,hz1,hz2⟩:=info_parts Tryz.infoU64;have:=run_make (P:=Tryz.prog) w 144 148 i0 (.int .u64 0) Tryz.underlying144 hi hz0 .i64 .i64 n n (by omega) (by omega) (by rw [hz2];omega) (by omega);rw [hz1,Nat.mul_one]at this;simp only [Int.toNat_natCast,Value.cells]at this;rw [AE]at this;exact this
def bK (n:Nat) (U:List Nat) (a b:Nat):Int:=bw (fun c=>U.getD c 0) (U.getD a 0 &&& U.getD b 0) n
structure gy (B:Nat) (w:World) (b n:Nat) (U D:List Nat):Prop where
 lt:b<w.heap.size
 ge:B <= b
 up:∃bu,w.cell? ⟨b,0,none⟩=some (.slice (some ⟨bu,0,none⟩) n n)∧bu<w.heap.size∧∀i,i<n ->w.cell? ⟨bu,i,none⟩=some (.int .u64 (U.getD i 0:Nat))
 join:∃v,w.cell? ⟨b,2,none⟩=some v∧gd B w v n (bK n U)
 meet:∃v,w.cell? ⟨b,3,none⟩=some v∧gd B w v n (bK n D)
 small:dD n U
def C4 (W0:World) (n:Nat) (U D:List Nat) (e:Ending) (w':World):Prop:=
 ∃p c,e=.returned (.tuple #[.pointer p,.int .i64 c])∧Below W0.heap.size W0 w'∧
  ((c=0∧∃b,p=some ⟨b,0,none⟩∧gy W0.heap.size w' b n U D∧∀x y,x<n ->y<n ->¬CX U x y∧0 <= bK n U x y∧0 <= bK n D x y)∨
  (c=1∧p=none∧∃x y,x<n∧y<n∧(CX U x y∨bK n U x y<0∨bK n D x y<0)))
def gq (n m:Nat) (P:Nat ->Int×Int):List Nat:=ff n (jq n P m) n
def eX (n m:Nat) (P:Nat ->Int×Int):List Nat:=gR n (gq n m P) n
set_option maxRecDepth 100000 in
theorem DD (ao:Option Addr) (bp off m cp n:Nat) (P:Nat ->Int×Int) (W0:World) (hn0:0<n) (hn:n <= 64) (hm:m <= 1000)
  (hP:∀i,i<m ->W0.cell? ⟨bp,off+i*2,none⟩=some (.int .i64 (P i).1)∧W0.cell? ⟨bp,off+i*2+1,none⟩=some (.int .i64 (P i).2))
  (hao:0<m ->ao=some ⟨bp,off,none⟩) (hbp0:0<m ->bp<W0.heap.size) (hin:∀i,i<m ->0 <= (P i).1∧(P i).1<n∧0 <= (P i).2∧(P i).2<n):
  Calls Tryz.prog 44 #[.int .i64 n,.slice ao m cp] W0 (C4 W0 n (gq n m P) (eX n m P)):=by
 have hmk:=Ac n hn;have HA:=Lib.hid hao;have HB:=Lib.hid hbp0;clear hao hbp0;have hn1:(1:Int) <= n:=(by omega);have hn2:(n:Int) <= 64:=(by omega);go_enter Tryz.func44,Tryz.ntmps44
 go_upto_block 0 with (fail)
 go_cut [] (fun w=>Below W0.heap.size W0 w)
 case first=>
  clear hmk
  go_wp2
  go_loopw [25] (fun u25 wr=>∃k:Nat,k <= m∧u25=.int .i64 k∧Below W0.heap.size W0 wr) (fun u25 _=>m - (intOf u25).toNat)
  case atStart=>exact ⟨0,Nat.zero_le _,rfl,Below.refl _ _⟩
  case round=>
   obtain ⟨k,hk,rfl,hB⟩:=hrel;by_cases hlt:k<m
   ·obtain rfl:ao=some ⟨bp,off,none⟩:=HA.out (by omega);have hbp:=HB.out (by omega);obtain ⟨h0,h1⟩:=hP k hlt;obtain ⟨i0,i1,i2,i3⟩:=hin k hlt;have h0':=(hB.cell (p:=⟨bp,off+k*2,none⟩) hbp).trans h0;have h1':=(hB.cell (p:=⟨bp,off+k*2+1,none⟩) hbp).trans h1;clear h0 h1 hP hin
    go_wp2
    all_goals
     go_roundw;case rel=>exact ⟨k+1,by omega,by go_num,hB.alloc hB.size _⟩
     case measure=>simp [intOf];omega
   ·obtain rfl:m=k:=by omega
    go_wp2
    go_meet
    case rel=>exact hB
 case rest=>
  have hBA:=hcut;clear hcut
  go_wp2
  go_cut [8] (fun u8 w=>∃bl bu bd,u8=.pointer (some ⟨bl,0,none⟩)∧cA W0 w bl bu bd n (.slice none 0 0) (.slice none 0 0) (lz n 0) (List.replicate n 0))
  case first=>
   go_region
   all_goals
    go_wp2
    go_meet
    case rel=>first|exact ⟨_,_,_,rfl,cA.made hBA (.inl ⟨rfl,rfl⟩)⟩|exact ⟨_,_,_,rfl,cA.made hBA (.inr ⟨rfl,rfl⟩)⟩
  case rest=>
   obtain ⟨bl,bu,bd,rfl,hS⟩:=hcut;clear hmk hBA
   go_upto_block 2 with (fail)
   go_cut [] (fun w=>cA W0 w bl bu bd n (.slice none 0 0) (.slice none 0 0) (lz n n) (List.replicate n 0))
   case first=>
    clear hP hin
    go_wp2
    go_loopw [52] (fun u52 wr=>∃k:Nat,k <= n∧u52=.int .i64 k∧cA W0 wr bl bu bd n (.slice none 0 0) (.slice none 0 0) (lz n k) (List.replicate n 0)) (fun u52 _=>n - (intOf u52).toNat)
    case atStart=>exact ⟨0,Nat.zero_le _,rfl,hS⟩
    case round=>
     clear hS;obtain ⟨k,hk,rfl,hS⟩:=hrel;by_cases hlt:k<n
     ·have hw:=tE k (by omega);have f0:=hS.cell0;have f1:=hS.uAt hlt;have f2:=hS.uFree k
      go_wp2
      go_region
      go_wp2
      go_roundw
      case rel=>
       have:=(hS.setU k (p2 k) (by rw [rK n k hlt];exact qD _ _ hn)).drew;rw [rK n k hlt]at this;exact ⟨k+1,by omega,by go_num,this⟩
      case measure=>simp [intOf];omega
     ·obtain rfl:n=k:=by omega
      go_wp2
      go_meet
      case rel=>exact hS
   case rest=>
    clear hS;have hS:=hcut;clear hcut
    go_upto_block 4 with (fail)
    go_cut [] (fun w=>cA W0 w bl bu bd n (.slice none 0 0) (.slice none 0 0) (jq n P m) (List.replicate n 0))
    case first=>
     go_wp2
     go_loopw [66] (fun u66 wr=>∃k:Nat,k <= m∧u66=.int .i64 k∧cA W0 wr bl bu bd n (.slice none 0 0) (.slice none 0 0) (jq n P k) (List.replicate n 0)) (fun u66 _=>m - (intOf u66).toNat)
     case atStart=>exact ⟨0,Nat.zero_le _,rfl,hS⟩
     case round=>
      clear hS;obtain ⟨k,hk,rfl,hS⟩:=hrel;by_cases hlt:k<m
      ·obtain rfl:ao=some ⟨bp,off,none⟩:=HA.out (by omega);have hbp:=HB.out (by omega);obtain ⟨h0,h1⟩:=hP k hlt;obtain ⟨i0,i1,i2,i3⟩:=hin k hlt;have h0':=(hS.below.cell (p:=⟨bp,off+k*2,none⟩) hbp).trans h0;have h1':=(hS.below.cell (p:=⟨bp,off+k*2+1,none⟩) hbp).trans h1;have hw:=tE (P k).2.toNat (by omega);have hS1:=hS.alloc (.cells #[.int .i64 (P k).1,.int .i64 (P k).2] 93);have f0:=hS1.cell0;have f1:=hS1.uAt (i:=(P k).1.toNat) (by omega);have f2:=hS1.uFree (P k).1.toNat;have hsm:=hS.sU;have hT:=fK hsm (P k).1.toNat (p2 (P k).2.toNat) (sf (by omega));obtain ⟨x,hx⟩:∃x,x=(jq n P k).getD (P k).1.toNat 0:=⟨_,rfl⟩
       rw [<- hx]at f1;have hor:=xc x (p2 (P k).2.toNat) (by rw [hx];exact dF hsm _) (sf (by omega));have HX:=Lib.hid hx;have Q0:=Lib.hid hP;have Q1:=Lib.hid hin;clear h0 h1 hP hin hx;have hz:=hS.below.size
       go_wp2
       go_region
       go_wp2
       go_roundw
       case rel=>
        have:=(hS1.setU (P k).1.toNat (x ||| p2 (P k).2.toNat) (by rw [HX.out];exact hT)).drew;have e:(jq n P k).set (P k).1.toNat (x ||| p2 (P k).2.toNat)=jq n P (k+1):=(by rw [HX.out];rfl);rw [e]at this;exact ⟨k+1,by omega,by go_num,this⟩
       case measure=>simp [intOf];omega
      ·obtain rfl:m=k:=by omega
       go_wp2
       go_meet
       case rel=>exact hS
    case rest=>
     clear hS;have hS:=hcut;clear hcut hP hin
     go_upto_block 6 with (fail)
     go_cut [] (fun w=>cA W0 w bl bu bd n (.slice none 0 0) (.slice none 0 0) (gq n m P) (List.replicate n 0))
     case first=>
      go_wp2
      go_loopw [85] (fun u85 wr=>∃k:Nat,k <= n∧u85=.int .i64 k∧cA W0 wr bl bu bd n (.slice none 0 0) (.slice none 0 0) (ff n (jq n P m) k) (List.replicate n 0)) (fun u85 _=>n - (intOf u85).toNat)
      case atStart=>exact ⟨0,Nat.zero_le _,rfl,hS⟩
      case round=>
       clear hS;obtain ⟨k,hk,rfl,hS⟩:=hrel;by_cases hlt:k<n
       ·go_wp2
        obtain ⟨wo,rfl⟩:∃wo:World,wo=wr:=⟨_,rfl⟩
        go_loopw [89] (fun u89 wr=>∃i:Nat,i <= n∧u89=.int .i64 i∧cA W0 wr bl bu bd n (.slice none 0 0) (.slice none 0 0) (mT k (ff n (jq n P m) k) i) (List.replicate n 0)) (fun u89 _=>n - (intOf u89).toNat)
        case atStart=>exact ⟨0,Nat.zero_le _,rfl,hS⟩
        case round=>
         clear hS;obtain ⟨i,hi,rfl,hS⟩:=hrel;by_cases hli:i<n
         ·have f0:=hS.cell0;have f1:=hS.uAt hli;have f1':=hS.uAt hlt;have f2:=hS.uFree i;have hsm:=hS.sU;obtain ⟨V,hV⟩:∃V,V=mT k (ff n (jq n P m) k) i:=⟨_,rfl⟩
          rw [<- hV]at f1 f1' hsm hS;obtain ⟨x,hx⟩:∃x,x=V.getD i 0:=⟨_,rfl⟩
          obtain ⟨y,hy⟩:∃y,y=V.getD k 0:=⟨_,rfl⟩
          rw [<- hx]at f1;rw [<- hy]at f1';have hx64:x<mB:=(by rw [hx];exact dF hsm _);have hy64:y<mB:=(by rw [hy];exact dF hsm _);have hor:=xc x y hx64 hy64;have hT:=fK hsm i y hy64;have HV:=Lib.hid hV;have HX:=Lib.hid hx;have HY:=Lib.hid hy;clear hV hx hy;by_cases hbit:x.testBit k=true
          ·have HE:=Lib.hid (show V.set i (x ||| y)=mT k (ff n (jq n P m) k) (i+1)from by
            show _=jd k i _;rw [<- HV.out];unfold jd;rw [<- HX.out,if_pos hbit,HX.out,<- HY.out];rfl)
           have hb:=Bu x k hx64 hbit;clear hbit
           go_wp2
           go_region
           go_wp2
           go_roundw
           case rel=>
            have:=(hS.setU i (x ||| y) (by rw [HX.out];exact hT)).drew;rw [HE.out]at this;exact ⟨i+1,by omega,by go_num,this⟩
           case measure=>simp [intOf];omega
          ·have HE:=Lib.hid (show V=mT k (ff n (jq n P m) k) (i+1)from by
            show _=jd k i _;rw [<- HV.out];unfold jd;rw [<- HX.out,if_neg hbit])
           have hb:=qr x k hx64 (by simpa using hbit);clear hbit
           go_wp2
           go_roundw
           case rel=>
            rw [HE.out]at hS;exact ⟨i+1,by omega,by go_num,hS⟩
           case measure=>simp [intOf];omega
         ·obtain rfl:n=i:=by omega
          go_wp2
          go_roundw;case rel=>exact ⟨k+1,by omega,by go_num,hS⟩
          case measure=>simp [intOf];omega
       ·obtain rfl:n=k:=by omega
        go_wp2
        go_meet
        case rel=>exact hS
     case rest=>
      clear hS;have hS:=hcut;clear hcut
      go_upto_block 10 with (fail)
      obtain ⟨U,hU⟩:∃U,U=gq n m P:=⟨_,rfl⟩
      rw [<- hU]at hS;have HD:=Lib.hid (show eX n m P=gR n U n from by rw [hU];rfl);have HU:=Lib.hid hU;clear hU;have hsm:=hS.sU;go_cut [] (fun w=>cA W0 w bl bu bd n (.slice none 0 0) (.slice none 0 0) U (gR n U n)∧∀x y,x<n ->y<n ->¬CX U x y)
      case first=>
       go_wp2
       go_loopw [122] (fun u122 wr=>∃a:Nat,a <= n∧u122=.int .i64 a∧cA W0 wr bl bu bd n (.slice none 0 0) (.slice none 0 0) U (gR n U a)∧∀x y,x<a ->y<n ->¬CX U x y) (fun u122 _=>n - (intOf u122).toNat)
       case atStart=>exact ⟨0,Nat.zero_le _,rfl,hS,fun x y hx=>absurd hx (by omega)⟩
       case round=>
        clear hS;obtain ⟨a,ha,rfl,hS,hno⟩:=hrel;have HN:=Lib.hid hno;clear hno;by_cases hlt:a<n
        ·go_wp2
         obtain ⟨wo,rfl⟩:∃wo:World,wo=wr:=⟨_,rfl⟩
         go_loopw [126] (fun u126 wr=>∃b:Nat,b <= n∧u126=.int .i64 b∧cA W0 wr bl bu bd n (.slice none 0 0) (.slice none 0 0) U (j5 U a (gR n U a) b)∧∀y,y<b ->¬CX U a y) (fun u126 _=>n - (intOf u126).toNat)
         case atStart=>exact ⟨0,Nat.zero_le _,rfl,hS,fun y hy=>absurd hy (by omega)⟩
         case round=>
          clear hS;obtain ⟨b,hb,rfl,hS,hno⟩:=hrel;have HM:=Lib.hid hno;clear hno;by_cases hlb:b<n
          ·have f0:=hS.cell0;have f1:=hS.uAt hlt;have f1':=hS.uAt hlb;have g0:=hS.cell1;have g1:=hS.dAt hlb;have g2:=hS.dFree b;have hsD:=hS.sD;obtain ⟨V,hV⟩:∃V,V=j5 U a (gR n U a) b:=⟨_,rfl⟩
           rw [<- hV]at g1 hsD hS;obtain ⟨x,hx⟩:∃x,x=U.getD a 0:=⟨_,rfl⟩
           obtain ⟨y,hy⟩:∃y,y=U.getD b 0:=⟨_,rfl⟩
           obtain ⟨z,hz⟩:∃z,z=V.getD b 0:=⟨_,rfl⟩
           rw [<- hx]at f1;rw [<- hy]at f1';rw [<- hz]at g1;have hx64:x<mB:=(by rw [hx];exact dF hsm _);have hy64:y<mB:=(by rw [hy];exact dF hsm _);have hz64:z<mB:=(by rw [hz];exact dF hsD _);have hw:=tE a (by omega);have hor:=xc z (p2 a) hz64 (sf (by omega));have hT:=fK hsD b (p2 a) (sf (by omega));have HV:=Lib.hid hV;have HX:=Lib.hid hx;have HY:=Lib.hid hy;have HZ:=Lib.hid hz;clear hV hx hy hz;by_cases hbit:x.testBit b=true
           ·have HE:=Lib.hid (show V.set b (z ||| p2 a)=j5 U a (gR n U a) (b+1)from by
             show _=i8 U a b _;rw [<- HV.out];unfold i8;rw [<- HX.out,if_pos hbit,HZ.out];rfl)
            have hq0:(bits BinOp.and IntKind.u64 ((x:Int) / 2 ^ b) 1==0)=false:=(by rw [uz x b hx64,hbit];rfl);have hS2:=(hS.setD b (z ||| p2 a) (by rw [HZ.out];exact hT)).drew;rw [HE.out]at hS2;have p0:=hS2.cell0;have p1:=hS2.uAt hlb;rw [<- HY.out]at p1;by_cases hab:a=b
            ·have hq1:((a:Int) !=(b:Int))=false:=(by simp [hab]);have HK:=Lib.hid (show∀y,y<b+1 ->¬CX U a y from fun y hy=>by
              by_cases e:y=b
              ·intro hbad;exact hbad.2.1 (by omega)
              ·exact HM.out y (by omega))
             clear hab hbit
             go_wp2
             go_region
             go_wp2
             go_roundw;case rel=>exact ⟨b+1,by omega,by go_num,hS2,HK.out⟩
             case measure=>simp [intOf];omega
            ·have hq1:((a:Int) !=(b:Int))=true:=(by simp;omega);by_cases hbit2:y.testBit a=true
             ·have hq2:=Bu y a hy64 hbit2;have HK:=Lib.hid (show CX U a b from ⟨by rw [<- HX.out];exact hbit,hab,by rw [<- HY.out];exact hbit2⟩);clear hab hbit hbit2
              go_wp2
              go_region
              go_wp2
              go_ret2
              exact ⟨none,1,rfl,hS2.below,.inr ⟨rfl,rfl,a,b,hlt,hlb,.inl (by rw [<- HU.out];exact HK.out)⟩⟩
             ·have hq2:=qr y a hy64 (by simpa using hbit2);have HK:=Lib.hid (show∀y,y<b+1 ->¬CX U a y from fun y' hy'=>by
               by_cases e:y'=b
               ·subst e;intro hbad;exact hbit2 (by rw [HY.out];exact hbad.2.2)
               ·exact HM.out y' (by omega))
              clear hab hbit hbit2
              go_wp2
              go_region
              go_wp2
              go_roundw;case rel=>exact ⟨b+1,by omega,by go_num,hS2,HK.out⟩
              case measure=>simp [intOf];omega
           ·have HE:=Lib.hid (show V=j5 U a (gR n U a) (b+1)from by
             show _=i8 U a b _;rw [<- HV.out];unfold i8;rw [<- HX.out,if_neg hbit])
            have hq0:(bits BinOp.and IntKind.u64 ((x:Int) / 2 ^ b) 1==0)=true:=(by rw [uz x b hx64];simpa using hbit);have HK:=Lib.hid (show∀y,y<b+1 ->¬CX U a y from fun y' hy'=>by
             by_cases e:y'=b
             ·subst e;intro hbad;exact hbit (by rw [HX.out];exact hbad.1)
             ·exact HM.out y' (by omega))
            clear hbit
            go_wp2
            go_roundw
            case rel=>
             rw [HE.out]at hS;exact ⟨b+1,by omega,by go_num,hS,HK.out⟩
            case measure=>simp [intOf];omega
          ·obtain rfl:n=b:=by omega
           go_wp2
           go_roundw;case rel=>exact ⟨a+1,by omega,by go_num,hS,fun x y hx hy=>by
            by_cases e:x=a
            ·subst e;exact HM.out y hy
            ·exact HN.out x y (by omega) hy⟩
           case measure=>simp [intOf];omega
        ·obtain rfl:n=a:=by omega
         go_wp2
         go_meet
         case rel=>exact ⟨hS,HN.out⟩
      case rest=>
       clear hS;obtain ⟨hS,hno⟩:=hcut;have HN:=Lib.hid hno;clear hno;obtain ⟨D,hD⟩:∃D,D=gR n U n:=⟨_,rfl⟩
       rw [<- hD]at hS;have HD':=Lib.hid (HD.out.trans hD.symm);clear hD HD;go_upto_region 43 with (fail)
       go_cut [16] (fun u16 w=>∃v ok B1,u16=.bool ok∧cA W0 w bl bu bd n v (.slice none 0 0) U D∧bl<B1∧W0.heap.size <= B1∧(ok=true ->gd B1 w v n (bK n U)∧∀a b,a<n ->b<n ->0 <= bK n U a b)∧(ok=false ->∃a b,a<n∧b<n∧bK n U a b<0))
       case first=>
        have f0:=hS.cell0;have hSd:=hS.drew;have hl:=lt_of_block hSd.hl;have hu:=lt_of_block hSd.hu;have hcall:=pQ bu n bu n n (fun i=>U.getD i 0) (fun i=>U.getD i 0) wc.drew hn0 hn (fun i hi=>hSd.uAt hi) (fun i hi=>hSd.uAt hi) hu hu (fun i _=>dF hsm i);have HC:=Lib.hid hcall;clear hcall
        go_region_with (go_at_call 85;refine (HC.out).mono ?_;rintro e w' ⟨vad,vl,vc,ok,rfl,hbel,hyes,hno⟩;have hS':=hSd.of_below hbel;have c2:=hS'.cell2;have c3:=hS'.free 2)
        all_goals
         go_wp2
         go_meet
         case rel=>exact ⟨_,ok,wc.drew.heap.size,rfl,hS'.setJ _,hl,hSd.below.size,fun h=>⟨(hyes h).1.setCell hl _,(hyes h).2⟩,hno⟩
       case rest=>
        clear hS;obtain ⟨vj,ok,B1,rfl,hS,hl1,hB1,hyes,hno⟩:=hcut;cases ok
        case false=>
         have HM:=Lib.hid (hno rfl);clear hyes hno
         go_wp2
         go_ret2
         obtain ⟨x,y,hx,hy,hxy⟩:=HM.out;exact ⟨none,1,rfl,hS.below,.inr ⟨rfl,rfl,x,y,hx,hy,.inr (.inl (by rw [<- HU.out];exact hxy))⟩⟩
        case true=>
         have HM:=Lib.hid (hyes rfl);clear hyes hno;go_upto_region 46 with (fail)
         go_cut [16] (fun u16 w=>∃vm ok,u16=.bool ok∧cA W0 w bl bu bd n vj vm U D∧gd B1 w vj n (bK n U)∧(ok=true ->gd W0.heap.size w vm n (bK n D)∧∀a b,a<n ->b<n ->0 <= bK n D a b)∧(ok=false ->∃a b,a<n∧b<n∧bK n D a b<0))
         case first=>
          have f0:=hS.cell1;have hSd:=hS.drew;have hsD:=hS.sD;have hl:=lt_of_block hSd.hl;have hu:=lt_of_block hSd.hd;have hcall:=pQ bd n bd n n (fun i=>D.getD i 0) (fun i=>D.getD i 0) wc.drew hn0 hn (fun i hi=>hSd.dAt hi) (fun i hi=>hSd.dAt hi) hu hu (fun i _=>dF hsD i);have HC:=Lib.hid hcall;clear hcall
          go_region_with (go_at_call 85;refine (HC.out).mono ?_;rintro e w' ⟨vad,vl,vc,ok,rfl,hbel,hyes,hno⟩;have hS':=hSd.of_below hbel;have c2:=hS'.cell3;have c3:=hS'.free 3)
          all_goals
           go_wp2
           go_meet
           case rel=>exact ⟨_,ok,rfl,hS'.setM _,((HM.out.1.below ((Below.refl _ _).drew)).below hbel).setCell hl1 _,fun h=>⟨((hyes h).1.setCell hl _).mono hSd.below.size,(hyes h).2⟩,hno⟩
         case rest=>
          clear hS;obtain ⟨vm,ok,rfl,hS,hmj,hyes,hno⟩:=hcut;cases ok
          case false=>
           have HK:=Lib.hid (hno rfl);clear hyes hno
           go_wp2
           go_ret2
           obtain ⟨x,y,hx,hy,hxy⟩:=HK.out;exact ⟨none,1,rfl,hS.below,.inr ⟨rfl,rfl,x,y,hx,hy,.inr (.inr (by rw [HD'.out];exact hxy))⟩⟩
          case true=>
           have HK:=Lib.hid (hyes rfl);have HJ:=Lib.hid hmj;clear hyes hno hmj
           go_wp2
           go_ret2
           refine ⟨some ⟨bl,0,none⟩,0,rfl,hS.below,.inl ⟨rfl,bl,rfl,?_,?_⟩⟩
           ·rw [<- HU.out,HD'.out];exact ⟨lt_of_block hS.hl,hS.nl,⟨bu,hS.cell0,lt_of_block hS.hu,fun i hi=>hS.uAt hi⟩,⟨vj,hS.cell2,HJ.out.mono hB1⟩,⟨vm,hS.cell3,HK.out.1⟩,hsm⟩
           ·rw [<- HU.out,HD'.out];exact fun x y hx hy=>⟨HN.out x y hx hy,HM.out.2 x y hx hy,HK.out.2 x y hx hy⟩
theorem Ed (b bu n cu:Nat) (a:Int) (w:World) (hn:(n:Int) <= 64)
  (hc:w.cell? ⟨b,0,none⟩=some (.slice (some ⟨bu,0,none⟩) n cu)):
  Calls Tryz.prog 99 #[.pointer (some ⟨b,0,none⟩),.int .i64 a] w fun e w'=>e=.returned (.bool (decide (0 <= a∧a<n)))∧w=w':=by
 by_cases h0:0 <= a
 ·by_cases h1:a<n
  ·go_enter Tryz.func99,Tryz.ntmps99
   go_wp2
   go_ret;exact ⟨eB (by simp;omega),rfl⟩
  ·go_enter Tryz.func99,Tryz.ntmps99
   go_wp2
   go_ret;exact ⟨eB (by simp;omega),rfl⟩
 ·go_enter Tryz.func99,Tryz.ntmps99
  go_wp2
  go_ret;exact ⟨eB (by simp;omega),rfl⟩
theorem mf (b bu n cu:Nat) (a:Int) (w:World) (hn:(n:Int) <= 64) (h0:0 <= a) (h1:a<n)
  (hc:w.cell? ⟨b,0,none⟩=some (.slice (some ⟨bu,0,none⟩) n cu)):
  Calls Tryz.prog 99 #[.pointer (some ⟨b,0,none⟩),.int .i64 a] w fun e w'=>e=.returned (.bool true)∧w=w':=
 (Ed b bu n cu a w hn hc).mono fun e w' h=>by rw [show decide (0 <= a∧a<n)=true from by simp;omega]at h;exact h
theorem yf (b bu n cu:Nat) (w:World) (hn:(n:Int) <= 64)
  (hc:w.cell? ⟨b,0,none⟩=some (.slice (some ⟨bu,0,none⟩) n cu)):
  Calls Tryz.prog 97 #[.pointer (some ⟨b,0,none⟩)] w fun e w'=>e=.returned (.int .i64 n)∧w=w':=by
 go_enter Tryz.func97,Tryz.ntmps97
 go_wp2
 go_ret;exact ⟨rfl,rfl⟩
theorem wN (b bu n cu:Nat) (a c:Int) (u:Nat) (w:World) (hn:(n:Int) <= 64) (hu64:u<mB)
  (hc:w.cell? ⟨b,0,none⟩=some (.slice (some ⟨bu,0,none⟩) n cu))
  (h0:0 <= a) (h1:a<n) (h2:0 <= c) (h3:c<n) (hu:w.cell? ⟨bu,a.toNat,none⟩=some (.int .u64 u)):
  Calls Tryz.prog 60 #[.pointer (some ⟨b,0,none⟩),.int .i64 a,.int .i64 c] w fun e w'=>e=.returned (.bool (u.testBit c.toNat))∧w=w':=by
 go_enter Tryz.func60,Tryz.ntmps60
 go_wp2_with (go_at_call 99;refine (mf b bu n cu _ _ hn (by assumption) (by assumption) hc).mono ?_;rintro e w' ⟨rfl,rfl⟩);go_ret;exact ⟨eB (m8 _ _ hu64),rfl⟩
theorem ux (b bu n cu bj cj br cr:Nat) (a c:Int) (v:Int) (w:World) (hn:(n:Int) <= 64)
  (hc:w.cell? ⟨b,0,none⟩=some (.slice (some ⟨bu,0,none⟩) n cu))
  (hj:w.cell? ⟨b,2,none⟩=some (.slice (some ⟨bj,0,none⟩) n cj))
  (h0:0 <= a) (h1:a<n) (h2:0 <= c) (h3:c<n)
  (hr:w.cell? ⟨bj,a.toNat,none⟩=some (.slice (some ⟨br,0,none⟩) n cr))
  (hv:w.cell? ⟨br,c.toNat,none⟩=some (.int .i64 v)):
  Calls Tryz.prog 59 #[.pointer (some ⟨b,0,none⟩),.int .i64 a,.int .i64 c] w fun e w'=>e=.returned (.int .i64 v)∧w=w':=by
 go_enter Tryz.func59,Tryz.ntmps59
 go_wp2_with (go_at_call 99;refine (mf b bu n cu _ _ hn (by assumption) (by assumption) hc).mono ?_;rintro e w' ⟨rfl,rfl⟩);go_ret;exact ⟨rfl,rfl⟩
theorem uy (b bu n cu bj cj br cr:Nat) (a c:Int) (v:Int) (w:World) (hn:(n:Int) <= 64)
  (hc:w.cell? ⟨b,0,none⟩=some (.slice (some ⟨bu,0,none⟩) n cu))
  (hj:w.cell? ⟨b,3,none⟩=some (.slice (some ⟨bj,0,none⟩) n cj))
  (h0:0 <= a) (h1:a<n) (h2:0 <= c) (h3:c<n)
  (hr:w.cell? ⟨bj,a.toNat,none⟩=some (.slice (some ⟨br,0,none⟩) n cr))
  (hv:w.cell? ⟨br,c.toNat,none⟩=some (.int .i64 v)):
  Calls Tryz.prog 98 #[.pointer (some ⟨b,0,none⟩),.int .i64 a,.int .i64 c] w fun e w'=>e=.returned (.int .i64 v)∧w=w':=by
 go_enter Tryz.func98,Tryz.ntmps98
 go_wp2_with (go_at_call 99;refine (mf b bu n cu _ _ hn (by assumption) (by assumption) hc).mono ?_;rintro e w' ⟨rfl,rfl⟩);go_ret;exact ⟨rfl,rfl⟩
section
variable {B:Nat} {w:World} {b n:Nat} {U D:List Nat}
theorem D5 (hL:gy B w b n U D) (hn:n <= 64) (a c:Int) (h0:0 <= a) (h1:a<n) (h2:0 <= c) (h3:c<n):
  Calls Tryz.prog 60 #[.pointer (some ⟨b,0,none⟩),.int .i64 a,.int .i64 c] w fun e w'=>e=.returned (.bool ((U.getD a.toNat 0).testBit c.toNat))∧w=w':=by
 obtain ⟨bu,u1,u2,u3⟩:=hL.up;exact wN b bu n n a c _ w (by omega) (dF hL.small _) u1 h0 h1 h2 h3 (u3 _ (by omega))
theorem sS (hL:gy B w b n U D) (hn:n <= 64) (a c:Int) (h0:0 <= a) (h1:a<n) (h2:0 <= c) (h3:c<n):
  Calls Tryz.prog 59 #[.pointer (some ⟨b,0,none⟩),.int .i64 a,.int .i64 c] w fun e w'=>e=.returned (.int .i64 (bK n U a.toNat c.toNat))∧w=w':=by
 obtain ⟨bu,u1,u2,u3⟩:=hL.up;obtain ⟨vj,j1,bo,cc,rfl,j3,_,j4⟩:=hL.join;obtain ⟨br,cr,k1,k2,_,k3⟩:=j4 a.toNat (by omega);exact ux b bu n n bo cc br cr a c _ w (by omega) u1 j1 h0 h1 h2 h3 k1 (k3 _ (by omega))
theorem C8 (hL:gy B w b n U D) (hn:n <= 64) (a c:Int) (h0:0 <= a) (h1:a<n) (h2:0 <= c) (h3:c<n):
  Calls Tryz.prog 98 #[.pointer (some ⟨b,0,none⟩),.int .i64 a,.int .i64 c] w fun e w'=>e=.returned (.int .i64 (bK n D a.toNat c.toNat))∧w=w':=by
 obtain ⟨bu,u1,u2,u3⟩:=hL.up;obtain ⟨vj,j1,bo,cc,rfl,j3,_,j4⟩:=hL.meet;obtain ⟨br,cr,k1,k2,_,k3⟩:=j4 a.toNat (by omega);exact uy b bu n n bo cc br cr a c _ w (by omega) u1 j1 h0 h1 h2 h3 k1 (k3 _ (by omega))
def gf (F:Nat ->Nat ->Int):Nat ->Int
 |0=>0
 |k+1=>F (gf F k).toNat k
theorem ua {F:Nat ->Nat ->Int} (hF:∀x y,x<n ->y<n ->0 <= F x y∧F x y<n) (hn:0<n) (k:Nat) (hk:k <= n):0 <= gf F k∧gf F k<n:=by
 induction k with
 |zero=>simp [gf];omega
 |succ k ih=>have:=ih (by omega);exact hF _ _ (by omega) (by omega)
theorem ut (n:Nat) (U:List Nat) (x y:Nat):bK n U x y<n:=(l7 _ _ _).2
theorem D7 (hL:gy B w b n U D) (hn0:0<n) (hn:n <= 64) (hF:∀x y,x<n ->y<n ->0 <= bK n U x y):
  Calls Tryz.prog 58 #[.pointer (some ⟨b,0,none⟩)] w fun e w'=>e=.returned (.int .i64 (gf (bK n U) n))∧w=w':=by
 obtain ⟨bu,u1,u2,u3⟩:=hL.up;have HF:=Lib.hid (fun x y hx hy=>⟨hF x y hx hy,ut n U x y⟩:∀x y,x<n ->y<n ->0 <= bK n U x y∧bK n U x y<n);clear hF u3;go_enter Tryz.func58,Tryz.ntmps58
 go_wp2_with (go_at_call 97;refine (yf b bu n n _ (by omega) u1).mono ?_;rintro e w' ⟨rfl,rfl⟩)
 all_goals
  go_loop [3,11] (fun u3 u11=>∃k:Nat,k <= n∧u11=.int .i64 k∧u3=.int .i64 (gf (bK n U) k)) (fun _ u11=>n - (intOf u11).toNat)
  case atStart=>exact ⟨0,Nat.zero_le _,rfl,by first|rfl|(simp [gf];omega)⟩
  case round=>
   obtain ⟨k,hk,rfl,rfl⟩:=hrel;have hb:=ua HF.out hn0 k hk;obtain ⟨hb0,hb1⟩:=hb;by_cases hlt:k<n
   ·have hk0:(0:Int) <= k:=(by omega);have hk1:(k:Int)<n:=(by omega);go_wp2_with (go_at_call 59;refine (sS hL hn (gf (bK n U) k) k hb0 hb1 hk0 hk1).mono ?_;rintro e w' ⟨rfl,rfl⟩);go_round;case rel=>exact ⟨k+1,by omega,by go_num,by simp [gf]⟩
    case measure=>simp [intOf];omega
   ·obtain rfl:n=k:=by omega
    go_wp2
    go_ret;exact ⟨rfl,rfl⟩
theorem yO (hL:gy B w b n U D) (hn0:0<n) (hn:n <= 64) (hF:∀x y,x<n ->y<n ->0 <= bK n D x y):
  Calls Tryz.prog 57 #[.pointer (some ⟨b,0,none⟩)] w fun e w'=>e=.returned (.int .i64 (gf (bK n D) n))∧w=w':=by
 obtain ⟨bu,u1,u2,u3⟩:=hL.up;have HF:=Lib.hid (fun x y hx hy=>⟨hF x y hx hy,ut n D x y⟩:∀x y,x<n ->y<n ->0 <= bK n D x y∧bK n D x y<n);clear hF u3;go_enter Tryz.func57,Tryz.ntmps57
 go_wp2_with (go_at_call 97;refine (yf b bu n n _ (by omega) u1).mono ?_;rintro e w' ⟨rfl,rfl⟩)
 all_goals
  go_loop [3,11] (fun u3 u11=>∃k:Nat,k <= n∧u11=.int .i64 k∧u3=.int .i64 (gf (bK n D) k)) (fun _ u11=>n - (intOf u11).toNat)
  case atStart=>exact ⟨0,Nat.zero_le _,rfl,by first|rfl|(simp [gf];omega)⟩
  case round=>
   obtain ⟨k,hk,rfl,rfl⟩:=hrel;have hb:=ua HF.out hn0 k hk;obtain ⟨hb0,hb1⟩:=hb;by_cases hlt:k<n
   ·have hk0:(0:Int) <= k:=(by omega);have hk1:(k:Int)<n:=(by omega);go_wp2_with (go_at_call 98;refine (C8 hL hn (gf (bK n D) k) k hb0 hb1 hk0 hk1).mono ?_;rintro e w' ⟨rfl,rfl⟩);go_round;case rel=>exact ⟨k+1,by omega,by go_num,by simp [gf]⟩
    case measure=>simp [intOf];omega
   ·obtain rfl:n=k:=by omega
    go_wp2
    go_ret;exact ⟨rfl,rfl⟩
end
end Go.Proofs.YtcannffahjbjnaaGreatDoor
namespace Go.Proofs.YtcannffahjbjnaaGreatDoor
def B (U:List Nat) (x y:Nat):Prop:=(U.getD x 0).testBit y=true
theorem vH {n:Nat} {U:List Nat} (h:dD n U) (i v x y:Nat) (hi:i<n):B (tk U i v) x y↔B U x y∨(x=i∧v.testBit y=true):=by
 unfold B tk;rw [List.getD_eq_getElem?_getD,List.getElem?_set];by_cases e:i=x
 ·subst e;rw [if_pos rfl,if_pos (by rw [h.1];exact hi)];simp [Nat.testBit_or]
 ·rw [if_neg e,<- List.getD_eq_getElem?_getD];constructor
  ·intro h';exact .inl h'
  ·rintro (h'|⟨h',_⟩)
   ·exact h'
   ·omega
theorem D0 (k y:Nat):(p2 k).testBit y=true↔y=k:=by
 unfold p2;rw [Nat.testBit_two_pow];simp;exact eq_comm
theorem DZ (n x y:Nat):B (lz n n) x y↔x<n∧y=x:=by
 unfold B lz;by_cases h:x<n
 ·rw [List.getD_eq_getElem?_getD,List.getElem?_map,List.getElem?_range h];simp only [Option.map_some,Option.getD_some,h,if_true,true_and];exact D0 x y
 ·rw [List.getD_eq_getElem?_getD,List.getElem?_eq_none (by simp;omega)];simp [h]
theorem sL {n:Nat} {U:List Nat} (h:dD n U) (k:Nat) (i:Nat) (hi:i <= n) (x y:Nat):B (mT k U i) x y↔B U x y∨(x<i∧B U x k∧B U k y):=by
 induction i generalizing x y with
 |zero=>simp [mT]
 |succ i ih=>
  have ih':=fun x y=>ih (by omega) x y;have hs:=qE h k i;show B (jd k i (mT k U i)) x y↔_;unfold jd;have hik:B (mT k U i) i k↔B U i k:=(by rw [ih'];simp);have hky:∀y,B (mT k U i) k y↔B U k y:=fun y=>by
   rw [ih'];constructor
   ·rintro (a|⟨_,_,a⟩)<;>exact a
   ·exact .inl
  split
  ·rename_i hb;have hb':B U i k:=hik.1 hb;rw [vH hs i _ x y (by omega),ih'];have:(((mT k U i).getD k 0).testBit y=true)↔B U k y:=hky y;rw [this];constructor
   ·rintro ((a|⟨a,b,c⟩)|⟨a,b⟩)
    ·exact .inl a
    ·exact .inr ⟨by omega,b,c⟩
    ·exact .inr ⟨by omega,by rw [a];exact hb',b⟩
   ·rintro (a|⟨a,b,c⟩)
    ·exact .inl (.inl a)
    ·by_cases e:x=i
     ·exact .inr ⟨e,c⟩
     ·exact .inl (.inr ⟨by omega,b,c⟩)
  ·rename_i hb;rw [ih'];constructor
   ·rintro (a|⟨a,b,c⟩)
    ·exact .inl a
    ·exact .inr ⟨by omega,b,c⟩
   ·rintro (a|⟨a,b,c⟩)
    ·exact .inl a
    ·by_cases e:x=i
     ·subst e;exact absurd (hik.2 b) hb
     ·exact .inr ⟨by omega,b,c⟩
theorem E0 {n:Nat} {U:List Nat} (h:dD n U) {x y:Nat} (hb:B U x y):x<n:=by
 by_cases hx:x<n
 ·exact hx
 ·unfold B at hb;rw [List.getD_eq_getElem?_getD,List.getElem?_eq_none (by rw [h.1];omega)]at hb;simp at hb
inductive tK (R:Nat ->Nat ->Prop):Nat ->Nat ->Prop
 |refl (x):tK R x x
 |step {x y z}:tK R x y ->R y z ->tK R x z
theorem tK.trans {R:Nat ->Nat ->Prop} {x y z:Nat} (h:tK R x y) (k:tK R y z):tK R x z:=by
 induction k with
 |refl=>exact h
 |step _ r ih=>exact .step ih r
theorem tK.of {R:Nat ->Nat ->Prop} {x y:Nat} (h:R x y):tK R x y:=.step (.refl x) h
theorem ry {n:Nat} {U:List Nat} (h:dD n U) (k:Nat) {x y:Nat} (hb:B U x y):B (ff n U k) x y:=by
 induction k with
 |zero=>exact hb
 |succ k ih=>exact (sL (fU h k) k n (Nat.le_refl _) x y).2 (.inl ih)
theorem y6 {n:Nat} {U:List Nat} (h:dD n U) (k:Nat) {x y:Nat} (hb:B (ff n U k) x y):tK (B U) x y:=by
 induction k generalizing x y with
 |zero=>exact .of hb
 |succ k ih=>
  rcases (sL (fU h k) k n (Nat.le_refl _) x y).1 hb with a|⟨_,a,b⟩
  ·exact ih a
  ·exact (ih a).trans (ih b)
theorem y7 {n:Nat} {U:List Nat} (h:dD n U) (k:Nat) {x m y:Nat} (hm:m<k) (h1:B (ff n U k) x m) (h2:B (ff n U k) m y):B (ff n U k) x y:=by
 induction k generalizing x y m with
 |zero=>omega
 |succ k ih=>
  have e:=fun x y=>sL (fU h k) k n (Nat.le_refl _) x y;have hlt:∀{x y},B (ff n U k) x y ->x<n:=fun hb=>E0 (fU h k) hb;by_cases hmk:m=k
  ·subst hmk;have a:B (ff n U m) x m:=by
    rcases (e x m).1 h1 with a|⟨_,a,_⟩<;>exact a
   have b:B (ff n U m) m y:=by
    rcases (e m y).1 h2 with a|⟨_,_,a⟩<;>exact a
   exact (e x y).2 (.inr ⟨hlt a,a,b⟩)
  ·have hmk':m<k:=(by omega);rcases (e x m).1 h1 with a|⟨_,a,a'⟩
   ·rcases (e m y).1 h2 with b|⟨_,b,b'⟩
    ·exact (e x y).2 (.inl (ih hmk' a b))
    ·exact (e x y).2 (.inr ⟨hlt a,ih hmk' a b,b'⟩)
   ·rcases (e m y).1 h2 with b|⟨_,b,b'⟩
    ·exact (e x y).2 (.inr ⟨hlt a,a,ih hmk' a' b⟩)
    ·exact (e x y).2 (.inr ⟨hlt a,a,b'⟩)
theorem y5 {n:Nat} {U:List Nat} (h:dD n U) (hr:∀x,x<n ->B U x x) (hy:∀x y,B U x y ->y<n) {x y:Nat} (hx:x<n):B (ff n U n) x y↔tK (B U) x y:=by
 constructor
 ·exact y6 h n
 ·intro hR;have:B (ff n U n) x y∧y<n:=by
   induction hR with
   |refl=>exact ⟨ry h n (hr x hx),hx⟩
   |step h1 r ih=>exact ⟨y7 h n ih.2 ih.1 (ry h n r),hy _ _ r⟩
  exact this.1
def vK (m:Nat) (P:Nat ->Int×Int) (x y:Nat):Prop:=∃i,i<m∧(P i).1.toNat=x∧(P i).2.toNat=y
def dz (n m:Nat) (P:Nat ->Int×Int):Prop:=∀i,i<m ->0 <= (P i).1∧(P i).1<n∧0 <= (P i).2∧(P i).2<n
theorem AJ {n m:Nat} {P:Nat ->Int×Int} (hn:n <= 64) (hin:dz n m P) (k:Nat) (hk:k <= m) (x y:Nat):B (jq n P k) x y↔(x<n∧y=x)∨vK k P x y:=by
 induction k with
 |zero=>simp [jq,DZ,vK]
 |succ k ih=>
  have hb:=hin k (by omega);show B (tk (jq n P k) _ _) x y↔_;rw [vH (mm hn m k (by omega) hin) _ _ x y (by omega),ih (by omega),D0];constructor
  ·rintro ((a|⟨i,hi,a⟩)|⟨a,b⟩)
   ·exact .inl a
   ·exact .inr ⟨i,by omega,a⟩
   ·exact .inr ⟨k,by omega,a.symm,b.symm⟩
  ·rintro (a|⟨i,hi,a,b⟩)
   ·exact .inl (.inl a)
   ·by_cases e:i=k
    ·subst e;exact .inr ⟨a.symm,b.symm⟩
    ·exact .inl (.inr ⟨i,by omega,a,b⟩)
def Le (m:Nat) (P:Nat ->Int×Int):Nat ->Nat ->Prop:=tK (vK m P)
theorem uS {R S:Nat ->Nat ->Prop} (h:∀x y,R x y ->tK S x y) {x y:Nat} (k:tK R x y):tK S x y:=by
 induction k with
 |refl=>exact .refl _
 |step _ r ih=>exact ih.trans (h _ _ r)
theorem jF {n m:Nat} {P:Nat ->Int×Int} (hn:n <= 64) (hin:dz n m P) {x y:Nat} (hx:x<n):B (gq n m P) x y↔Le m P x y:=by
 have e:=fun x y=>AJ hn hin m (Nat.le_refl _) x y;have hs:=mm hn m m (Nat.le_refl _) hin;unfold gq;rw [y5 hs (fun x hx=>(e x x).2 (.inl ⟨hx,rfl⟩)) (fun x y hb=>by
  rcases (e x y).1 hb with ⟨a,b⟩|⟨i,hi,a,b⟩
  ·omega
  ·have:=hin i hi;omega) hx]
 constructor
 ·exact uS fun x y hb=>by
   rcases (e x y).1 hb with ⟨a,b⟩|c
   ·rw [b];exact .refl _
   ·exact .of c
 ·exact uS fun x y hb=>.of ((e x y).2 (.inr hb))
theorem EA {n m:Nat} {P:Nat ->Int×Int} (hin:dz n m P) {x y:Nat} (hx:x<n) (h:Le m P x y):y<n:=by
 induction h with
 |refl=>exact hx
 |step _ r _=>obtain ⟨i,hi,a,b⟩:=r;have:=hin i hi;omega
theorem CZ {n:Nat} {U D:List Nat} (h:dD n D) {a:Nat} (ha:a<64) (b:Nat) (hb:b <= n) (x y:Nat):B (j5 U a D b) x y↔B D x y∨(x<b∧y=a∧B U a x):=by
 induction b generalizing x y with
 |zero=>simp [j5]
 |succ b ih=>
  have ih':=fun x y=>ih (by omega) x y;show B (i8 U a b (j5 U a D b)) x y↔_;unfold i8;split
  ·rename_i hbit;rw [vH (oX h ha b) _ _ x y (by omega),ih',D0];constructor
   ·rintro ((c|⟨c1,c2,c3⟩)|⟨c1,c2⟩)
    ·exact .inl c
    ·exact .inr ⟨by omega,c2,c3⟩
    ·exact .inr ⟨by omega,c2,by rw [c1];exact hbit⟩
   ·rintro (c|⟨c1,c2,c3⟩)
    ·exact .inl (.inl c)
    ·by_cases e:x=b
     ·exact .inr ⟨e,c2⟩
     ·exact .inl (.inr ⟨by omega,c2,c3⟩)
  ·rename_i hbit;rw [ih'];constructor
   ·rintro (c|⟨c1,c2,c3⟩)
    ·exact .inl c
    ·exact .inr ⟨by omega,c2,c3⟩
   ·rintro (c|⟨c1,c2,c3⟩)
    ·exact .inl c
    ·by_cases e:x=b
     ·subst e;exact absurd c3 hbit
     ·exact .inr ⟨by omega,c2,c3⟩
theorem CY {n:Nat} {U:List Nat} (hn:n <= 64) (a:Nat) (ha:a <= n) (x y:Nat):B (gR n U a) x y↔x<n∧y<a∧B U y x:=by
 induction a generalizing x y with
 |zero=>
  simp only [gR,Nat.not_lt_zero,false_and,and_false,iff_false];unfold B;rw [List.getD_eq_getElem?_getD,List.getElem?_replicate];split<;>simp
 |succ a ih=>
  show B (j5 U a (gR n U a) n) x y↔_;rw [CZ (vn hn (by omega)) (by omega) n (Nat.le_refl _),ih (by omega)];constructor
  ·rintro (⟨c1,c2,c3⟩|⟨c1,c2,c3⟩)
   ·exact ⟨c1,by omega,c3⟩
   ·exact ⟨c1,by omega,by rw [c2];exact c3⟩
  ·rintro ⟨c1,c2,c3⟩;by_cases e:y=a
   ·exact .inr ⟨c1,e,by rw [<- e];exact c3⟩
   ·exact .inl ⟨c1,by omega,c3⟩
theorem AH {n m:Nat} {P:Nat ->Int×Int} (hn:n <= 64) (hin:dz n m P) {x y:Nat} (hx:x<n):B (eX n m P) x y↔y<n∧Le m P y x:=by
 unfold eX;rw [CY hn n (Nat.le_refl _)];constructor
 ·rintro ⟨_,a,b⟩;exact ⟨a,(jF hn hin a).1 b⟩
 ·rintro ⟨a,b⟩;exact ⟨hx,a,(jF hn hin a).2 b⟩
theorem s8 {A:Nat ->Nat} {both k:Nat} (h:0 <= bw A both k):(bw A both k).toNat<k∧both.testBit (bw A both k).toNat=true∧A (bw A both k).toNat=both:=by
 induction k with
 |zero=>simp [bw]at h
 |succ k ih=>
  unfold bw at h⊢;split
  ·rename_i hc;simp only [Bool.and_eq_true,beq_iff_eq]at hc;simp only [Int.toNat_natCast];exact ⟨by omega,hc.1,hc.2⟩
  ·rename_i hc;rw [if_neg hc]at h;have:=ih h;exact ⟨by omega,this.2⟩
theorem s7 {A:Nat ->Nat} {both k:Nat} (h:bw A both k<0):∀c,c<k ->¬(both.testBit c=true∧A c=both):=by
 induction k with
 |zero=>intro c hc;omega
 |succ k ih=>
  unfold bw at h;split at h
  ·omega
  ·rename_i hc;intro c hc' hb;by_cases e:c=k
   ·subst e;simp [hb.1,hb.2]at hc
   ·exact ih h c (by omega) hb
theorem qh {n:Nat} {U:List Nat} {a b:Nat} (h:0 <= bK n U a b):(bK n U a b).toNat<n∧B U a (bK n U a b).toNat∧B U b (bK n U a b).toNat∧∀y,B U (bK n U a b).toNat y↔B U a y∧B U b y:=by
 obtain ⟨h1,h2,h3⟩:=s8 h;unfold B;rw [Nat.testBit_and,Bool.and_eq_true]at h2;refine ⟨h1,h2.1,h2.2,fun y=>?_⟩;have:U.getD (bK n U a b).toNat 0=U.getD a 0 &&& U.getD b 0:=h3;rw [this,Nat.testBit_and,Bool.and_eq_true]
theorem wL {n:Nat} {U:List Nat} {a b:Nat} (h:bK n U a b<0) (c:Nat) (hc:c<n):¬(B U a c∧B U b c∧∀y,B U c y↔B U a y∧B U b y):=by
 rintro ⟨h1,h2,h3⟩;refine s7 h c hc ⟨by rw [Nat.testBit_and,Bool.and_eq_true];exact ⟨h1,h2⟩,?_⟩;apply Nat.eq_of_testBit_eq;intro y;rw [Nat.testBit_and,Bool.eq_iff_iff,Bool.and_eq_true];exact h3 y
end Go.Proofs.YtcannffahjbjnaaGreatDoor
namespace Go.Proofs.YtcannffahjbjnaaGreatDoor
open Go.RowKit
def yI (n:Nat) (U D:List Nat):Prop:=∀x y,x<n ->y<n ->¬CX U x y∧0 <= bK n U x y∧0 <= bK n D x y
def EN (n:Nat) (U D:List Nat):Bool:=
 (List.range n).all fun x=>(List.range n).all fun y=> !((U.getD x 0).testBit y&&decide (x≠y)&&(U.getD y 0).testBit x)&&decide (0 <= bK n U x y)&&decide (0 <= bK n D x y)
theorem Dn (n:Nat) (U D:List Nat) (hb:EN n U D=true):yI n U D:=by
 intro x y hx hy;have h1:=List.all_eq_true.1 hb x (List.mem_range.2 hx);have h2:=List.all_eq_true.1 h1 y (List.mem_range.2 hy);simp only [Bool.and_eq_true,Bool.not_eq_true',decide_eq_true_eq]at h2;refine ⟨?_,h2.1.2,h2.2⟩;rintro ⟨a,b,c⟩;have:=h2.1.1;rw [a,c]at this;simp [b]at this
theorem BX (ao:Option Addr) (bp off m cp n:Nat) (P:Nat ->Int×Int) (W0:World) (hn0:0<n) (hn:n <= 64) (hm:m <= 1000)
  (hP:∀i,i<m ->W0.cell? ⟨bp,off+i*2,none⟩=some (.int .i64 (P i).1)∧W0.cell? ⟨bp,off+i*2+1,none⟩=some (.int .i64 (P i).2))
  (hao:0<m ->ao=some ⟨bp,off,none⟩) (hbp:0<m ->bp<W0.heap.size) (hin:dz n m P) (hf:yI n (gq n m P) (eX n m P)):
  Calls Tryz.prog 44 #[.int .i64 n,.slice ao m cp] W0 fun e w'=>∃b,e=.returned (.tuple #[.pointer (some ⟨b,0,none⟩),.int .i64 0])∧Below W0.heap.size W0 w'∧gy W0.heap.size w' b n (gq n m P) (eX n m P):=by
 refine (DD ao bp off m cp n P W0 hn0 hn hm hP hao hbp hin).mono ?_;rintro e w' ⟨p,c,rfl,hb,(⟨rfl,b,rfl,hl,_⟩|⟨rfl,rfl,x,y,hx,hy,hbad⟩)⟩
 ·exact ⟨b,rfl,hb,hl⟩
 ·have:=hf x y hx hy;rcases hbad with h1|h1|h1
  ·exact absurd h1 this.1
  ·omega
  ·omega
def P4 (i:Nat):Int×Int:=([(0,1),(0,2),(1,3),(2,3)]:List (Int×Int)).getD i (0,0)
theorem pl:yI 4 (gq 4 4 P4) (eX 4 4 P4):=Dn _ _ _ (by decide+kernel)
theorem AN:dz 4 4 P4:=by
 intro i hi;have:i=0∨i=1∨i=2∨i=3:=(by omega);rcases this with rfl|rfl|rfl|rfl<;>decide
theorem j4:bK 4 (gq 4 4 P4) 1 2=3:=by decide+kernel
theorem m4:bK 4 (eX 4 4 P4) 1 2=0:=by decide+kernel
theorem t4:gf (bK 4 (gq 4 4 P4)) 4=3:=by decide+kernel
theorem b4:gf (bK 4 (eX 4 4 P4)) 4=0:=by decide+kernel
theorem l4:((gq 4 4 P4).getD 0 0).testBit 3=true:=by decide+kernel
theorem n4:((gq 4 4 P4).getD 1 0).testBit 2=false:=by decide+kernel
structure pI (n:Nat) (U:List Nat) (R:Nat ->Nat ->Prop):Prop where
 bit:∀x y,x<n ->(B U x y↔y<n∧R x y)
 refl:∀x,x<n ->R x x
 anti:∀x y,x<n ->y<n ->R x y ->R y x ->x=y
 trans:∀x y z,x<n ->y<n ->z<n ->R x y ->R y z ->R x z
theorem pI.join {n:Nat} {U:List Nat} {R:Nat ->Nat ->Prop} (s:pI n U R) {a b c:Nat} (ha:a<n) (hb:b<n) (hc:c<n) (h1:R a c) (h2:R b c) (h3:∀y,y<n ->R a y ->R b y ->R c y):
  bK n U a b=c:=by
 have hpos:0 <= bK n U a b:=by
  apply Classical.byContradiction;intro hneg;refine wL (by omega) c hc ⟨(s.bit a c ha).2 ⟨hc,h1⟩,(s.bit b c hb).2 ⟨hc,h2⟩,fun y=>?_⟩;rw [s.bit a y ha,s.bit b y hb,s.bit c y hc];constructor
  ·rintro ⟨hy,hr⟩;exact ⟨⟨hy,s.trans _ _ _ ha hc hy h1 hr⟩,hy,s.trans _ _ _ hb hc hy h2 hr⟩
  ·rintro ⟨⟨hy,r1⟩,_,r2⟩;exact ⟨hy,h3 y hy r1 r2⟩
 obtain ⟨hj,j1,j2,j3⟩:=qh hpos;have r1:=((s.bit _ _ ha).1 j1).2;have r2:=((s.bit _ _ hb).1 j2).2;have r3:=((s.bit _ _ hj).1 ((j3 c).2 ⟨(s.bit a c ha).2 ⟨hc,h1⟩,(s.bit b c hb).2 ⟨hc,h2⟩⟩)).2;have:=s.anti _ _ hj hc r3 (h3 _ hj r1 r2);omega
theorem pI.up {n m:Nat} {P:Nat ->Int×Int} (hn:n <= 64) (hin:dz n m P) (hanti:∀x y,x<n ->y<n ->Le m P x y ->Le m P y x ->x=y):pI n (gq n m P) (Le m P) where
 bit x y hx:=by
  rw [jF hn hin hx];exact ⟨fun h=>⟨EA hin hx h,h⟩,fun h=>h.2⟩
 refl x _:=.refl x
 anti:=hanti
 trans _ _ _ _ _ _ h k:=tK.trans h k
theorem pI.down {n m:Nat} {P:Nat ->Int×Int} (hn:n <= 64) (hin:dz n m P) (hanti:∀x y,x<n ->y<n ->Le m P x y ->Le m P y x ->x=y):pI n (eX n m P) (fun x y=>Le m P y x) where
 bit x y hx:=AH hn hin hx
 refl x _:=.refl x
 anti _ _ hx hy h k:=hanti _ _ hx hy k h
 trans _ _ _ _ _ _ h k:=tK.trans k h
end Go.Proofs.YtcannffahjbjnaaGreatDoor
namespace Go.Proofs.YtcannffahjbjnaaGreatDoor
open Go.RowKit Go.Deep
def fM (w:World) (a:Option Addr) (len:Nat) (P:Nat ->Int×Int):Prop:=
 ∃b off,(0<len ->a=some ⟨b,off,none⟩)∧(0<len ->b<w.heap.size)∧∀i,i<len ->w.cell? ⟨b,off+i*2,none⟩=some (.int .i64 (P i).1)∧w.cell? ⟨b,off+i*2+1,none⟩=some (.int .i64 (P i).2)
end Go.Proofs.YtcannffahjbjnaaGreatDoor
namespace Go.Proofs.YtcannffahjbjnaaGreatDoor
open Go.RowKit
def CI (w:World) (f:Nat) (args:Array Value) (r:Int):Prop:=Calls Tryz.prog f args w fun e w'=>e=.returned (.int .i64 r)∧w=w'
def CB (w:World) (f:Nat) (args:Array Value) (r:Bool):Prop:=Calls Tryz.prog f args w fun e w'=>e=.returned (.bool r)∧w=w'
theorem zm {n m:Nat} {P:Nat ->Int×Int} (hn:n <= 64) (hin:dz n m P) (hf:yI n (gq n m P) (eX n m P)):∀x y,x<n ->y<n ->Le m P x y ->Le m P y x ->x=y:=fun x y hx hy h k=>by
 apply Classical.byContradiction;intro hne;exact (hf x y hx hy).1 ⟨(jF hn hin hx).2 h,hne,(jF hn hin hy).2 k⟩
theorem CI.of {w:World} {f:Nat} {args:Array Value} {r r':Int} (h:Calls Tryz.prog f args w fun e w'=>e=.returned (.int .i64 r)∧w=w') (e:r=r'):CI w f args r':=by subst e;exact h
theorem CB.of {w:World} {f:Nat} {args:Array Value} {r r':Bool} (h:Calls Tryz.prog f args w fun e w'=>e=.returned (.bool r)∧w=w') (e:r=r'):CB w f args r':=by subst e;exact h
def uV (m:Nat) (P:Nat ->Int×Int) (x y:Nat):Bool:=(x==y)||(List.range m).any fun i=>(P i).1.toNat==x&&(P i).2.toNat==y
def gk (k:Nat) (R:Nat ->Nat ->Bool) (x y:Nat):Bool:=R x y||(R x k&&R k y)
def ck (m:Nat) (P:Nat ->Int×Int):Nat ->Nat ->Nat ->Bool
 |0=>uV m P
 |k+1=>gk k (ck m P k)
theorem Ck (m:Nat) (P:Nat ->Int×Int) (x y:Nat):uV m P x y=true↔x=y∨vK m P x y:=by
 unfold uV vK;simp only [Bool.or_eq_true,beq_iff_eq,List.any_eq_true,List.mem_range,Bool.and_eq_true]
theorem gU {n m:Nat} {P:Nat ->Int×Int} (hn:n <= 64) (hin:dz n m P):∀(k:Nat) (x y:Nat),k <= n ->x<n ->(ck m P k x y=true↔B (ff n (jq n P m) k) x y)
 |0,x,y,_,hx=>by
  rw [ck,Ck];show _↔B (jq n P m) x y;rw [AJ hn hin m (Nat.le_refl _)];constructor
  ·rintro (rfl|h)
   ·exact .inl ⟨hx,rfl⟩
   ·exact .inr h
  ·rintro (⟨_,rfl⟩|h)
   ·exact .inl rfl
   ·exact .inr h
 |k+1,x,y,hk,hx=>by
  have hs:=mm hn m m (Nat.le_refl _) hin;show gk k (ck m P k) x y=true↔B (mT k (ff n (jq n P m) k) n) x y;rw [sL (fU hs k) k n (Nat.le_refl _)];unfold gk;rw [Bool.or_eq_true,Bool.and_eq_true,gU hn hin k x y (by omega) hx,gU hn hin k x k (by omega) hx,gU hn hin k k y (by omega) (by omega)];constructor
  ·rintro (h|h)
   ·exact .inl h
   ·exact .inr ⟨hx,h⟩
  ·rintro (h|⟨_,h⟩)
   ·exact .inl h
   ·exact .inr h
theorem gr {n m:Nat} {P:Nat ->Int×Int} (hn:n <= 64) (hin:dz n m P) {x y:Nat} (hx:x<n):ck m P n x y=true↔Le m P x y:=by
 rw [gU hn hin n x y (Nat.le_refl _) hx];exact jF hn hin hx
def iu (k:Nat) (R:Nat ->Nat ->Bool) (a b x y:Nat):Bool:=if x<a∨(x=a∧y<b)then gk k R x y else R x y
theorem BO (k:Nat) (R:Nat ->Nat ->Bool) (x y:Nat):iu k R 0 0 x y=R x y:=if_neg (by omega)
theorem BN (k:Nat) (R:Nat ->Nat ->Bool) (a b:Nat):iu k R a b a b=R a b:=if_neg (by omega)
theorem Ef (k:Nat) (R:Nat ->Nat ->Bool) (a b:Nat):iu k R a b a k=R a k:=by
 unfold iu gk;split
 ·cases R a k<;>simp
 ·rfl
theorem Eg (k:Nat) (R:Nat ->Nat ->Bool) (a b:Nat):iu k R a b k b=R k b:=by
 unfold iu gk;split
 ·cases R k b<;>simp
 ·rfl
theorem DB (k:Nat) (R:Nat ->Nat ->Bool) (a n x y:Nat) (hy:y<n):iu k R a n x y=iu k R (a+1) 0 x y:=by
 unfold iu;by_cases h:x<a∨(x=a∧y<n)
 ·rw [if_pos h,if_pos (by omega)]
 ·rw [if_neg h,if_neg (by omega)]
theorem Dz (k:Nat) (R:Nat ->Nat ->Bool) (n x y:Nat) (hx:x<n):iu k R n 0 x y=gk k R x y:=if_pos (Or.inl hx)
theorem DA (k:Nat) (R:Nat ->Nat ->Bool) (a b x y:Nat):iu k R a (b+1) x y=if x=a∧y=b then gk k R a b else iu k R a b x y:=by
 unfold iu;by_cases h:x=a∧y=b
 ·obtain ⟨rfl,rfl⟩:=h;rw [if_pos (by omega),if_pos ⟨rfl,rfl⟩]
 ·rw [if_neg h];by_cases h2:x<a∨(x=a∧y<b)
  ·rw [if_pos h2,if_pos (by omega)]
  ·rw [if_neg h2,if_neg (by omega)]
def ir (R:Nat ->Nat ->Bool) (up:Bool) (x y:Nat):Bool:=if up then R x y else R y x
def wj (R:Nat ->Nat ->Bool) (n a b:Nat) (up:Bool):List Nat:=(List.range n).filter fun x=>ir R up a x&&ir R up b x
def qj (l:List Nat) (R:Nat ->Nat ->Bool) (up:Bool):Option Nat:=l.find? fun x=>l.all fun y=>ir R up x y
def EU:Option Nat ->Int
 |some x=>x
 |none=> -1
def cg (R:Nat ->Nat ->Bool) (n a b:Nat) (up:Bool):Int:=EU (qj (wj R n a b up) R up)
theorem ji {n:Nat} {U:List Nat} {Rp:Nat ->Nat ->Prop} (s:pI n U Rp) {R:Nat ->Nat ->Bool} {up:Bool} (hR:∀x y,x<n ->y<n ->(ir R up x y=true↔Rp x y)) {a b:Nat} (ha:a<n) (hb:b<n):
  cg R n a b up=bK n U a b:=by
 have hm:∀x,x∈wj R n a b up↔x<n∧Rp a x∧Rp b x:=fun x=>by
  unfold wj;rw [List.mem_filter,List.mem_range,Bool.and_eq_true];constructor
  ·rintro ⟨h1,h2,h3⟩;exact ⟨h1,(hR a x ha h1).1 h2,(hR b x hb h1).1 h3⟩
  ·rintro ⟨h1,h2,h3⟩;exact ⟨h1,(hR a x ha h1).2 h2,(hR b x hb h1).2 h3⟩
 unfold cg qj;cases hf:(wj R n a b up).find? (fun x=>(wj R n a b up).all fun y=>ir R up x y)with
 |some x=>
  have hx:=(hm x).1 (List.mem_of_find?_eq_some hf);have hall:=List.find?_some hf;simp only [List.all_eq_true]at hall;exact (s.join ha hb hx.1 hx.2.1 hx.2.2 fun y hy h1 h2=>(hR x y hx.1 hy).1 (hall y ((hm y).2 ⟨hy,h1,h2⟩))).symm
 |none=>
  have hno:=List.find?_eq_none.1 hf;by_cases hj:0 <= bK n U a b
  ·exfalso;obtain ⟨j0,j1,j2,j3⟩:=qh hj;have r1:=(s.bit _ _ ha).1 j1;have r2:=(s.bit _ _ hb).1 j2;refine hno _ ((hm _).2 ⟨j0,r1.2,r2.2⟩) ?_;simp only [List.all_eq_true];intro y hy;obtain ⟨h1,h2,h3⟩:=(hm y).1 hy;exact (hR _ y j0 h1).2 ((s.bit _ _ j0).1 ((j3 y).2 ⟨(s.bit _ _ ha).2 ⟨h1,h2⟩,(s.bit _ _ hb).2 ⟨h1,h3⟩⟩)).2
  ·have:=(l7 (fun c=>U.getD c 0) (U.getD a 0 &&& U.getD b 0) n).1;have h2: -1 <= bK n U a b:=this;show (-1:Int)=_;omega
structure rq (w:World) (p n:Nat) (R:Nat ->Nat ->Bool):Prop where
 num:w.cell? ⟨p,0,none⟩=some (.int .i64 n)
 rows:∃bo c,w.cell? ⟨p,1,none⟩=some (.slice (some ⟨bo,0,none⟩) n c)∧∀a,a<n ->∃br cr,w.cell? ⟨bo,a,none⟩=some (.slice (some ⟨br,0,none⟩) n cr)∧∀b,b<n ->w.cell? ⟨br,b,none⟩=some (.bool (R a b))
theorem rq.below {w w':World} {p n:Nat} {R:Nat ->Nat ->Bool} (h:rq w p n R) (hb:Below w.heap.size w w'):rq w' p n R:=by
 have kp:∀{a:Addr} {v:Value},w.cell? a=some v ->w'.cell? a=some v:=fun {a v} hc=>(hb.cell (World.block_lt_of_cell? _ _ hc)).trans hc;obtain ⟨bo,c,h1,h2⟩:=h.rows;refine ⟨kp h.num,bo,c,kp h1,fun a ha=>?_⟩;obtain ⟨br,cr,h3,h4⟩:=h2 a ha;exact ⟨br,cr,kp h3,fun b hb'=>kp (h4 b hb')⟩
def eu (R:Nat ->Nat ->Bool) (a b:Nat) (up:Bool) (k:Nat):List Nat:=wj R k a b up
theorem pU (R:Nat ->Nat ->Bool) (a b:Nat) (up:Bool) (k:Nat):eu R a b up (k+1)=eu R a b up k++if (ir R up a k&&ir R up b k)=true then [k]else []:=by
 unfold eu wj;rw [List.range_succ,List.filter_append];congr 1;by_cases h:(ir R up a k&&ir R up b k)=true
 ·rw [if_pos h,List.filter_cons,if_pos h];rfl
 ·rw [if_neg h,List.filter_cons,if_neg h];rfl
theorem Bc (R:Nat ->Nat ->Bool) (a b:Nat) (up:Bool) (k:Nat):∀x∈eu R a b up k,x<k:=fun x hx=>List.mem_range.1 (List.mem_filter.1 hx).1
theorem nQ (R:Nat ->Nat ->Bool) (a b:Nat) (up:Bool) (k:Nat):(eu R a b up k).length <= k:=by
 have:=List.length_filter_le (fun x=>ir R up a x&&ir R up b x) (List.range k);rw [List.length_range]at this;exact this
def nW (l:List Nat):List Value:=l.map fun (x:Nat)=>Value.int .i64 (x:Int)
theorem nk {w:World} {base:Nat} {e:TypeId} {v:Value} {n:Nat} {xs:List Value} (h:w.ownsRow base e 1 v n xs):∃ao c,v=.slice ao n c∧(0<n ->∃g,ao=some ⟨g,0,none⟩∧∀j u,xs[j]? =some u ->w.cell? ⟨g,j,none⟩=some u):=by
 rcases h.2 with ⟨rfl,rfl⟩|⟨g,cap,cur,rfl,hb,hg,r⟩
 ·exact ⟨none,0,rfl,fun h=>absurd h (by omega)⟩
 ·refine ⟨_,cap,rfl,fun _=>⟨g,rfl,fun j u hu=>?_⟩⟩;have:=World.ownsRow.cells h rfl j u hu;have e:(⟨g,0,none⟩:Addr).add j=⟨g,j,none⟩:=(by unfold Addr.add;split<;>simp_all);rw [e]at this;exact this
theorem rX (p:Nat ->Bool):∀(l:List Nat) (i x:Nat),l[i]? =some x ->(∀j y,j<i ->l[j]? =some y ->p y=false) ->p x=true ->l.find? p=some x
 |[],i,x,h,_,_=>by simp at h
 |y::l,0,x,h,_,hp=>by simp at h;subst h;rw [List.find?_cons,hp]
 |y::l,i+1,x,h,hno,hp=>by
  rw [List.find?_cons,hno 0 y (by omega) rfl];exact rX p l i x (by simpa using h) (fun j z hj hz=>hno (j+1) z (by omega) (by simpa using hz)) hp
def jN (R:Nat ->Nat ->Bool) (up:Bool) (l:List Nat) (x j:Nat):Bool:=(l.take j).all fun y=>ir R up x y
theorem vT (R:Nat ->Nat ->Bool) (up:Bool) (l:List Nat) (x j y:Nat) (h:l[j]? =some y):jN R up l x (j+1)=(jN R up l x j&&ir R up x y):=by
 obtain ⟨hlt,he⟩:=List.getElem?_eq_some_iff.1 h;unfold jN;rw [List.take_succ_eq_append_getElem hlt,List.all_append,he];simp
theorem dP {B:Nat} {a w:World} (h:Below B a w) (n:Nat):Below B a (w.drewN n):=⟨h.os,h.tape,h.output,h.size,h.block⟩
theorem rV (p n a b:Nat) (R:Nat ->Nat ->Bool) (up:Bool) (w:World) (hn:n <= 64) (ha:a<n) (hb:b<n) (h:rq w p n R):
  Calls Tryz.prog 87 #[.pointer (some ⟨p,0,none⟩),.int .i64 a,.int .i64 b,.bool up] w fun e w'=>e=.returned (.int .i64 (cg R n a b up))∧Below w.heap.size w w':=by
 have HH:=Lib.hid h;clear h;go_enter Tryz.func87,Tryz.ntmps87
 go_wp2_with fail;go_loopw [9,10] (fun u9 u10 wr=>∃x:Nat,x <= n∧u10=.int .i64 x∧wr.ownsRow w.heap.size 3 1 u9 (eu R a b up x).length (nW (eu R a b up x))∧Below w.heap.size w wr) (fun _ u10 _=>n - (intOf u10).toNat)
 case atStart=>exact ⟨0,Nat.zero_le _,rfl,(show World.ownsRow w w.heap.size 3 1 (.slice none 0 0) 0 []from World.ownsRow_nil _ _ _ _),Below.refl _ _⟩
 case round=>
  obtain ⟨x,hx,rfl,hown,hB⟩:=hrel;have hr:=HH.out.below hB;have p0:=hr.num;obtain ⟨bo,c,p1,hrows⟩:=hr.rows;have HR:=Lib.hid hrows;have HO:=Lib.hid hown;clear hr hrows hown;by_cases hxn:x<n
  ·obtain ⟨bx,cx,x1,x2⟩:=HR.out x hxn;obtain ⟨ba,ca,a1,a2⟩:=HR.out a ha;obtain ⟨bb,cb,b1,b2⟩:=HR.out b hb;have xa:=x2 a ha;have xb:=x2 b hb;have ax:=a2 x hxn;have bx':=b2 x hxn;clear x2 a2 b2;cases up
   ·obtain ⟨q1,he1⟩:∃q,R x a=q:=⟨_,rfl⟩
    obtain ⟨q2,he2⟩:∃q,R x b=q:=⟨_,rfl⟩
    rw [he1]at xa;rw [he2]at xb;have hc0:=pU R a b false x;rw [show ir R false a x=R x a from rfl,show ir R false b x=R x b from rfl,he1,he2]at hc0;cases q1
    ·have HC:=Lib.hid (show eu R a b false (x+1)=eu R a b false x by rw [hc0];simp);clear hc0 he1 he2;go_wp2_with fail;go_roundw;case rel=>exact ⟨x+1,by omega,by go_num,by rw [HC.out];exact HO.out,hB⟩
     case measure=>simp [intOf];omega
    ·cases q2
     ·have HC:=Lib.hid (show eu R a b false (x+1)=eu R a b false x by rw [hc0];simp);clear hc0 he1 he2;go_wp2_with fail;go_roundw;case rel=>exact ⟨x+1,by omega,by go_num,by rw [HC.out];exact HO.out,hB⟩
      case measure=>simp [intOf];omega
     ·have HC:=Lib.hid (show eu R a b false (x+1)=eu R a b false x++[x] by rw [hc0];simp);clear hc0 he1 he2;have hown1:=HO.out.alloc (.cells #[.int .i64 (x:Int)] 3);have hcl:=nQ R a b false x;obtain ⟨j0,hj,hy0,hy1,hy2⟩:=info_parts Tryz.infoInt;have HOW:=Lib.hid hown1;clear hown1
      go_wp2_with (first
       |(at_builtin;refine wpList_append_own _ rfl _ _ 107 rfl w.heap.size 3 j0 (.int .i64 0) 1 8 Tryz.underlying107 hj hy0 hy1 hy2 rfl (by decide) _ _ _ rfl HOW.out ⟨wr.heap.size,0,none⟩ 1 1 [.int .i64 (x:Int)] rfl rfl (nj wr _ _) (by intro u hu;simp at hu;subst hu;rfl) (by unfold maxLen;omega) (by omega) (by have:=hB.size;simp;omega) ?_))
      intro v' w2 hown' hgrow _;have hB2:=(hB.alloc hB.size (.cells #[.int .i64 (x:Int)] 3)).grown hgrow (by have:=hB.size;simp;omega) (fun j hj=>(HOW.out.lt j hj).1);have HN:=Lib.hid (And.intro (show World.ownsRow w2 w.heap.size 3 1 v' (eu R a b false (x+1)).length (nW (eu R a b false (x+1))) by
       rw [HC.out,List.length_append];unfold nW at*;rw [List.map_append];exact hown') hB2)
      clear hown' hgrow hB2;go_wp2_with fail;go_roundw;case rel=>exact ⟨x+1,by omega,by go_num,HN.out.1,HN.out.2⟩
      case measure=>simp [intOf];omega
   ·obtain ⟨q1,he1⟩:∃q,R a x=q:=⟨_,rfl⟩
    obtain ⟨q2,he2⟩:∃q,R b x=q:=⟨_,rfl⟩
    rw [he1]at ax;rw [he2]at bx';have hc0:=pU R a b true x;rw [show ir R true a x=R a x from rfl,show ir R true b x=R b x from rfl,he1,he2]at hc0;cases q1
    ·have HC:=Lib.hid (show eu R a b true (x+1)=eu R a b true x by rw [hc0];simp);clear hc0 he1 he2;go_wp2_with fail;go_roundw;case rel=>exact ⟨x+1,by omega,by go_num,by rw [HC.out];exact HO.out,hB⟩
     case measure=>simp [intOf];omega
    ·cases q2
     ·have HC:=Lib.hid (show eu R a b true (x+1)=eu R a b true x by rw [hc0];simp);clear hc0 he1 he2;go_wp2_with fail;go_roundw;case rel=>exact ⟨x+1,by omega,by go_num,by rw [HC.out];exact HO.out,hB⟩
      case measure=>simp [intOf];omega
     ·have HC:=Lib.hid (show eu R a b true (x+1)=eu R a b true x++[x] by rw [hc0];simp);clear hc0 he1 he2;have hown1:=HO.out.alloc (.cells #[.int .i64 (x:Int)] 3);have hcl:=nQ R a b true x;obtain ⟨j0,hj,hy0,hy1,hy2⟩:=info_parts Tryz.infoInt;have HOW:=Lib.hid hown1;clear hown1
      go_wp2_with (first
       |(at_builtin;refine wpList_append_own _ rfl _ _ 107 rfl w.heap.size 3 j0 (.int .i64 0) 1 8 Tryz.underlying107 hj hy0 hy1 hy2 rfl (by decide) _ _ _ rfl HOW.out ⟨wr.heap.size,0,none⟩ 1 1 [.int .i64 (x:Int)] rfl rfl (nj wr _ _) (by intro u hu;simp at hu;subst hu;rfl) (by unfold maxLen;omega) (by omega) (by have:=hB.size;simp;omega) ?_))
      intro v' w2 hown' hgrow _;have hB2:=(hB.alloc hB.size (.cells #[.int .i64 (x:Int)] 3)).grown hgrow (by have:=hB.size;simp;omega) (fun j hj=>(HOW.out.lt j hj).1);have HN:=Lib.hid (And.intro (show World.ownsRow w2 w.heap.size 3 1 v' (eu R a b true (x+1)).length (nW (eu R a b true (x+1))) by
       rw [HC.out,List.length_append];unfold nW at*;rw [List.map_append];exact hown') hB2)
      clear hown' hgrow hB2;go_wp2_with fail;go_roundw;case rel=>exact ⟨x+1,by omega,by go_num,HN.out.1,HN.out.2⟩
      case measure=>simp [intOf];omega
  ·obtain rfl:x=n:=(by omega);obtain ⟨ao,cl,hv,hcells⟩:=nk HO.out;subst hv;have hlt:=Bc R a b up x;have hlen:=nQ R a b up x;obtain ⟨l,hl⟩:∃l,eu R a b up x=l:=⟨_,rfl⟩
   have HF:=Lib.hid (show cg R x a b up=EU (qj l R up) by rw [<- hl];rfl);rw [hl]at hcells hlt hlen⊢;have HC:=Lib.hid (fun (j y:Nat) (hy:l[j]? =some y)=>by
    have hj:j<l.length:=(List.getElem?_eq_some_iff.1 hy).1;obtain ⟨g,hg,hc⟩:=hcells (by omega);exact (show∃g,ao=some ⟨g,0,none⟩∧wr.cell? ⟨g,j,none⟩=some (.int .i64 (y:Int))from ⟨g,hg,hc j _ (by unfold nW;rw [List.getElem?_map,hy];rfl)⟩))
   have HLT:=Lib.hid hlt;clear hcells hlt HO hl;go_wp2_with fail;have HRW:=Lib.hid (HH.out.below hB);clear p0 p1;go_loopw [11] (fun u11 w2=>∃i:Nat,i <= l.length∧u11=.int .i64 i∧(∀j y,j<i ->l[j]? =some y ->jN R up l y l.length=false)∧Below wr.heap.size wr w2) (fun u11 _=>l.length - (intOf u11).toNat)
   case atStart=>exact ⟨0,Nat.zero_le _,rfl,(fun j y hj _=>absurd hj (by omega)),Below.refl _ _⟩
   case round=>
    rename World=>W2
    obtain ⟨i,hi,rfl,hno,hb1⟩:=hrel;have HNO:=Lib.hid hno;clear hno;by_cases hil:i<l.length
    ·obtain ⟨x1,hx1⟩:∃y,l[i]? =some y:=⟨l[i],by simp [hil]⟩
     obtain ⟨g,hg,ci0⟩:=HC.out i x1 hx1;subst hg;have hx1n:=HLT.out x1 (List.mem_of_getElem? hx1);have HX1:=Lib.hid hx1;have hgl:g<wr.heap.size:=World.block_lt_of_cell? _ _ ci0;clear hx1;go_wp2_with fail;go_loopw [12,13] (fun u12 u13 wq=>∃j:Nat,j <= l.length∧u13=.int .i64 j∧u12=.bool (jN R up l x1 j)∧Below wr.heap.size wr wq) (fun _ u13 _=>l.length - (intOf u13).toNat)
     case atStart=>exact ⟨0,Nat.zero_le _,rfl,rfl,hb1⟩
     case round=>
      rename World=>wq
      obtain ⟨j,hj,rfl,rfl,hb2⟩:=hrel;have ci:=(hb2.cell (p:=⟨g,i,none⟩) hgl).trans ci0;by_cases hjl:j<l.length
      ·obtain ⟨y,hy⟩:∃y,l[j]? =some y:=⟨l[j],by simp [hjl]⟩
       obtain ⟨g2,hg2,cj0⟩:=HC.out j y hy;injection hg2 with hg2;injection hg2 with hg2;subst hg2;have hyn:=HLT.out y (List.mem_of_getElem? hy);have cj:=(hb2.cell (p:=⟨g,j,none⟩) hgl).trans cj0;have hst:=vT R up l x1 j y hy;have hr2:=HRW.out.below hb2;have p0:=hr2.num;obtain ⟨bo2,c2,p1,hrows⟩:=hr2.rows;obtain ⟨bx,cx,x1a,x1b⟩:=hrows x1 hx1n;obtain ⟨by_,cy,y1a,y1b⟩:=hrows y hyn;have xy:=x1b y hyn;have yx:=y1b x1 hx1n;clear hr2 hrows x1b y1b hy cj0;obtain ⟨ok,hq⟩:∃b,jN R up l x1 j=b:=⟨_,rfl⟩
       rw [hq]at hst⊢;cases ok
       ·rw [Bool.false_and]at hst;have HS:=Lib.hid hst;clear hst hq;go_wp2_with fail;go_quiet (fail)
        go_wp2_with fail;go_roundw;case rel=>exact ⟨j+1,by omega,by go_num,by rw [HS.out],dP hb2 nq⟩
        case measure=>simp [intOf];omega
       ·rw [Bool.true_and]at hst;cases up
        ·obtain ⟨q,hr⟩:∃b,R y x1=b:=⟨_,rfl⟩
         rw [show ir R false x1 y=R y x1 from rfl,hr]at hst;rw [hr]at yx;clear hr;cases q
         ·have HS:=Lib.hid hst;clear hst hq;go_wp2_with fail;go_quiet (fail)
          go_wp2_with fail;go_roundw;case rel=>exact ⟨j+1,by omega,by go_num,by rw [HS.out],dP hb2 nq⟩
          case measure=>simp [intOf];omega
         ·have HS:=Lib.hid hst;clear hst hq;go_wp2_with fail;go_quiet (fail)
          go_wp2_with fail;go_roundw;case rel=>exact ⟨j+1,by omega,by go_num,by rw [HS.out],dP hb2 nq⟩
          case measure=>simp [intOf];omega
        ·obtain ⟨q,hr⟩:∃b,R x1 y=b:=⟨_,rfl⟩
         rw [show ir R true x1 y=R x1 y from rfl,hr]at hst;rw [hr]at xy;clear hr;cases q
         ·have HS:=Lib.hid hst;clear hst hq;go_wp2_with fail;go_quiet (fail)
          go_wp2_with fail;go_roundw;case rel=>exact ⟨j+1,by omega,by go_num,by rw [HS.out],dP hb2 nq⟩
          case measure=>simp [intOf];omega
         ·have HS:=Lib.hid hst;clear hst hq;go_wp2_with fail;go_quiet (fail)
          go_wp2_with fail;go_roundw;case rel=>exact ⟨j+1,by omega,by go_num,by rw [HS.out],dP hb2 nq⟩
          case measure=>simp [intOf];omega
      ·obtain rfl:j=l.length:=(by omega);obtain ⟨ok,hq⟩:∃b,jN R up l x1 l.length=b:=⟨_,rfl⟩
       rw [hq];cases ok
       ·have HQ:=Lib.hid (show∀j y,j<i+1 ->l[j]? =some y ->jN R up l y l.length=false from fun j y hj hy=>by
         by_cases e:j=i
         ·subst e;have:=HX1.out;rw [hy]at this;obtain rfl:=Option.some.inj this;exact hq
         ·exact HNO.out j y (by omega) hy)
        clear hq;go_wp2_with fail;go_roundw;case rel=>exact ⟨i+1,by omega,by go_num,HQ.out,hb2⟩
        case measure=>simp [intOf];omega
       ·have HQ:=Lib.hid (show cg R x a b up=x1 by
         rw [HF.out];unfold qj;rw [rX _ l i x1 HX1.out (fun j y hj hy=>by
          have:=HNO.out j y hj hy;unfold jN at this;rw [List.take_length]at this;exact this) (by
          unfold jN at hq;rw [List.take_length]at hq;exact hq)]
         rfl)
        clear hq;go_wp2_with fail;go_ret;exact ⟨by rw [HQ.out];rfl,hB.trans (hb2.mono hB.size)⟩
    ·obtain rfl:i=l.length:=(by omega);have HQ:=Lib.hid (show cg R x a b up= -1 by
      rw [HF.out];unfold qj;rw [List.find?_eq_none.2 fun z hz=>by
       obtain ⟨j,hj,rfl⟩:=List.mem_iff_getElem.1 hz;have:=HNO.out j l[j] hj (by simp [hj]);unfold jN at this;rw [List.take_length]at this;rw [this];simp]
      rfl)
     go_wp2_with fail;go_ret;exact ⟨by rw [HQ.out];rfl,hB.trans (hb1.mono hB.size)⟩
def ej (n:Nat) (f:Nat ->Value):Array Value:=((List.range n).map f).toArray
theorem DN {n b:Nat} {f:Nat ->Value} (h:b<n):(ej n f)[b]? =some (f b):=by simp [ej,h]
theorem Cr (n b:Nat) (f:Nat ->Value) (x:Value):(ej n f).setIfInBounds b x=ej n (fun y=>if y=b then x else f y):=by
 apply Array.ext';unfold ej;simp only [List.setIfInBounds_toArray];apply List.ext_getElem?;intro i;rw [List.getElem?_set];simp only [List.length_map,List.length_range,List.getElem?_map];by_cases hi:i<n
 ·rw [List.getElem?_range hi];by_cases e:b=i
  ·subst e;simp [hi]
  ·rw [if_neg e];simp [show¬i=b from fun h=>e h.symm]
 ·rw [List.getElem?_eq_none (l:=List.range n) (by simp;omega)];by_cases e:b=i
  ·subst e;simp [hi]
  ·rw [if_neg e];rfl
theorem xp {n:Nat} {f g:Nat ->Value} (h:∀b,b<n ->f b=g b):ej n f=ej n g:=by
 unfold ej;congr 1;apply List.map_congr_left;intro b hb;exact h b (List.mem_range.1 hb)
theorem bH {w:World} {base:Nat} {e T:TypeId} {size n P:Nat} {v:Value} {xs:List Value} {cs:Array Value} (h:w.ownsRow base e size v n xs) (hP:w.heap[P]? =some (.cells cs T (0,0))) (he:e≠T):v.ownBlock≠some P:=by
 intro h0;rcases h.2 with ⟨rfl,_⟩|⟨g,cap,cur,rfl,_,hg,_⟩
 ·simp [Value.ownBlock]at h0
 ·simp [Value.ownBlock]at h0;subst h0;rw [hg]at hP;simp at hP;exact he hP.2
theorem bV {w:World} {a b:Nat} {c1 c2:Array Value} {e1 e2:TypeId} (h1:w.heap[a]? =some (.cells c1 e1 (0,0))) (h2:w.heap[b]? =some (.cells c2 e2 (0,0))) (he:e1≠e2):a≠b:=by
 rintro rfl;rw [h1]at h2;simp at h2;exact he h2.2
theorem yo {w w':World} {base:Nat} {e:TypeId} {size:Nat} {v:Value} {n:Nat} {xs:List Value} (h:w.ownsRow base e size v n xs) (hk:∀j,v.ownBlock=some j ->w'.heap[j]? =w.heap[j]?):w'.ownsRow base e size v n xs:=by
 refine ⟨h.1,?_⟩;rcases h.2 with h2|⟨g,cap,cur,hv,hb,hg,r⟩
 ·exact Or.inl h2
 ·refine Or.inr ⟨g,cap,cur,hv,hb,?_,r⟩;rw [hk g (by rw [hv];rfl),hg]
theorem jU {w:World} {b i:Nat} {cs:Array Value} {e:TypeId} {u:Value} (h:w.heap[b]? =some (.cells cs e (0,0))) (hi:cs[i]? =some u):w.cell? ⟨b,i,none⟩=some u:=by
 simp [World.cell?,h,hi]
theorem j9 {w:World} {b:Nat} (i:Nat) {cs:Array Value} {e:TypeId} (h:w.heap[b]? =some (.cells cs e (0,0))):w.frozen? ⟨b,i,none⟩=false:=by
 simp [World.frozen?,h]
def dw (r:Nat ->Nat) (n k:Nat):List Value:=(List.range k).map fun a=>.slice (some ⟨r a,0,none⟩) n n
structure Mx (w:World) (B n k:Nat) (v:Value) (eo ei:TypeId) (r:Nat ->Nat) (F:Nat ->Nat ->Value):Prop where
 own:w.ownsRow B eo 1 v k (dw r n k)
 row:∀a,a<k ->w.heap[r a]? =some (.cells (ej n (F a)) ei (0,0))∧B <= r a
 inj:∀a a',a<k ->a'<k ->r a=r a' ->a=a'
section
variable {w w':World} {B n k:Nat} {v:Value} {eo ei:TypeId} {r:Nat ->Nat} {F:Nat ->Nat ->Value}
theorem Mx.lt (h:Mx w B n k v eo ei r F) {a:Nat} (ha:a<k):r a<w.heap.size:=(Array.getElem?_eq_some_iff.1 (h.row a ha).1).1
theorem Mx.ownLt (h:Mx w B n k v eo ei r F) {g:Nat} (hg:v.ownBlock=some g):B <= g∧g<w.heap.size:=h.own.lt g hg
theorem Mx.kept (h:Mx w B n k v eo ei r F) (hk:∀j,v.ownBlock=some j ->w'.heap[j]? =w.heap[j]?) (hr:∀a,a<k ->w'.heap[r a]? =w.heap[r a]?):Mx w' B n k v eo ei r F:=
 ⟨yo h.own hk,fun a ha=>⟨(hr a ha).trans (h.row a ha).1,(h.row a ha).2⟩,h.inj⟩
theorem Mx.below (h:Mx w B n k v eo ei r F) (hb:∀j,j<w.heap.size ->w'.heap[j]? =w.heap[j]?):Mx w' B n k v eo ei r F:=
 h.kept (fun j hj=>hb j (h.ownLt hj).2) fun a ha=>hb _ (h.lt ha)
theorem Mx.other (h:Mx w B n k v eo ei r F) (p:Addr) (x:Value) (h1:v.ownBlock≠some p.block) (h2:∀a,a<k ->r a≠p.block):Mx (w.setCell p x) B n k v eo ei r F:=
 h.kept (fun j hj=>Below.heap_setCell _ _ _ _ (fun e=>h1 (by rw [hj,e]))) fun a ha=>Below.heap_setCell _ _ _ _ (h2 a ha)
theorem Mx.set (h:Mx w B n k v eo ei r F) (he:eo≠ei) {a b:Nat} (ha:a<k) (x:Value):Mx (w.setCell ⟨r a,b,none⟩ x) B n k v eo ei r (fun c d=>if c=a∧d=b then x else F c d):=by
 have hra:=(h.row a ha).1;have hne:v.ownBlock≠some (r a):=bH h.own hra he;refine ⟨yo h.own fun j hj=>Below.heap_setCell _ _ _ _ (fun e=>hne (by rw [hj,e])),fun c hc=>⟨?_,(h.row c hc).2⟩,h.inj⟩;by_cases e:c=a
 ·subst e;have:(w.setCell ⟨r c,b,none⟩ x).heap[r c]? =some (.cells ((ej n (F c)).setIfInBounds b x) ei (0,0)):=by
   simp [World.setCell,Array.getElem?_modify,hra]
  rw [this,Cr];congr 3;funext d;simp
 ·rw [Below.heap_setCell _ _ _ _ (fun e2=>e (h.inj c a hc ha e2)),(h.row c hc).1];congr 3;funext d;simp [e]
theorem Mx.congr (h:Mx w B n k v eo ei r F) {G:Nat ->Nat ->Value} (hg:∀a b,a<k ->b<n ->F a b=G a b):Mx w B n k v eo ei r G:=
 ⟨h.own,fun a ha=>⟨by rw [(h.row a ha).1,xp fun b hb=>hg a b ha hb],(h.row a ha).2⟩,h.inj⟩
theorem Ai (r:Nat ->Nat) (n k a:Nat) (ha:a<k):(dw r n k)[a]? =some (.slice (some ⟨r a,0,none⟩) n n):=by simp [dw,ha]
theorem Mx.cells (h:Mx w B n k v eo ei r F) (h0:0<k):∃bo c,v=.slice (some ⟨bo,0,none⟩) k c∧∀a,a<k ->w.cell? ⟨bo,a,none⟩=some (.slice (some ⟨r a,0,none⟩) n n)∧w.frozen? ⟨r a,0,none⟩=false∧∀b,b<n ->w.cell? ⟨r a,b,none⟩=some (F a b):=by
 obtain ⟨ao,c,rfl,hc⟩:=nk h.own;obtain ⟨g,rfl,hg⟩:=hc h0;exact ⟨g,c,rfl,fun a ha=>⟨hg a _ (Ai r n k a ha),j9 0 (h.row a ha).1,fun b hb=>jU (h.row a ha).1 (DN hb)⟩⟩
theorem Mx.frozen (h:Mx w B n k v eo ei r F) {a:Nat} (ha:a<k) (b:Nat):w.frozen? ⟨r a,b,none⟩=false:=j9 b (h.row a ha).1
theorem Mx.push {w5:World} {v':Value} (h:Mx w B n k v eo ei r F) (he:eo≠ei) (hB:B <= w.heap.size) (f0:Nat ->Value) (lit:Obj)
  (hown:w5.ownsRow B eo 1 v' (k+1) (dw r n k++[.slice (some ⟨w.heap.size,0,none⟩) n n])) (hg:((w.alloc (.cells (ej n f0) ei)).alloc lit).grownBy w5 v.ownBlock):
  Mx w5 B n (k+1) v' eo ei (fun x=>if x=k then w.heap.size else r x) (fun x=>if x=k then f0 else F x):=by
 have hH:((w.alloc (.cells (ej n f0) ei)).alloc lit).heap[w.heap.size]? =some (.cells (ej n f0) ei (0,0)):=by
  rw [Below.heap_alloc _ _ _ (by simp)];exact heap_alloc_new w _
 refine ⟨?_,fun a ha=>?_,fun a a' ha ha' e=>?_⟩
 ·have:dw (fun x=>if x=k then w.heap.size else r x) n (k+1)=dw r n k++[.slice (some ⟨w.heap.size,0,none⟩) n n]:=by
   unfold dw;rw [List.range_succ,List.map_append];congr 1
   ·apply List.map_congr_left;intro a ha;have:=List.mem_range.1 ha;simp only [if_neg (show¬a=k by omega)]
   ·simp
  rw [this];exact hown
 ·by_cases e:a=k
  ·subst e;simp only [if_true];refine ⟨?_,hB⟩;rw [hg.block _ (by simp;omega) (fun e=>by have:=(h.ownLt e.symm).2;omega)];exact hH
  ·simp only [if_neg e];have hak:a<k:=(by omega);have hl:=h.lt hak;refine ⟨?_,(h.row a hak).2⟩;rw [hg.block _ (by simp;omega) (fun e=>bH h.own (h.row a hak).1 he e.symm),Below.heap_alloc _ _ _ (by simp;omega),Below.heap_alloc _ _ _ hl];exact (h.row a hak).1
 ·by_cases e1:a=k
  ·by_cases e2:a'=k
   ·omega
   ·simp only [if_pos e1,if_neg e2]at e;have:=h.lt (show a'<k by omega);omega
  ·by_cases e2:a'=k
   ·simp only [if_neg e1,if_pos e2]at e;have:=h.lt (show a<k by omega);omega
   ·simp only [if_neg e1,if_neg e2]at e;exact h.inj a a' (by omega) (by omega) e
end
structure ie (W0 w:World) (p n kL kJ kM:Nat) (vL vJ vM:Value) (rl rj rm:Nat ->Nat) (R:Nat ->Nat ->Bool) (J M:Nat ->Nat ->Int):Prop where
 below:Below W0.heap.size W0 w
 pn:W0.heap.size <= p
 par:w.heap[p]? =some (.cells #[.int .i64 n,vL,vJ,vM] 153 (0,0))
 mL:Mx w W0.heap.size n kL vL 154 4 rl (fun a b=>.bool (R a b))
 mJ:Mx w W0.heap.size n kJ vJ 107 3 rj (fun a b=>.int .i64 (J a b))
 mM:Mx w W0.heap.size n kM vM 107 3 rm (fun a b=>.int .i64 (M a b))
 sepO:∀g,vJ.ownBlock=some g ->vM.ownBlock≠some g
 sepR:∀a a',a<kJ ->a'<kM ->rj a≠rm a'
theorem jo {w:World} {base:Nat} {e:TypeId} {size:Nat} {v:Value} {n:Nat} {xs:List Value} (h:w.ownsRow base e size v n xs) {g:Nat} (hg:v.ownBlock=some g):∃cur,w.heap[g]? =some (.cells cur e (0,0)):=by
 rcases h.2 with ⟨rfl,_⟩|⟨g2,cap,cur,rfl,_,hh,_⟩
 ·simp [Value.ownBlock]at hg
 ·simp [Value.ownBlock]at hg;subst hg;exact ⟨cur,hh⟩
section
variable {W0 w w':World} {p n kL kJ kM:Nat} {vL vJ vM:Value} {rl rj rm:Nat ->Nat} {R:Nat ->Nat ->Bool} {J M:Nat ->Nat ->Int}
theorem ie.plt (h:ie W0 w p n kL kJ kM vL vJ vM rl rj rm R J M):p<w.heap.size:=(Array.getElem?_eq_some_iff.1 h.par).1
theorem ie.cells (h:ie W0 w p n kL kJ kM vL vJ vM rl rj rm R J M):w.cell? ⟨p,0,none⟩=some (.int .i64 n)∧w.cell? ⟨p,1,none⟩=some vL∧w.cell? ⟨p,2,none⟩=some vJ∧w.cell? ⟨p,3,none⟩=some vM:=
 ⟨jU h.par rfl,jU h.par rfl,jU h.par rfl,jU h.par rfl⟩
theorem ie.later (h:ie W0 w p n kL kJ kM vL vJ vM rl rj rm R J M) (hb:Below w.heap.size w w'):ie W0 w' p n kL kJ kM vL vJ vM rl rj rm R J M:=
 ⟨h.below.trans (hb.mono h.below.size),h.pn,(hb.block p h.plt).trans h.par,h.mL.below fun j hj=>hb.block j hj,h.mJ.below fun j hj=>hb.block j hj,h.mM.below fun j hj=>hb.block j hj,h.sepO,h.sepR⟩
theorem ie.congrR (h:ie W0 w p n kL kJ kM vL vJ vM rl rj rm R J M) {R':Nat ->Nat ->Bool} (hR:∀a b,a<kL ->b<n ->R a b=R' a b):ie W0 w p n kL kJ kM vL vJ vM rl rj rm R' J M:=
 ⟨h.below,h.pn,h.par,h.mL.congr (fun a b ha hb=>by rw [hR a b ha hb]),h.mJ,h.mM,h.sepO,h.sepR⟩
theorem ie.setL (h:ie W0 w p n kL kJ kM vL vJ vM rl rj rm R J M) {a:Nat} (b:Nat) (ha:a<kL) (x:Bool):
  ie W0 (w.setCell ⟨rl a,b,none⟩ (.bool x)) p n kL kJ kM vL vJ vM rl rj rm (fun c d=>if c=a∧d=b then x else R c d) J M:=by
 have hra:=h.mL.row a ha;refine ⟨h.below.setCell hra.2 _,h.pn,?_,?_,h.mJ.other _ _ (bH h.mJ.own hra.1 (by decide)) (fun c hc=>bV (h.mJ.row c hc).1 hra.1 (by decide)),h.mM.other _ _ (bH h.mM.own hra.1 (by decide)) (fun c hc=>bV (h.mM.row c hc).1 hra.1 (by decide)),h.sepO,h.sepR⟩
 ·rw [Below.heap_setCell _ _ _ _ (bV h.par hra.1 (by decide))];exact h.par
 ·refine (h.mL.set (by decide) (b:=b) ha (.bool x)).congr fun c d _ _=>?_;split<;>rfl
theorem ie.setJ (h:ie W0 w p n kL kJ kM vL vJ vM rl rj rm R J M) {a:Nat} (b:Nat) (ha:a<kJ) (x:Int):
  ie W0 (w.setCell ⟨rj a,b,none⟩ (.int .i64 x)) p n kL kJ kM vL vJ vM rl rj rm R (fun c d=>if c=a∧d=b then x else J c d) M:=by
 have hra:=h.mJ.row a ha;refine ⟨h.below.setCell hra.2 _,h.pn,?_,h.mL.other _ _ (bH h.mL.own hra.1 (by decide)) (fun c hc=>bV (h.mL.row c hc).1 hra.1 (by decide)),?_,h.mM.other _ _ (bH h.mM.own hra.1 (by decide)) (fun c hc=>(h.sepR a c ha hc).symm),h.sepO,h.sepR⟩
 ·rw [Below.heap_setCell _ _ _ _ (bV h.par hra.1 (by decide))];exact h.par
 ·refine (h.mJ.set (by decide) (b:=b) ha (.int .i64 x)).congr fun c d _ _=>?_;split<;>rfl
theorem ie.setM (h:ie W0 w p n kL kJ kM vL vJ vM rl rj rm R J M) {a:Nat} (b:Nat) (ha:a<kM) (x:Int):
  ie W0 (w.setCell ⟨rm a,b,none⟩ (.int .i64 x)) p n kL kJ kM vL vJ vM rl rj rm R J (fun c d=>if c=a∧d=b then x else M c d):=by
 have hra:=h.mM.row a ha;refine ⟨h.below.setCell hra.2 _,h.pn,?_,h.mL.other _ _ (bH h.mL.own hra.1 (by decide)) (fun c hc=>bV (h.mL.row c hc).1 hra.1 (by decide)),h.mJ.other _ _ (bH h.mJ.own hra.1 (by decide)) (fun c hc=>h.sepR c a hc ha),?_,h.sepO,h.sepR⟩
 ·rw [Below.heap_setCell _ _ _ _ (bV h.par hra.1 (by decide))];exact h.par
 ·refine (h.mM.set (by decide) (b:=b) ha (.int .i64 x)).congr fun c d _ _=>?_;split<;>rfl
theorem ie.readR (h:ie W0 w p n n kJ kM vL vJ vM rl rj rm R J M) (h0:0<n):rq w p n R:=by
 obtain ⟨bo,c,rfl,hc⟩:=h.mL.cells h0;exact ⟨h.cells.1,bo,c,h.cells.2.1,fun a ha=>⟨rl a,n,(hc a ha).1,fun b hb=>(hc a ha).2.2 b hb⟩⟩
theorem Mx.grown {w2 w5:World} {B n k m:Nat} {v u:Value} {eo ei e2:TypeId} {r:Nat ->Nat} {F:Nat ->Nat ->Value} {xs:List Value} (h:Mx w B n k v eo ei r F) (hw:∀j,j<w.heap.size ->w2.heap[j]? =w.heap[j]?) (hs:w.heap.size <= w2.heap.size)
  (hu:w.ownsRow B e2 1 u m xs) (hg:w2.grownBy w5 u.ownBlock) (h1:∀g,v.ownBlock=some g ->u.ownBlock≠some g) (he:e2≠ei):Mx w5 B n k v eo ei r F:=by
 refine h.kept (fun j hj=>?_) fun a ha=>?_
 ·have hl:=(h.ownLt hj).2;rw [hg.block j (by omega) (fun e=>h1 j hj e.symm),hw j hl]
 ·have hl:=h.lt ha;rw [hg.block _ (by omega) (fun e=>bH hu (h.row a ha).1 he e.symm),hw _ hl]
theorem ie.pushL {w5:World} {v':Value} (h:ie W0 w p n kL kJ kM vL vJ vM rl rj rm R J M) (lit:Obj)
  (hown:w5.ownsRow W0.heap.size 154 1 v' (kL+1) (dw rl n kL++[.slice (some ⟨w.heap.size,0,none⟩) n n])) (hg:((w.alloc (.cells (ej n fun _=>.bool false) 4)).alloc lit).grownBy w5 vL.ownBlock):
  ie W0 (w5.setCell ⟨p,1,none⟩ v') p n (kL+1) kJ kM v' vJ vM (fun x=>if x=kL then w.heap.size else rl x) rj rm (fun x y=>if x=kL then false else R x y) J M:=by
 have hw:∀j,j<w.heap.size ->((w.alloc (.cells (ej n fun _=>.bool false) 4)).alloc lit).heap[j]? =w.heap[j]? :=fun j hj=>by
  rw [Below.heap_alloc _ _ _ (by simp;omega),Below.heap_alloc _ _ _ hj]
 have hs:w.heap.size <= ((w.alloc (.cells (ej n fun _=>.bool false) 4)).alloc lit).heap.size:=(by simp;omega);have hB:=h.below.size;have hp5:w5.heap[p]? =some (.cells #[.int .i64 n,vL,vJ,vM] 153 (0,0)):=by
  rw [hg.block p (by have:=h.plt;omega) (fun e=>bH h.mL.own h.par (by decide) e.symm),hw p h.plt];exact h.par
 have hL:=h.mL.push (by decide) hB (fun _=>.bool false) lit hown hg;have hJ:=h.mJ.grown hw hs h.mL.own hg (fun g hg2 e=>by
  obtain ⟨c1,e1⟩:=jo h.mL.own e;exact bH h.mJ.own e1 (by decide) hg2) (by decide)
 have hM:=h.mM.grown hw hs h.mL.own hg (fun g hg2 e=>by
  obtain ⟨c1,e1⟩:=jo h.mL.own e;exact bH h.mM.own e1 (by decide) hg2) (by decide)
 have hb2:Below W0.heap.size W0 ((w.alloc (.cells (ej n fun _=>.bool false) 4)).alloc lit):=(h.below.alloc hB _).alloc (by simp;omega) _;refine ⟨(hb2.grown hg hb2.size (fun j hj=>(h.mL.ownLt hj).1)).setCell h.pn _,h.pn,?_,?_,hJ.other _ _ (bH hJ.own hp5 (by decide)) (fun c hc=>bV (hJ.row c hc).1 hp5 (by decide)),hM.other _ _ (bH hM.own hp5 (by decide)) (fun c hc=>bV (hM.row c hc).1 hp5 (by decide)),h.sepO,h.sepR⟩
 ·simp [World.setCell,Array.getElem?_modify,hp5]
 ·refine (hL.other ⟨p,1,none⟩ v' (bH hL.own hp5 (by decide)) (fun c hc=>bV (hL.row c hc).1 hp5 (by decide))).congr fun c d _ _=>?_;split<;>rfl
theorem ie.pushJ {w5:World} {v':Value} (h:ie W0 w p n kL kJ kM vL vJ vM rl rj rm R J M) (lit:Obj)
  (hown:w5.ownsRow W0.heap.size 107 1 v' (kJ+1) (dw rj n kJ++[.slice (some ⟨w.heap.size,0,none⟩) n n])) (hg:((w.alloc (.cells (ej n fun _=>.int .i64 0) 3)).alloc lit).grownBy w5 vJ.ownBlock)
  (hat:∀g,v'.ownBlock=some g ->vJ.ownBlock=some g∨w.heap.size <= g):
  ie W0 (w5.setCell ⟨p,2,none⟩ v') p n kL (kJ+1) kM vL v' vM rl (fun x=>if x=kJ then w.heap.size else rj x) rm R (fun x y=>if x=kJ then 0 else J x y) M:=by
 have hw:∀j,j<w.heap.size ->((w.alloc (.cells (ej n fun _=>.int .i64 0) 3)).alloc lit).heap[j]? =w.heap[j]? :=fun j hj=>by
  rw [Below.heap_alloc _ _ _ (by simp;omega),Below.heap_alloc _ _ _ hj]
 have hs:w.heap.size <= ((w.alloc (.cells (ej n fun _=>.int .i64 0) 3)).alloc lit).heap.size:=(by simp;omega);have hB:=h.below.size;have hp5:w5.heap[p]? =some (.cells #[.int .i64 n,vL,vJ,vM] 153 (0,0)):=by
  rw [hg.block p (by have:=h.plt;omega) (fun e=>bH h.mJ.own h.par (by decide) e.symm),hw p h.plt];exact h.par
 have hJ:=h.mJ.push (by decide) hB (fun _=>.int .i64 0) lit hown hg;have hL:=h.mL.grown hw hs h.mJ.own hg (fun g hg2 e=>by
  obtain ⟨c1,e1⟩:=jo h.mJ.own e;exact bH h.mL.own e1 (by decide) hg2) (by decide)
 have hM:=h.mM.grown hw hs h.mJ.own hg (fun g hg2 e=>h.sepO g e hg2) (by decide);have hb2:Below W0.heap.size W0 ((w.alloc (.cells (ej n fun _=>.int .i64 0) 3)).alloc lit):=(h.below.alloc hB _).alloc (by simp;omega) _;refine ⟨(hb2.grown hg hb2.size (fun j hj=>(h.mJ.ownLt hj).1)).setCell h.pn _,h.pn,?_,hL.other _ _ (bH hL.own hp5 (by decide)) (fun c hc=>bV (hL.row c hc).1 hp5 (by decide)),?_,hM.other _ _ (bH hM.own hp5 (by decide)) (fun c hc=>bV (hM.row c hc).1 hp5 (by decide)),fun g hg2 e=>?_,fun a a' ha ha'=>?_⟩
 ·simp [World.setCell,Array.getElem?_modify,hp5]
 ·refine (hJ.other ⟨p,2,none⟩ v' (bH hJ.own hp5 (by decide)) (fun c hc=>bV (hJ.row c hc).1 hp5 (by decide))).congr fun c d _ _=>?_;split<;>rfl
 ·rcases hat g hg2 with h3|h3
  ·exact h.sepO g h3 e
  ·have:=(h.mM.ownLt e).2;omega
 ·have hl:=h.mM.lt ha';by_cases e:a=kJ
  ·simp only [if_pos e];omega
  ·simp only [if_neg e];exact h.sepR a a' (by omega) ha'
theorem ie.pushM {w5:World} {v':Value} (h:ie W0 w p n kL kJ kM vL vJ vM rl rj rm R J M) (lit:Obj)
  (hown:w5.ownsRow W0.heap.size 107 1 v' (kM+1) (dw rm n kM++[.slice (some ⟨w.heap.size,0,none⟩) n n])) (hg:((w.alloc (.cells (ej n fun _=>.int .i64 0) 3)).alloc lit).grownBy w5 vM.ownBlock)
  (hat:∀g,v'.ownBlock=some g ->vM.ownBlock=some g∨w.heap.size <= g):
  ie W0 (w5.setCell ⟨p,3,none⟩ v') p n kL kJ (kM+1) vL vJ v' rl rj (fun x=>if x=kM then w.heap.size else rm x) R J (fun x y=>if x=kM then 0 else M x y):=by
 have hw:∀j,j<w.heap.size ->((w.alloc (.cells (ej n fun _=>.int .i64 0) 3)).alloc lit).heap[j]? =w.heap[j]? :=fun j hj=>by
  rw [Below.heap_alloc _ _ _ (by simp;omega),Below.heap_alloc _ _ _ hj]
 have hs:w.heap.size <= ((w.alloc (.cells (ej n fun _=>.int .i64 0) 3)).alloc lit).heap.size:=(by simp;omega);have hB:=h.below.size;have hp5:w5.heap[p]? =some (.cells #[.int .i64 n,vL,vJ,vM] 153 (0,0)):=by
  rw [hg.block p (by have:=h.plt;omega) (fun e=>bH h.mM.own h.par (by decide) e.symm),hw p h.plt];exact h.par
 have hM:=h.mM.push (by decide) hB (fun _=>.int .i64 0) lit hown hg;have hL:=h.mL.grown hw hs h.mM.own hg (fun g hg2 e=>by
  obtain ⟨c1,e1⟩:=jo h.mM.own e;exact bH h.mL.own e1 (by decide) hg2) (by decide)
 have hJ:=h.mJ.grown hw hs h.mM.own hg (fun g hg2 e=>h.sepO g hg2 e) (by decide);have hb2:Below W0.heap.size W0 ((w.alloc (.cells (ej n fun _=>.int .i64 0) 3)).alloc lit):=(h.below.alloc hB _).alloc (by simp;omega) _;refine ⟨(hb2.grown hg hb2.size (fun j hj=>(h.mM.ownLt hj).1)).setCell h.pn _,h.pn,?_,hL.other _ _ (bH hL.own hp5 (by decide)) (fun c hc=>bV (hL.row c hc).1 hp5 (by decide)),hJ.other _ _ (bH hJ.own hp5 (by decide)) (fun c hc=>bV (hJ.row c hc).1 hp5 (by decide)),?_,fun g hg2 e=>?_,fun a a' ha ha'=>?_⟩
 ·simp [World.setCell,Array.getElem?_modify,hp5]
 ·refine (hM.other ⟨p,3,none⟩ v' (bH hM.own hp5 (by decide)) (fun c hc=>bV (hM.row c hc).1 hp5 (by decide))).congr fun c d _ _=>?_;split<;>rfl
 ·rcases hat g e with h3|h3
  ·exact h.sepO g hg2 h3
  ·have:=(h.mJ.ownLt hg2).2;omega
 ·have hl:=h.mJ.lt ha;by_cases e:a'=kM
  ·simp only [if_pos e];omega
  ·simp only [if_neg e];exact h.sepR a a' ha (by omega)
end
def xN (n:Nat) (R:Nat ->Nat ->Bool):Prop:=∀a b,a<n ->b<n ->¬(a≠b∧R a b=true∧R b a=true)∧0 <= cg R n a b true∧0 <= cg R n a b false
structure C5 (w:World) (p n:Nat) (R:Nat ->Nat ->Bool):Prop where
 ref:rq w p n R
 join:∃bo c,w.cell? ⟨p,2,none⟩=some (.slice (some ⟨bo,0,none⟩) n c)∧∀a,a<n ->∃br cr,w.cell? ⟨bo,a,none⟩=some (.slice (some ⟨br,0,none⟩) n cr)∧∀b,b<n ->w.cell? ⟨br,b,none⟩=some (.int .i64 (cg R n a b true))
 meet:∃bo c,w.cell? ⟨p,3,none⟩=some (.slice (some ⟨bo,0,none⟩) n c)∧∀a,a<n ->∃br cr,w.cell? ⟨bo,a,none⟩=some (.slice (some ⟨br,0,none⟩) n cr)∧∀b,b<n ->w.cell? ⟨br,b,none⟩=some (.int .i64 (cg R n a b false))
def sN (W0:World) (n m:Nat) (P:Nat ->Int×Int) (e:Ending) (w':World):Prop:=Below W0.heap.size W0 w'∧
 ((¬dz n m P∧e=.returned (.tuple #[.pointer none,.int .i64 6]))∨
 (dz n m P∧¬xN n (ck m P n)∧e=.returned (.tuple #[.pointer none,.int .i64 1]))∨
 (dz n m P∧xN n (ck m P n)∧∃p,e=.returned (.tuple #[.pointer (some ⟨p,0,none⟩),.int .i64 0])∧C5 w' p n (ck m P n)))
theorem zq {n m:Nat} {P:Nat ->Int×Int} (hn:n <= 64) (hin:dz n m P):xN n (ck m P n)↔yI n (gq n m P) (eX n m P):=by
 have hR:∀x y,x<n ->y<n ->(ir (ck m P n) true x y=true↔Le m P x y):=fun x y hx _=>gr hn hin hx;have hD:∀x y,x<n ->y<n ->(ir (ck m P n) false x y=true↔Le m P y x):=fun x y _ hy=>gr hn hin hy;constructor
 ·intro h
  have hanti:∀x y,x<n ->y<n ->Le m P x y ->Le m P y x ->x=y:=fun x y hx hy h1 h2=>
   Classical.byContradiction fun hne=>(h x y hx hy).1 ⟨hne,(gr hn hin hx).2 h1,(gr hn hin hy).2 h2⟩
  intro x y hx hy;refine ⟨fun hb=>hb.2.1 (hanti x y hx hy ((jF hn hin hx).1 hb.1) ((jF hn hin hy).1 hb.2.2)),?_,?_⟩
  ·rw [<- ji (pI.up hn hin hanti) hR hx hy];exact (h x y hx hy).2.1
  ·rw [<- ji (pI.down hn hin hanti) hD hx hy];exact (h x y hx hy).2.2
 ·intro hf;have hanti:=zm hn hin hf;intro x y hx hy;refine ⟨fun hb=>hb.1 (hanti x y hx hy ((gr hn hin hx).1 hb.2.1) ((gr hn hin hy).1 hb.2.2)),?_,?_⟩
  ·rw [ji (pI.up hn hin hanti) hR hx hy];exact (hf x y hx hy).2.1
  ·rw [ji (pI.down hn hin hanti) hD hx hy];exact (hf x y hx hy).2.2
theorem ez {w wx:World} {ao:Option Addr} {m:Nat} {P:Nat ->Int×Int} (hb:Below w.heap.size w wx) (hp:fM w ao m P):fM wx ao m P:=by
 obtain ⟨b,off,h1,h2,h3⟩:=hp;exact ⟨b,off,h1,fun h=>Nat.lt_of_lt_of_le (h2 h) hb.size,fun i hi=>⟨(hb.cell (p:=⟨b,off+i*2,none⟩) (h2 (by omega))).trans (h3 i hi).1,(hb.cell (p:=⟨b,off+i*2+1,none⟩) (h2 (by omega))).trans (h3 i hi).2⟩⟩
theorem wV {w:World} {ao:Option Addr} {n m cp:Nat} {P:Nat ->Int×Int} (h0:0<n) (hn:n <= 64) (hm:m <= 1000) (hp:fM w ao m P) (hin:dz n m P) (hf:yI n (gq n m P) (eX n m P)):
  Calls Tryz.prog 44 #[.int .i64 n,.slice ao m cp] w fun e w'=>∃b,e=.returned (.tuple #[.pointer (some ⟨b,0,none⟩),.int .i64 0])∧Below w.heap.size w w'∧gy w.heap.size w' b n (gq n m P) (eX n m P):=by
 obtain ⟨b,off,h1,h2,h3⟩:=hp;exact BX ao b off m cp n P w h0 hn hm h3 h1 h2 hin hf
end Go.Proofs.YtcannffahjbjnaaGreatDoor
