import Derived.Test.YtcannffahjbjnaaGreatDoorVwBH
set_option linter.unusedVariables false
set_option linter.unusedSimpArgs false
set_option maxRecDepth 100000
set_option maxHeartbeats 64000000
namespace Go.Proofs.YtcannffahjbjnaaGreatDoor
open Go.RowKit Go.Deep
theorem tc (x:Addr):x.add 0=x:=by simp [Addr.add]
theorem sR {W:World} {x:Addr} {v:Value} (k1:W.cell? x=some v):x.spot=none∧x.block<W.heap.size:=by
 refine ⟨?_,World.block_lt_of_cell? _ _ k1⟩;unfold World.cell? at k1;split at k1
 ·split at k1
  ·cases k1
  ·rename_i hs;simpa using hs
 ·cases k1
def kq (W:World) (g:Nat) (l:List UInt8):Prop:=∀j,j<l.length ->W.cell? ⟨g,j,none⟩=some (.int .u8 ((l.getD j 0).toNat:Int))∧W.frozen? ⟨g,j,none⟩=false
theorem kq.below {W W':World} {g n:Nat} {l:List UInt8} (h:kq W g l) (hb:Below n W W') (hg:g<n):kq W' g l:=
 fun j hj=>⟨(hb.cell (p:=⟨g,j,none⟩) hg).trans (h j hj).1,(hb.frozen (p:=⟨g,j,none⟩) hg).trans (h j hj).2⟩
theorem kq.set {W:World} {g:Nat} {l:List UInt8} (h:kq W g l) (i:Nat) (hi:i<l.length) (c:UInt8):kq (W.setCell ⟨g,i,none⟩ (.int .u8 (c.toNat:Int))) g (l.set i c):=by
 intro j hj;rw [List.length_set]at hj;obtain ⟨h1,h2⟩:=h j hj;obtain ⟨h3,h4⟩:=h i hi;by_cases e:j=i
 ·subst e;refine ⟨?_,?_⟩
  ·simp [go_sem,h3,hj]
  ·simp [go_sem,h4]
 ·refine ⟨?_,?_⟩
  ·have:¬i=j:=fun x=>e x.symm;simp [go_sem,h1,e,this,List.getElem?_set]
  ·simp [go_sem,h2]
end Go.Proofs.YtcannffahjbjnaaGreatDoor
namespace Go.Proofs.YtcannffahjbjnaaGreatDoor
open Go.RowKit Go.Deep Go.ChangeShapes Go.WideShapes
def iG {α:Type} (mk:α ->Value) (w:World) (a:Option Addr) (len:Nat) (P:Nat ->α):Prop:=
 ∃b off,(0<len ->a=some ⟨b,off,none⟩)∧(0<len ->b<w.heap.size)∧(∀i,i<len ->w.cell? ⟨b,off+i,none⟩=some (mk (P i)))∧(len:Int) <= 9223372036854775807
theorem iG.below {α:Type} {mk:α ->Value} {w w':World} {a:Option Addr} {len n:Nat} {P:Nat ->α} (h:iG mk w a len P) (hb:Below n w w') (hn:w.heap.size <= n):iG mk w' a len P:=by
 obtain ⟨b,off,h1,h2,h3,h4⟩:=h;exact ⟨b,off,h1,fun h0=>Nat.lt_of_lt_of_le (h2 h0) hb.size,fun i hi=>(hb.cell (p:=⟨b,off+i,none⟩) (Nat.lt_of_lt_of_le (h2 (by omega)) hn)).trans (h3 i hi),h4⟩
theorem qF:Tryz.prog.cellsOf 9=1:=by kernel_rfl
theorem yV {α:Type} {mk:α ->Value} (a0:α) {t e:TypeId} {H:Type} {enc:TypeId×Value ->H} {W:World} {a:Option Addr} {len cap:Nat} {d:DataW H} {p:List MemPlace}
  (ht:Tryz.prog.underlying t=some (.slice e)) (hc:Tryz.prog.cellsOf e=1)
  (hel:∀n v x,DataW.trod enc Tryz.prog W 0 (fun _=>true) true n e [v]=some x ->∃q,v=mk q)
  (hk:DataW.Trod enc Tryz.prog W 0 (fun _=>true) true t (.slice a len cap) d p):∃P,iG mk W a len P:=by
 obtain ⟨fuel,hf⟩:=hk;rcases open_slice1 ht hc hf with ⟨hcs,_⟩|⟨x,l,c,m,n,V,D,Pl,hcs,hb,hl,hm,hmm,_,hx⟩
 ·simp only [Value.cells,List.cons.injEq,Value.slice.injEq,and_true]at hcs;obtain ⟨rfl,rfl,rfl⟩:=hcs;exact ⟨fun _=>a0,0,0,fun h=>absurd h (by omega),fun h=>absurd h (by omega),fun i hi=>absurd hi (by omega),by omega⟩
 ·simp only [Value.cells,List.cons.injEq,Value.slice.injEq,and_true]at hcs;obtain ⟨rfl,rfl,rfl⟩:=hcs;have hmx:(len:Int) <= 9223372036854775807:=(by unfold maxLen at hm;omega);have hlm:len <= m:=(by rw [hmm];split<;>omega);by_cases h0:0<len
  ·have key:∀i,∃q:α,i<len ->W.cell? (x.add i)=some (mk q):=by
    intro i;by_cases hi:i<len
    ·obtain ⟨h1,h2⟩:=hx i (by omega);obtain ⟨q,hq⟩:=hel _ _ _ h2;exact ⟨q,fun _=>by rw [h1,hq]⟩
    ·exact ⟨a0,fun h=>absurd h hi⟩
   obtain ⟨F,hF⟩:=Classical.axiomOfChoice key;have k0:=hF 0 h0;rw [tc]at k0;obtain ⟨hsp,hlt⟩:=sR k0;refine ⟨F,x.block,x.off,fun _=>?_,fun _=>hlt,fun i hi=>?_,hmx⟩
   ·obtain ⟨b,o,s⟩:=x;simp only at hsp;rw [hsp]
   ·rw [<- eW x hsp];exact hF i hi
  ·exact ⟨fun _=>a0,0,0,fun h=>absurd h h0,fun h=>absurd h h0,fun i hi=>absurd hi (by omega),hmx⟩
theorem yW {H:Type} {enc:TypeId×Value ->H} {W:World} {a:Option Addr} {len cap:Nat} {d:DataW H} {p:List MemPlace}
  (hk:DataW.Trod enc Tryz.prog W 0 (fun _=>true) true 22 (.slice a len cap) d p):∃P,iG Value.string W a len P:=
 yV ByteArray.empty Tryz.underlying22 qF (fun n v x h=>by
  obtain ⟨s,e,_⟩:=DataW.trod_string Tryz.underlying9 h;injection e with e _;exact ⟨s,e⟩) hk
end Go.Proofs.YtcannffahjbjnaaGreatDoor
