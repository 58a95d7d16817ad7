import Derived.Test.YtcannffahjbjnaaGreatDoorVwBH
set_option linter.unusedVariables false
set_option linter.unusedSimpArgs false
set_option maxRecDepth 100000
set_option maxHeartbeats 64000000
namespace Go.Proofs.YtcannffahjbjnaaGreatDoor
open Go.RowKit
structure nJ (w w':World) (row:Option Nat) (k:Nat):Prop where
 grown:w.grownBy w' row
 first:∀p j,row=some p ->j<k ->w'.cell? ⟨p,j,none⟩=w.cell? ⟨p,j,none⟩
theorem nJ.refl (w:World) (row:Option Nat) (k:Nat):nJ w w row k:=⟨World.grownBy.refl w row,fun _ _ _ _=>rfl⟩
theorem nJ.step {w w1 w2:World} {row row':Option Nat} {k k':Nat} (h:nJ w w1 row k) (h':nJ w1 w2 row' k') (hr:(row'=row∧k <= k')∨(∀q,row'=some q ->w.heap.size <= q)) (hl:∀p,row=some p ->p<w.heap.size):nJ w w2 row k:=by
 refine ⟨⟨h'.grown.os.trans h.grown.os,h'.grown.tape.trans h.grown.tape,h'.grown.output.trans h.grown.output,Nat.le_trans h.grown.size h'.grown.size,fun q hq hne=>?_⟩,fun p j hp hj=>?_⟩
 ·refine (h'.grown.block q (Nat.lt_of_lt_of_le hq h.grown.size) ?_).trans (h.grown.block q hq hne);rcases hr with ⟨rfl,_⟩|hr
  ·exact hne
  ·intro e;have:=hr q e.symm;omega
 ·refine Eq.trans ?_ (h.first p j hp hj);rcases hr with ⟨rfl,hk⟩|hr
  ·exact h'.first p j hp (by omega)
  ·have hpl:=hl p hp;exact World.cell?_of_block (h'.grown.block p (Nat.lt_of_lt_of_le hpl h.grown.size) (fun e=>by have:=hr p e.symm;omega))
theorem nJ.below {w w':World} {row:Option Nat} {k B:Nat} {a:World} (h:nJ w w' row k) (hb:Below B a w) (hB:B <= w.heap.size) (hr:∀p,row=some p ->B <= p):Below B a w':=hb.grown h.grown hB hr
theorem aY.onto {w w':World} {row:Option Nat} {k size:Nat} {ao:Option Addr} {n:Nat} {xs:List Value} (h:aY w size ao n xs) (ho:nJ w w' row k) (hk:∀ad,ao=some ad ->row=some ad.block ->ad.off+xs.length <= k):aY w' size ao n xs:=by
 refine ⟨h.len,h.non,fun ad had=>⟨(h.at' ad had).1,fun j u hu=>?_⟩⟩;have hs:=(h.at' ad had).1;have hc:=(h.at' ad had).2 j u hu;have hb:=World.block_lt_of_cell? _ _ hc;have hj:j<xs.length:=(List.getElem?_eq_some_iff.1 hu).1;rw [gb _ hs]at hc hb⊢;rw [<- hc];by_cases hr:row=some ad.block
 ·exact ho.first ad.block (ad.off+j) hr (by have:=hk ad had hr;omega)
 ·exact World.cell?_of_block (ho.grown.block ad.block hb (fun e=>hr e.symm))
section
variable {P:Program}
theorem jC (w:World) (base:Nat) (t ty e:TypeId) (i:TypeInfo) (z:Value) (size bytes:Nat) (ht:P.underlying t=some (.slice e)) (hi:P.info? e=some i) (hz:i.zero=some z)
  (hsize:i.size=size) (hby:i.bytes=bytes) (hzs:z.cells.size=size) (hsz:0<size)
  (v:Value) (n:Nat) (xs:List Value) (hown:w.ownsRow base e size v n xs)
  (a:Addr) (m c:Nat) (news:List Value) (hl:news.length=m*size) (hnews:∀j u,news[j]? =some u ->w.cell? (a.add j)=some u) (h1:∀u∈news,u.oneCell'=true)
  (h63:n+m <= maxLen) (hbytes:(n+m)*bytes <= 140737488355328) (hbase:base <= w.heap.size):
  ∃v' w',(Builtin.append_ #[t,t] ty #[v,.slice (some a) m c]).run P w=.ok v' w'∧w'.ownsRow base e size v' (n+m) (xs++news)∧nJ w w' v.ownBlock (n*size)∧(v'.ownBlock=v.ownBlock∨v'.ownBlock=some w.heap.size):=by
 have hsmall:n+m <= 9223372036854775807:=(by simp only [maxLen]at h63;omega);by_cases hroom:∃g cap,v=.slice (some ⟨g,0,none⟩) n cap∧n+m <= cap
 ·obtain ⟨g,cap,rfl,hroom⟩:=hroom;obtain ⟨v',w',hr,ho,hg,_⟩:=run_append_own (P:=P) w base t ty e i z size bytes ht hi hz hsize hby hzs hsz _ n xs hown a m c news hl hnews h1 h63 hbytes hbase;subst hsize;rcases hown.2 with ⟨h0,_⟩|⟨g',cap',cur,hv,hbg,hgg,hnc,hcm,hcs,htake⟩
  ·cases h0
  ·simp only [Value.slice.injEq,Option.some.injEq,Addr.mk.injEq]at hv;obtain ⟨⟨rfl,_⟩,_,rfl⟩:=hv;have hr2:=run_append_room (P:=P) w t ty e i ht hi g n cap cur hgg a m c news hl hnews h1 hroom (by rw [hl,hcs,<- Nat.add_mul];exact Nat.mul_le_mul_right _ hroom);rw [hr]at hr2;simp only [Result.ok.injEq]at hr2;obtain ⟨rfl,rfl⟩:=hr2;refine ⟨_,_,hr,ho,⟨hg,fun p j hp hj=>?_⟩,.inl rfl⟩;simp only [Value.ownBlock,Option.some.injEq]at hp;subst hp;have hxl:xs.length=n*i.size:=hown.1;obtain ⟨u,hu⟩:∃u,xs[j]? =some u:=⟨xs[j]'(by omega),List.getElem?_eq_getElem (by omega)⟩
   have c1:=hown.cells rfl j u hu;have c2:=ho.cells rfl j u (by rw [List.getElem?_append_left (by omega)];exact hu);rw [gb _ rfl]at c1 c2;simp only [Nat.zero_add]at c1 c2;rw [c1,c2]
 ·subst hsize;subst hby;have hlen:(xs++news).length=(n+m)*i.size:=by rw [List.length_append,hown.1,hl,Nat.add_mul]
  have made:∀(old:Nat),∀(row:Option Nat) (k:Nat),(∀p,row=some p ->p<w.heap.size) ->
    (w.drew.alloc (.cells (xs.toArray++news.toArray++Builtin.zeroCells z.cells (grownCap w (n+m) old e - (n+m))) e)).ownsRow base e i.size
     (.slice (some ⟨w.heap.size,0,none⟩) (n+m) (grownCap w (n+m) old e)) (n+m) (xs++news)∧
    nJ w (w.drew.alloc (.cells (xs.toArray++news.toArray++Builtin.zeroCells z.cells (grownCap w (n+m) old e - (n+m))) e)) row k:=by
   intro old row k hl';have hge:=grownCap_ge w (n+m) old e;have hcm:grownCap w (n+m) old e <= maxLen:=grownCap_le_maxLen w (n+m) old e h63;refine ⟨⟨hlen,.inr ⟨w.heap.size,_,_,rfl,hbase,heap_alloc_new w.drew _,hge,hcm,?_,?_⟩⟩,⟨⟨rfl,rfl,rfl,by simp,fun k hk _=>Below.heap_alloc w.drew _ k hk⟩,fun p j hp _=>World.cell?_of_block (Below.heap_alloc w.drew _ p (hl' p hp))⟩⟩
   ·simp only [Array.size_append,List.size_toArray,size_zeroCells,hzs,hown.1,hl,<- Nat.add_mul];congr 1;omega
   ·simp only [Array.toList_append,List.append_assoc];rw [<- List.append_assoc,<- hlen];exact List.take_left
  rcases hown.2 with ⟨rfl,rfl⟩|⟨g,cap,cur,rfl,hbg,hg,hnc,hcm,hcs,htake⟩
  ·have hx:xs=[]:=List.eq_nil_of_length_eq_zero (by simpa using hown.1);subst hx;by_cases hm:m=0
   ·subst hm;obtain ⟨v',w',hr,ho,_,hn⟩:=run_append_own (P:=P) w base t ty e i z i.size i.bytes ht hi hz rfl rfl hzs hsz _ 0 [] hown a 0 c news hl hnews h1 h63 hbytes hbase;have hn':news=[]:=List.eq_nil_of_length_eq_zero (by simpa using hl);subst hn';refine ⟨.slice none 0 0,w,?_,World.ownsRow_nil w base e i.size,nJ.refl w _ _,.inl rfl⟩;simp [Builtin.append_,run_underlying ht,sizeOf,typeInfo,hi,Builtin.lenOf,Builtin.firstCells,loadCells,loadCellsFrom]
   ·have hr:=run_append_nil (P:=P) w t ty e i z ht hi hz a m c news hl hnews (by omega) (by omega) (by have hb:=hbytes;simp only [Nat.zero_add]at hb;omega);have hgr:=made 0 none (0*i.size) (fun p hp=>by cases hp);simp only [Nat.zero_add,List.nil_append,Array.empty_append]at hgr⊢;exact ⟨_,_,hr,hgr.1,hgr.2,.inr rfl⟩
  ·have hno:cap<n+m:=by
    by_cases h:n+m <= cap
    ·exact absurd ⟨g,cap,rfl,h⟩ hroom
    ·omega
   have holds:∀j u,xs[j]? =some u ->w.cell? ((⟨g,0,none⟩:Addr).add j)=some u:=hown.cells (g:=g) rfl;have hr:=run_append_grow (P:=P) w t ty e i z ht hi hz ⟨g,0,none⟩ n cap xs hown.1 holds a m c news hl hnews hno (by omega) (growslice_fits (by omega) hbytes);have hgr:=made cap (some g) (n*i.size) (fun p hp=>by obtain rfl:=Option.some.inj hp;exact (Array.getElem?_eq_some_iff.1 hg).1);exact ⟨_,_,hr,hgr.1,hgr.2,.inr rfl⟩
theorem dL (w:World) {ops:Array Oper} {rest:List Oper} {o:Oper} {a:Act} {Q:Exit ->Act ->World ->Prop} (hgd:o.guard=none) (s x:Operand) (t:TypeId)
  (ho:o.op=.call {callee:=.builtin .append,args:=#[s,x],argTypes:=#[t,t]})
  (base:Nat) (e:TypeId) (i:TypeInfo) (z:Value) (size bytes:Nat) (ht:P.underlying t=some (.slice e)) (hi:P.info? e=some i) (hz:i.zero=some z)
  (hsize:i.size=size) (hby:i.bytes=bytes) (hzs:z.cells.size=size) (hsz:0<size)
  (v:Value) (n:Nat) (xs:List Value) (hs:a.eval s=v) (hown:w.ownsRow base e size v n xs)
  (ad:Addr) (m c:Nat) (news:List Value) (hx:a.eval x=.slice (some ad) m c) (hl:news.length=m*size) (hnews:∀j u,news[j]? =some u ->w.cell? (ad.add j)=some u) (h1:∀u∈news,u.oneCell'=true)
  (h63:n+m <= maxLen) (hbytes:(n+m)*bytes <= 140737488355328) (hbase:base <= w.heap.size)
  (h:∀v' w',w'.ownsRow base e size v' (n+m) (xs++news) ->nJ w w' v.ownBlock (n*size) ->(v'.ownBlock=v.ownBlock∨v'.ownBlock=some w.heap.size) ->wpList P ops Q rest (a.put o.dst v') w'):wpList P ops Q (o::rest) a w:=by
 refine wpList_plain hgd fun _ hK=>?_;obtain ⟨v',w',hr,h2,h3,h4⟩:=jC (P:=P) w base t o.type e i z size bytes ht hi hz hsize hby hzs hsz v n xs hown ad m c news hl hnews h1 h63 hbytes hbase;unfold Oper.wp execOp;simp only [ho,resolve,invoke,builtin,Sem.run_bind,Sem.run_pure,Result.andThen_ok,List.map_toArray,List.map_cons,List.map_nil,hs,hx,hr];exact hK _ _ (h v' w' h2 h3 h4)
end
end Go.Proofs.YtcannffahjbjnaaGreatDoor
namespace Go.Proofs.YtcannffahjbjnaaGreatDoor
open Go.RowKit Go
section
variable {P:Program}
theorem bU (w:World) {ops:Array Oper} {o:Oper} {a:Act} {K:Act ->World ->Prop} {Q:Exit ->Act ->World ->Prop} {E:Prop} (hgd:o.guard=none) (s x:Operand) (t:TypeId)
  (ho:o.op=.call {callee:=.builtin .append,args:=#[s,x],argTypes:=#[t,t]})
  (base:Nat) (e:TypeId) (i:TypeInfo) (z:Value) (size bytes:Nat) (ht:P.underlying t=some (.slice e)) (hi:P.info? e=some i) (hz:i.zero=some z)
  (hsize:i.size=size) (hby:i.bytes=bytes) (hzs:z.cells.size=size) (hsz:0<size)
  (v:Value) (n:Nat) (xs:List Value) (hs:a.eval s=v) (hown:w.ownsRow base e size v n xs)
  (ao:Option Addr) (m c:Nat) (news:List Value) (hx:a.eval x=.slice ao m c) (hr:aY w size ao m news) (hc:ao=none ->c=0) (h1:∀u∈news,u.oneCell'=true)
  (h63:n+m <= maxLen) (hbytes:(n+m)*bytes <= 140737488355328) (hbase:base <= w.heap.size)
  (h:∀v' w',w'.ownsRow base e size v' (n+m) (xs++news) ->w.grownBy w' v.ownBlock ->(v'.ownBlock=v.ownBlock∨v'.ownBlock=some w.heap.size) ->K (a.put o.dst v') w'):
  if Region.wanted o (yielded ops a.tmps)=true then Oper.wp P o a w K Q else E:=by
 have hw:Region.wanted o (yielded ops a.tmps)=true:=(by simp [Region.wanted,hgd]);rw [if_pos hw];cases ao with
 |some ad=>
  obtain ⟨v',w',hrun,h2,h3,h4⟩:=jC (P:=P) w base t o.type e i z size bytes ht hi hz hsize hby hzs hsz v n xs hown ad m c news hr.len (hr.at' ad rfl).2 h1 h63 hbytes hbase;unfold Oper.wp execOp;simp only [ho,resolve,invoke,builtin,Sem.run_bind,Sem.run_pure,Result.andThen_ok,List.map_toArray,List.map_cons,List.map_nil,hs,hx,hrun];exact h v' w' h2 h3.grown h4
 |none=>
  obtain rfl:=hr.non rfl;obtain rfl:=hc rfl;have hn:news=[]:=List.eq_nil_of_length_eq_zero (by simpa using hr.len);subst hn;have hrun:=run_append_owned_none (P:=P) (w:=w) base t o.type e i size ht hi v n xs hown;unfold Oper.wp execOp;simp only [ho,resolve,invoke,builtin,Sem.run_bind,Sem.run_pure,Result.andThen_ok,List.map_toArray,List.map_cons,List.map_nil,hs,hx,hrun];exact h v w (by simpa using hown) (World.grownBy.refl w _) (.inl rfl)
variable {ops:Array Oper} {Q:Exit ->Act ->World ->Prop} {md:Region.Mode} {S:Nat ->World ->Prop}
end
end Go.Proofs.YtcannffahjbjnaaGreatDoor
