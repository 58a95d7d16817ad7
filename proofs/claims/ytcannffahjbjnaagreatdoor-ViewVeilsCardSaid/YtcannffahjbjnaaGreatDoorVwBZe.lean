import Derived.Test.YtcannffahjbjnaaGreatDoorVwBZd
set_option linter.unusedVariables false
set_option linter.unusedSimpArgs false
set_option maxRecDepth 100000
set_option maxHeartbeats 64000000
namespace Go.Proofs.YtcannffahjbjnaaGreatDoor
open Go.RowKit
theorem jp {w:World} {base:Nat} {e T:TypeId} {z n P:Nat} {v:Value} {xs:List Value} {cs:Array Value} (h:w.ownsRow base e z v n xs) (hP:w.heap[P]? =some (.cells cs T (0,0))) (he:e≠T):some P≠v.ownBlock:=fun hg=>by
 obtain ⟨cs2,h2⟩:=gE h hg;rw [hP]at h2;simp only [Option.some.injEq,Obj.cells.injEq]at h2;exact he h2.2.1.symm
structure qV (B bo bi:Nat) (w:World) (vo vi:Value) (outL:List (List UInt8)) (inn:List aW):Prop where
 co:w.heap[bo]? =some (.cells #[vo] 22 (0,0))
 ci:w.heap[bi]? =some (.cells #[vi] 61 (0,0))
 oo:ah B w vo outL
 oi:w.ownsRow B 65 5 vi inn.length (inn.flatMap aq)
 b1:B <= bo
 b2:B <= bi
 bB:B <= w.heap.size
theorem qV.below {B bo bi:Nat} {w w':World} {vo vi:Value} {outL:List (List UInt8)} {inn:List aW} (h:qV B bo bi w vo vi outL inn) (hb:Below w.heap.size w w'):qV B bo bi w' vo vi outL inn:=
 ⟨(hb.block _ (lt_of_block h.co)).trans h.co,(hb.block _ (lt_of_block h.ci)).trans h.ci,ae h.oo hb,ae h.oi hb,h.b1,h.b2,Nat.le_trans h.bB hb.size⟩
theorem qV.ne {B bo bi:Nat} {w:World} {vo vi:Value} {outL:List (List UInt8)} {inn:List aW} (h:qV B bo bi w vo vi outL inn):bo≠bi:=fun e=>by
 have h1:=h.co;rw [e,h.ci]at h1;simp only [Option.some.injEq,Obj.cells.injEq]at h1;exact absurd h1.2.1 (by decide)
theorem qV.put {B bo bi:Nat} {w w4:World} {vo vi v':Value} {outL new:List (List UInt8)} {inn:List aW} (h:qV B bo bi w vo vi outL inn) (hg:w.grownBy w4 vo.ownBlock) (hown:ah B w4 v' (outL++new)):
  qV B bo bi (w4.setCell ⟨bo,0,none⟩ v') v' vi (outL++new) inn∧Below B w (w4.setCell ⟨bo,0,none⟩ v')∧w4.frozen? ⟨bo,0,none⟩=false∧w4.cell? ⟨bo,0,none⟩=some vo:=by
 have co4:=(hg.block bo (lt_of_block h.co) (jp h.oo h.co (by decide))).trans h.co;have ci4:=(hg.block bi (lt_of_block h.ci) (jp h.oo h.ci (by decide))).trans h.ci;have oi4:=World.ownsRow.kept h.oi hg (aZ h.oi h.oo (by decide))
 exact ⟨⟨one_setCell co4,(Below.heap_setCell _ _ _ _ (fun e=>h.ne e.symm)).trans ci4,aF (a:=⟨bo,0,none⟩) hown co4 (by decide) _,aF (a:=⟨bo,0,none⟩) oi4 co4 (by decide) _,h.b1,h.b2,by rw [World.size_setCell];exact Nat.le_trans h.bB hg.size⟩,
  ((Below.refl B w).grown hg h.bB (fun j hj=>(World.ownsRow.lt h.oo j hj).1)).setCell h.b1 _,free_of_one co4,cell_of_one co4⟩
theorem qV.push {B bo bi:Nat} {w w4:World} {vo vi v':Value} {outL:List (List UInt8)} {inn:List aW} (h:qV B bo bi w vo vi outL inn) (x:aW) (hg:w.grownBy w4 vi.ownBlock) (hown:w4.ownsRow B 65 5 v' (inn.length+1) (inn.flatMap aq++aq x)):
  qV B bo bi (w4.setCell ⟨bi,0,none⟩ v') vo v' outL (inn++[x])∧Below B w (w4.setCell ⟨bi,0,none⟩ v')∧w4.frozen? ⟨bi,0,none⟩=false∧w4.cell? ⟨bi,0,none⟩=some vi:=by
 have co4:=(hg.block bo (lt_of_block h.co) (jp h.oi h.co (by decide))).trans h.co;have ci4:=(hg.block bi (lt_of_block h.ci) (jp h.oi h.ci (by decide))).trans h.ci;have oo4:=World.ownsRow.kept h.oo hg (aZ h.oo h.oi (by decide))
 exact ⟨⟨(Below.heap_setCell _ _ _ _ (fun e=>h.ne e)).trans co4,one_setCell ci4,aF (a:=⟨bi,0,none⟩) oo4 ci4 (by decide) _,aF (a:=⟨bi,0,none⟩) (by rw [List.length_append,List.flatMap_append,List.flatMap_cons,List.flatMap_nil,List.append_nil];exact hown) ci4 (by decide) _,h.b1,h.b2,by rw [World.size_setCell];exact Nat.le_trans h.bB hg.size⟩,
  ((Below.refl B w).grown hg h.bB (fun j hj=>(World.ownsRow.lt h.oi j hj).1)).setCell h.b2 _,free_of_one ci4,cell_of_one ci4⟩
theorem qV.cut {B bo bi:Nat} {w:World} {vo:Value} {outL:List (List UInt8)} {inn:List aW} {iao:Option Addr} {m c:Nat} (h:qV B bo bi w vo (.slice iao m c) outL inn) (q:Nat) (hq:q <= inn.length):
  qV B bo bi (w.setCell ⟨bi,0,none⟩ (.slice iao q c)) vo (.slice iao q c) outL (inn.take q)∧Below B w (w.setCell ⟨bi,0,none⟩ (.slice iao q c)):=by
 have ht:=fw h.oi q hq iao m c rfl;rw [iJ aq 5 dr]at ht;exact ⟨⟨(Below.heap_setCell _ _ _ _ (fun e=>h.ne e)).trans h.co,one_setCell h.ci,aF (a:=⟨bi,0,none⟩) h.oo h.ci (by decide) _,aF (a:=⟨bi,0,none⟩) (by rw [List.length_take,Nat.min_eq_left hq];exact ht) h.ci (by decide) _,h.b1,h.b2,by rw [World.size_setCell];exact h.bB⟩,(Below.refl B w).setCell h.b2 _⟩
def fp (w w':World):Prop:=∀(k:Nat) (cs:Array Value),w.heap[k]? =some (Obj.cells cs 65 (0,0)) ->w'.heap[k]? =some (Obj.cells cs 65 (0,0))
theorem fp.refl (w:World):fp w w:=fun _ _ h=>h
theorem fp.trans {a b c:World} (h:fp a b) (h2:fp b c):fp a c:=fun k cs hk=>h2 k cs (h k cs hk)
theorem fp.of {w w':World} (hb:Below w.heap.size w w'):fp w w':=fun k cs hk=>(hb.block k (lt_of_block hk)).trans hk
theorem fp.set {w:World} {b:Nat} {u v:Value} {T:TypeId} (h:w.heap[b]? =some (.cells #[v] T (0,0))) (hT:T≠65):fp w (w.setCell ⟨b,0,none⟩ u):=fun k cs hk=>by
 refine (Below.heap_setCell _ _ _ _ (fun e=>?_)).trans hk;simp only at e;rw [e,h]at hk;simp only [Option.some.injEq,Obj.cells.injEq]at hk;exact hT hk.2.1
theorem qV.keep {B bo bi:Nat} {w w4:World} {vo vi v':Value} {outL:List (List UInt8)} {inn:List aW} (h:qV B bo bi w vo vi outL inn) (hg:w.grownBy w4 vo.ownBlock):fp w (w4.setCell ⟨bo,0,none⟩ v'):=by
 have co4:=(hg.block bo (lt_of_block h.co) (jp h.oo h.co (by decide))).trans h.co;have h1:fp w w4:=fun k cs hk=>(hg.block k (lt_of_block hk) (jp h.oo hk (by decide))).trans hk;exact h1.trans (fp.set co4 (by decide))
theorem we (b:Bool) (bs:List Bool):c7 (b::bs)=c7 bs++(if b=true then []else [ja]):=by
 unfold c7;cases b
 ·rw [List.filter_cons_of_pos (by rfl),List.length_cons,List.replicate_succ'];rfl
 ·rw [List.filter_cons_of_neg (by simp)];simp
theorem rz (bs:List Bool):(c7 bs).length <= bs.length:=by
 unfold c7;rw [List.length_replicate];exact List.length_filter_le _ _
def BJ (w:World) (b:Nat):Nat:=match w.cell? ⟨b,0,none⟩with|some (.slice _ n _)=>n|_=>0
theorem qk {w:World} {b:Nat} {ao:Option Addr} {n c:Nat} (h:w.cell? ⟨b,0,none⟩=some (.slice ao n c)):BJ w b=n:=by unfold BJ;rw [h]
theorem yb {B bo bi:Nat} {w:World} {vo vi:Value} {outL:List (List UInt8)} {inn:List aW} (h:qV B bo bi w vo vi outL inn) (d:Nat) (hi:inn.length <= 1000000) (ho:outL.length <= 100000000):
  Calls Tryz.prog 81 #[.int .i64 (d:Int),.pointer (some ⟨bi,0,none⟩),.pointer (some ⟨bo,0,none⟩)] w fun e w'=>e=.returned (.tuple #[])∧∃vo' vi',qV B bo bi w' vo' vi' (outL++c7 ((inn.drop d).map (·.1.opn))) (inn.take d)∧Below B w w'∧fp w w'∧vi'.ownBlock=vi.ownBlock:=by
 obtain ⟨is,hsi,hs0,hs1,hs2⟩:=info_parts ft;have HM0:=zh h;clear h;go_enter Tryz.func81,Tryz.ntmps81
 go_wp2_with fail;go_loopw [] (fun wr=>∃(m:Nat) (vo' vi':Value),m <= inn.length∧(inn.length <= m∨d <= m)∧Hid (qV B bo bi wr vo' vi' (outL++c7 ((inn.drop m).map (·.1.opn))) (inn.take m))∧Below B w wr∧fp w wr∧vi'.ownBlock=vi.ownBlock) (fun wr=>BJ wr bi)
 case atStart=>exact ⟨inn.length,vo,vi,Nat.le_refl _,Or.inl (Nat.le_refl _),zh (by rw [List.drop_length,List.take_length];simpa [c7]using HM0.out),Below.refl _ _,fp.refl _,rfl⟩
 case round=>
  obtain ⟨m,vo',vi',hm,hdm,HM,hbw,hkt,hvb⟩:=hrel;have HK:=zh hkt;clear hkt;have HB:=zh hbw;have hml:(inn.take m).length=m:=(by rw [List.length_take];omega);have hoi:=HM.out.oi;rw [hml]at hoi;obtain ⟨iao,icap,hvi,hir,_,hic⟩:=ab hoi;subst hvi;have HV:=zh hvb;clear hvb;have ci:=cell_of_one HM.out.ci;have fi:=free_of_one HM.out.ci;have hlen:=qk ci;by_cases hlt:d<m
  ·obtain ⟨q,rfl⟩:∃q,m=q+1:=⟨m - 1,by omega⟩
   obtain ⟨x,hx⟩:=bG inn q (by omega);have hxt:(inn.take (q+1))[q]? =some x:=(by rw [List.getElem?_take_of_lt (by omega)];exact hx);obtain ⟨g,o,rfl⟩:=hir.addr (by omega);obtain rfl:o=0:=(fx hoi).1;obtain ⟨k0,k1,k2,k3,k4⟩:=hir.part q x hxt;simp only [Nat.zero_add]at k3;have hdq:inn.drop q=x::inn.drop (q+1):=by
    obtain ⟨hk,rfl⟩:=List.getElem?_eq_some_iff.1 hx;exact List.drop_eq_getElem_cons hk
   have hcl:outL++c7 ((inn.drop q).map (·.1.opn))=(outL++c7 ((inn.drop (q+1)).map (·.1.opn)))++(if x.1.opn=true then []else [ja]):=by
    rw [hdq,List.map_cons,we,List.append_assoc]
   have hcw:=rz ((inn.drop (q+1)).map (·.1.opn));rw [List.length_map,List.length_drop]at hcw;obtain ⟨op,hop⟩:∃b,x.1.opn=b:=⟨_,rfl⟩
   rw [hop]at k3 hcl;obtain ⟨O,hO⟩:∃O,outL++c7 ((inn.drop (q+1)).map (·.1.opn))=O:=⟨_,rfl⟩
   have hol:O.length <= 101000000:=(by rw [<- hO,List.length_append];omega);rw [hO]at hcl HM;have HCL:=zh hcl;have hql:(d:Int)<((q+1:Nat):Int):=(by omega);clear hx hxt hoi hir hop hO hcl hbw hdq k0 k1 k2 k4 hcw hml;cases op
   ·go_upto_region 2 with (fail)
    have oo:=HM.out.oo;unfold ah at oo;obtain ⟨oao,ocap,hvo,_⟩:=ab oo;subst hvo;have co:=cell_of_one HM.out.co;have hba:=(Below.refl wr.heap.size wr).alloc (Nat.le_refl _) (.cells #[.string ⟨#[58,58,58]⟩] 9);have HMA:=zh (HM.out.below hba);have HBA:=zh (hba.mono HM.out.bB);have HKA:=zh (HK.out.trans (fp.of hba));clear oo hba
    go_wp2_with (first
     |(at_builtin;refine wpList_append_own _ rfl _ _ 22 rfl B 9 is (.string ⟨#[]⟩) 1 16 Tryz.underlying22 hsi hs0 hs1 hs2 rfl (by decide) _ _ _ rfl HMA.out.oo ⟨wr.heap.size,0,none⟩ 1 1 [.string ⟨#[58,58,58]⟩] rfl rfl ?c1 ?c2 ?c3 ?c4 ?c5 ?_))
    case c1=>exact aL _ _ _ _ rfl
    case c2=>intro u hu;simp at hu;rcases hu with rfl;rfl
    case c3=>unfold maxLen;omega
    case c4=>omega
    case c5=>exact HMA.out.bB
    intro v4 w4 hown4 hgrow4 _;obtain ⟨hm5,hb5,hf5,hc5⟩:=HMA.out.put hgrow4 (ah.snoc hown4 (x:=ja) rfl);have hk5:=HKA.out.trans (HMA.out.keep (v':=v4) hgrow4);obtain ⟨vao,vcp,hvv,_⟩:=ab hown4;subst hvv;have HK5:=zh hk5;clear hk5;have HM5:=zh hm5;have HB5:=zh (HB.out.trans (HBA.out.trans hb5));clear hown4 hgrow4 hm5 hb5 co HMA HBA;go_upto_region 3 with (fail)
    generalize w4.setCell ⟨bo,0,none⟩ (.slice vao (O.length+1) vcp)=w5 at HM5 HB5 HK5⊢;have ci5:=cell_of_one HM5.out.ci;have fi5:=free_of_one HM5.out.ci;obtain ⟨hm6,hb6⟩:=HM5.out.cut q (by rw [List.length_take];omega);have HM6:=zh hm6;have HB6:=zh (HB5.out.trans hb6);have HK6:=zh (HK5.out.trans (fp.set (u:=.slice (some ⟨g,0,none⟩) q icap) HM5.out.ci (by decide)));clear hm6 hb6 ci fi hf5 hc5;go_wp2_with fail;go_roundw;case rel=>exact ⟨q,.slice vao (O.length+1) vcp,.slice (some ⟨g,0,none⟩) q icap,by omega,by omega,zh (by rw [HCL.out,if_neg (by simp)];have:=HM6.out;rwa [List.take_take,Nat.min_eq_left (by omega)]at this),HB6.out,HK6.out,HV.out⟩
    case measure=>rw [hlen,qk (cell_of_one HM6.out.ci)];omega
   ·obtain ⟨hm6,hb6⟩:=HM.out.cut q (by rw [List.length_take];omega);have HM6:=zh hm6;have HB6:=zh (HB.out.trans hb6);have HK6:=zh (HK.out.trans (fp.set (u:=.slice (some ⟨g,0,none⟩) q icap) HM.out.ci (by decide)));clear hm6 hb6;go_wp2_with fail;go_roundw;case rel=>exact ⟨q,vo',.slice (some ⟨g,0,none⟩) q icap,by omega,by omega,zh (by rw [HCL.out,if_pos rfl,List.append_nil];have:=HM6.out;rwa [List.take_take,Nat.min_eq_left (by omega)]at this),HB6.out,HK6.out,HV.out⟩
    case measure=>rw [hlen,qk (cell_of_one HM6.out.ci)];omega
  ·have hdl:¬(d:Int)<(m:Int):=(by omega);have HF:=zh (show qV B bo bi wr vo' (.slice iao m icap) (outL++c7 ((inn.drop d).map (·.1.opn))) (inn.take d)from by
    rcases Nat.lt_or_ge d inn.length with hd|hd
    ·obtain rfl:m=d:=(by omega);exact HM.out
    ·obtain rfl:m=inn.length:=(by omega);rw [List.drop_eq_nil_of_le hd,List.take_of_length_le hd];have:=HM.out
     rwa [List.drop_length,List.take_length]at this)
   clear hir hoi hbw HM;go_wp2_with fail
   go_end0
   exact ⟨rfl,vo',.slice iao m icap,by rw [<- List.map_drop];exact HF.out,HB.out,HK.out,HV.out⟩
theorem xJ (stk:List Bool) (p:af) (ps:List af):cX stk (p::ps)=c7 (stk.drop p.depth)++(kq p++cX (stk.take p.depth++(if p.div=true then [p.opn]else [])) ps):=rfl
structure vQ (l:List aW) (R:List (List UInt8)) (i:Nat) (outL:List (List UInt8)) (inn:List aW):Prop where
 fo:outL++cX (inn.map (·.1.opn)) ((l.drop i).map (·.1))=R
 wf:∃run,lN (inn.map (·.1.opn)) run ((l.drop i).map (·.1))
 il:inn.length <= i
theorem vQ.now {l:List aW} {R:List (List UInt8)} {i:Nat} {outL:List (List UInt8)} {inn:List aW} (h:vQ l R i outL inn) {x:aW} (hx:l[i]? =some x):
  x.1.depth <= inn.length∧(x.1.div=true ->x.1.lines=[])∧vQ l R (i+1) (outL++c7 ((inn.drop x.1.depth).map (·.1.opn))++kq x.1) (inn.take x.1.depth++(if x.1.div=true then [x]else [])):=by
 obtain ⟨h1,⟨run,h2⟩,h3⟩:=h;obtain ⟨hi,rfl⟩:=List.getElem?_eq_some_iff.1 hx;have e:(l.drop i).map (·.1)=l[i].1::(l.drop (i+1)).map (·.1):=(by rw [List.drop_eq_getElem_cons hi,List.map_cons]);rw [e,xJ]at h1;rw [e]at h2;obtain ⟨w1,w2⟩:=(ed (q:=(inn.map (·.1.opn),run))).1 h2;have hd:l[i].1.depth <= inn.length:=(by have:=w1.1;simpa using this);have e2:(inn.take l[i].1.depth++(if l[i].1.div=true then [l[i]]else [])).map (·.1.opn)=(inn.map (·.1.opn)).take l[i].1.depth++(if l[i].1.div=true then [l[i].1.opn]else []):=by
  rw [List.map_append,List.map_take];split<;>rfl
 refine ⟨hd,fun hdv=>?_,⟨?_,?_,?_⟩⟩
 ·have:=w1.2.2;rw [if_pos hdv]at this;exact this.2.1
 ·rw [e2,<- h1,List.map_drop];simp only [List.append_assoc]
 ·rw [e2];unfold aA at w2;by_cases hdv:l[i].1.div=true
  ·rw [if_pos hdv]at w2⊢;exact ⟨_,w2⟩
  ·rw [if_neg hdv]at w2⊢;rw [List.append_nil];exact ⟨_,w2⟩
 ·rw [List.length_append,List.length_take];split<;>simp<;>omega
theorem AC {w:World} {ao:Option Addr} {cap:Nat} {l:List aW} (hR:kH w ao l) (hW:lN [] false (l.map (·.1))) (h10:∀x∈l,∀s∈x.1.lines,(10:UInt8)∉s∧s.length <= 1000000) (hn:l.length <= 1000000) (hll:∀x∈l,x.1.lines.length <= 1000000∧x.1.label.length <= 1000000)
  (hz:(cX [] (l.map (·.1))).length <= 1000000):
  Calls Tryz.prog 41 #[.slice ao l.length cap] w fun e w'=>∃v,e=.returned (.tuple #[v,.bool true])∧ah w.heap.size w' v (cX [] (l.map (·.1)))∧Below w.heap.size w w':=by
 obtain ⟨ip,hpi,hp0,hp1,hp2⟩:=info_parts mU;obtain ⟨is,hsi,hs0,hs1,hs2⟩:=info_parts ft;have HRI:=zh (AB (cap:=cap) hR hW h10 hn (fun x hx=>(hll x hx).1));obtain ⟨R,hRR⟩:∃R,cX [] (l.map (·.1))=R:=⟨_,rfl⟩
 have HF0:=zh (show vQ l R 0 [] []from ⟨by rw [List.drop_zero,List.nil_append];exact hRR,⟨false,by rw [List.drop_zero];exact hW⟩,Nat.le_refl _⟩);have HR:=zh hR;have HLL:=zh hll;rw [hRR]at hz⊢;clear hR hW h10 hll hRR;go_enter Tryz.func41,Tryz.ntmps41
 go_wp2_with fail;refine HRI.out.mono ?_;rintro e w1 ⟨rfl,hb1⟩;have hba:=(hb1.alloc hb1.size (.cells #[.slice none 0 0] 22))
 have hbb:=hba.alloc hba.size (.cells #[.slice none 0 0] 61);have hs1':=hb1.size;have d1:((w1.alloc (.cells #[.slice none 0 0] 22)).alloc (.cells #[.slice none 0 0] 61)).heap[w1.heap.size]? =some (.cells #[.slice none 0 0] 22 (0,0)):=by
  have hb:=(Below.refl (w1.heap.size+1) (w1.alloc (.cells #[.slice none 0 0] 22))).alloc (by simp) (.cells #[.slice none 0 0] 61);exact (hb.block w1.heap.size (by omega)).trans (heap_alloc_new w1 _)
 have d2:((w1.alloc (.cells #[.slice none 0 0] 22)).alloc (.cells #[.slice none 0 0] 61)).heap[w1.heap.size+1]? =some (.cells #[.slice none 0 0] 61 (0,0)):=by
  have:=heap_alloc_new (w1.alloc (.cells #[.slice none 0 0] 22)) (.cells #[.slice none 0 0] 61)
  rwa [World.size_alloc]at this
 have HM:=zh (show qV w.heap.size w1.heap.size (w1.heap.size+1) _ (.slice none 0 0) (.slice none 0 0) [] []from ⟨d1,d2,World.ownsRow_nil _ _ _ _,World.ownsRow_nil _ _ _ _,hs1',by omega,hbb.size⟩);have HBB:=zh hbb;clear hb1 hba hbb d1 d2 hs1' HRI;go_upto_region 5 with (fail)
 generalize (w1.alloc (.cells #[.slice none 0 0] 22)).alloc (.cells #[.slice none 0 0] 61)=W1 at HM HBB⊢;obtain ⟨bi,hbi⟩:∃n,w1.heap.size+1=n:=⟨_,rfl⟩
 rw [hbi]at HM⊢;obtain ⟨bo,hbo⟩:∃n,w1.heap.size=n:=⟨_,rfl⟩
 rw [hbo]at HM⊢;clear hbi hbo;go_wp2_with fail;go_loopw [15] (fun u15 wr=>∃(i:Nat) (vo vi:Value) (outL:List (List UInt8)) (inn:List aW),u15=.int .i64 (i:Int)∧i <= l.length∧Hid (qV w.heap.size bo bi wr vo vi outL inn)∧Below w.heap.size w wr∧vQ l R i outL inn) (fun u15 _=>l.length - (intOf u15).toNat)
 case atStart=>exact ⟨0,_,_,[],[],by go_num,Nat.zero_le _,HM,HBB.out,HF0.out⟩
 case round=>
  obtain ⟨i,vo,vi,outL,inn,rfl,hi,HMr,hbw,hfo⟩:=hrel;have HB:=zh hbw;clear HM HBB HF0;have hfl:=congrArg List.length hfo.fo;rw [List.length_append]at hfl;have hil:=hfo.il;by_cases hlt:i<l.length
  ·obtain ⟨x,hx⟩:=bG l i hlt;obtain ⟨g,o,rfl⟩:=HR.out.row.addr (by omega);obtain ⟨k0,k1,k2,k3,k4⟩:=(aY.below HR.out.row hbw).part i x hx;obtain ⟨n1,n2,n3⟩:=hfo.now hx;obtain ⟨lao,lcap,hxv,hxr,hxc⟩:=HR.out.lines x (List.mem_of_getElem? hx);obtain ⟨hll1,hll2⟩:=HLL.out x (List.mem_of_getElem? hx);have hcl:=rz ((inn.drop x.1.depth).map (·.1.opn));rw [List.length_map,List.length_drop]at hcl;have hfo2:=congrArg List.length n3.fo;rw [List.length_append,List.length_append]at hfo2;have hit:(inn.take x.1.depth).length=x.1.depth:=(by rw [List.length_take];omega);obtain ⟨p,xv⟩:=x;simp only at hxv hxr hxc hll1 hll2 k0 k1 k2 k3 k4 n1 n2 n3 hcl hfo2 hit;subst hxv;have hba:=(Below.refl wr.heap.size wr).alloc (Nat.le_refl _) (.cells #[.int .i64 (p.depth:Int),.bool p.div,.string ⟨p.label.toArray⟩,.bool p.opn,.slice lao p.lines.length lcap] 65);have hpx:=heap_alloc_new wr (.cells #[.int .i64 (p.depth:Int),.bool p.div,.string ⟨p.label.toArray⟩,.bool p.opn,.slice lao p.lines.length lcap] 65);have hvil:some wr.heap.size≠vi.ownBlock:=fun e=>by
    have:=(World.ownsRow.lt HMr.out.oi wr.heap.size e.symm).2;omega
   have HMW:=zh (HMr.out.below hba);have HBW:=zh (aa hbw hba);have HPX:=zh (And.intro hpx hvil);have HN:=zh n3;have HXR:=zh hxr;have HIT:=zh hit;have hout:outL.length <= 1000000:=(by omega);clear hba hpx hvil hbw hfo n3 hxr hx HMr hit hfl;go_upto_region 9 with (fail)
   generalize wr.alloc (.cells #[.int .i64 (p.depth:Int),.bool p.div,.string ⟨p.label.toArray⟩,.bool p.opn,.slice lao p.lines.length lcap] 65)=W at HPX HMW HBW⊢;clear k0 k1 k2 k3 k4;obtain ⟨K,hK⟩:∃n,wr.heap.size=n:=⟨_,rfl⟩
   rw [hK]at HPX⊢;clear hK;obtain ⟨k0,k1,k2,k3,k4⟩:=cG HPX.out.1;have HEN:=zh (yb HMW.out p.depth (by omega) (by omega));go_wp2_with fail;refine HEN.out.mono ?_;rintro e w2 ⟨rfl,vo2,vi2,hm2,hb2,hk2,hv2⟩;have HB2:=zh (HBW.out.trans hb2);have hpx2:=hk2 K _ HPX.out.1;have HPX2:=zh (And.intro hpx2 (show some K≠vi2.ownBlock by rw [hv2];exact HPX.out.2));have HM2:=zh hm2;obtain ⟨O,hO⟩:∃O,outL++c7 ((inn.drop p.depth).map (·.1.opn))=O:=⟨_,rfl⟩
   rw [hO]at HM2 HN;have hol:O.length <= 1000000:=by
    have:=congrArg List.length HN.out.fo;rw [List.length_append,List.length_append]at this;omega
   clear hm2 hb2 hk2 hv2 hpx2 hO k0 k1 k2 k3 k4 HEN HMW HBW HPX hcl;obtain ⟨k0,k1,k2,k3,k4⟩:=cG HPX2.out.1;cases hdv:p.div with
   |false=>
    rw [hdv]at k1 HPX2;have HN2:=zh (show vQ l R (i+1) (O++p.lines) (inn.take p.depth)from by
     have h:=HN.out;unfold kq at h;rw [hdv,if_neg (by simp),if_neg (by simp),List.append_nil]at h;exact h)
    clear HN;go_upto_region 13 with (fail)
    have oo:=(HM2).out.oo;unfold ah at oo;obtain ⟨oao,ocap,hvo,_⟩:=ab oo;subst hvo;have co:=cell_of_one (HM2).out.co;have HXR2:=zh (HXR.out.below (HB2).out);clear oo
    go_wp2_with (first
     |(at_builtin;refine dS w2 rfl _ _ 22 rfl w.heap.size 9 is (.string ⟨#[]⟩) 1 16 Tryz.underlying22 hsi hs0 hs1 hs2 rfl (by decide) _ _ _ rfl (HM2).out.oo lao p.lines.length lcap (p.lines.map fV) rfl HXR2.out hxc (kC p.lines) (by unfold maxLen;omega) (by omega) (HM2).out.bB ?_))
    intro v4 w4 hown4 hgrow4;have hown5:ah w.heap.size w4 v4 (O++p.lines):=by
     unfold ah;rw [List.length_append,List.map_append];exact hown4
    obtain ⟨hm5,hb5,hf5,hc5⟩:=(HM2).out.put hgrow4 hown5;obtain ⟨vao,vcp,hvv,_⟩:=ab hown4;subst hvv;have HM5:=zh hm5;have HB5:=zh ((HB2).out.trans hb5);clear hown4 hgrow4 hown5 hm5 hb5 co k0 k1 k2 k3 k4;go_wp2_with fail;go_roundw;case rel=>exact ⟨i+1,_,_,O++p.lines,(inn.take p.depth),by go_num,by omega,HM5,HB5.out,HN2.out⟩
    case measure=>simp [intOf];omega
   |true=>
    rw [hdv]at k1 HPX2;have hpl:=n2 hdv;have HN2:=zh (show vQ l R (i+1) ((O++[iF p.label])++p.lines) (inn.take p.depth++[(p,.slice lao p.lines.length lcap)])from by
     have h:=HN.out;unfold kq at h;rw [hdv,if_pos rfl,if_pos rfl]at h;rw [hpl,List.append_nil];rw [hpl]at h;exact h)
    obtain ⟨X,hX⟩:∃X:ByteArray,(⟨p.label.toArray⟩:ByteArray)=X:=⟨_,rfl⟩
    have hXl:X.data.toList=p.label:=(by rw [<- hX]);have hXz:X.size <= 1000000:=(by rw [Lib.size_eq,hXl];exact hll2);rw [hX]at k2;have s4:(⟨#[58,58,58,123]⟩:ByteArray).size=4:=rfl;have s1:(⟨#[125]⟩:ByteArray).size=1:=rfl;have q1:¬(9223372036854775807:Int)<((⟨#[58,58,58,123]⟩:ByteArray).size:Int)+(X.size:Int):=(by omega);have q2:¬(9223372036854775807:Int)<(((⟨#[58,58,58,123]⟩:ByteArray)++X).size:Int)+((⟨#[125]⟩:ByteArray).size:Int):=(by rw [ByteArray.size_append];omega);obtain ⟨Y,hY⟩:∃Y:ByteArray,(⟨#[58,58,58,123]⟩:ByteArray)++X++(⟨#[125]⟩:ByteArray)=Y:=⟨_,rfl⟩
    have HYl:=zh (show Y.data.toList=iF p.label by
     rw [<- hY];simp only [ByteArray.data_append,Array.toList_append,hXl];unfold iF;simp)
    have oo:=HM2.out.oo;unfold ah at oo;obtain ⟨oao,ocap,hvo,_⟩:=ab oo;subst hvo;have co:=cell_of_one HM2.out.co;clear HN hpl hX hXl s4 s1 oo n2;go_upto_region 11 with (fail)
    have hba:=(Below.refl w2.heap.size w2).alloc (Nat.le_refl _) (.cells #[.string Y] 9);have HMA:=zh (HM2.out.below hba);have HBA:=zh (aa HB2.out hba);have HKA:=zh ((hba.block K (lt_of_block HPX2.out.1)).trans HPX2.out.1);clear hba
    go_wp2_with (first
     |(at_builtin;refine wpList_append_own _ rfl _ _ 22 rfl w.heap.size 9 is (.string ⟨#[]⟩) 1 16 Tryz.underlying22 hsi hs0 hs1 hs2 rfl (by decide) _ _ _ rfl HMA.out.oo ⟨w2.heap.size,0,none⟩ 1 1 [.string Y] rfl rfl (by exact aL _ _ _ _ rfl) (by intro u hu;simp at hu;rcases hu with rfl;rfl) (by unfold maxLen;omega) (by omega) HMA.out.bB ?_))
    intro v4 w4 hown4 hgrow4 _;obtain ⟨hm5,hb5,hf5,hc5⟩:=HMA.out.put hgrow4 (ah.snoc hown4 HYl.out);have hk5:=(HMA.out.keep (v':=v4) hgrow4) K _ HKA.out;obtain ⟨vao,vcp,hvv,_⟩:=ab hown4;subst hvv;have HM5:=zh hm5;have HB5:=zh (HBA.out.trans hb5);have HK5:=zh hk5;clear hown4 hgrow4 hm5 hb5 hk5 co k0 k1 k2 k3 k4 HMA HBA HKA HM2 HB2;go_upto_region 12 with (fail)
    generalize w4.setCell ⟨bo,0,none⟩ (.slice vao (O.length+1) vcp)=w5 at HM5 HB5 HK5⊢;clear hf5 hc5;have oi:=HM5.out.oi;rw [HIT.out]at oi;obtain ⟨iao,icap,hvi,_⟩:=ab oi;subst hvi;have ci:=cell_of_one HM5.out.ci;obtain ⟨k0,k1,k2,k3,k4⟩:=cG HK5.out;have hba:=(Below.refl w5.heap.size w5).alloc (Nat.le_refl _) (.cells #[.int .i64 (p.depth:Int),.bool true,.string ⟨p.label.toArray⟩,.bool p.opn,.slice lao p.lines.length lcap] 65);have HMA:=zh (HM5.out.below hba);have HBA:=zh (aa HB5.out hba);have HKA:=zh ((hba.block K (lt_of_block HK5.out)).trans HK5.out);have hoi:=HMA.out.oi;rw [HIT.out]at hoi;have HOI:=zh hoi;clear hba oi hoi
    go_wp2_with (first
     |(at_builtin;refine wpList_append_own _ rfl _ _ 61 rfl w.heap.size 65 ip (.agg #[.int .i64 0,.bool false,.string ⟨#[]⟩,.bool false,.slice none 0 0]) 5 64 Tryz.underlying61 hpi hp0 hp1 hp2 rfl (by decide) _ _ _ rfl HOI.out ⟨w5.heap.size,0,none⟩ 1 1 [.int .i64 (p.depth:Int),.bool true,.string ⟨p.label.toArray⟩,.bool p.opn,.slice lao p.lines.length lcap] rfl rfl (by exact aL _ _ _ _ rfl) (by intro u hu;simp at hu;rcases hu with rfl|rfl|rfl|rfl|rfl<;>rfl) (by unfold maxLen;omega) (by omega) HMA.out.bB ?_))
    intro v6 w6 hown6 hgrow6 _;obtain ⟨hm7,hb7,hf7,hc7⟩:=HMA.out.push (p,.slice lao p.lines.length lcap) hgrow6 (by rw [HIT.out];unfold aq;simp only;rw [hdv];exact hown6);have hk6:=(hgrow6.block K (lt_of_block HKA.out) HPX2.out.2).trans HKA.out;have hk7:(w6.setCell ⟨bi,0,none⟩ v6).heap[K]? =some (.cells #[.int .i64 (p.depth:Int),.bool true,.string ⟨p.label.toArray⟩,.bool p.opn,.slice lao p.lines.length lcap] 65 (0,0)):=(Below.heap_setCell _ _ _ _ (fun e=>by
     have h1:=HMA.out.ci;simp only at e;rw [<- e,HKA.out]at h1;simp only [Option.some.injEq,Obj.cells.injEq]at h1;exact absurd h1.2.1 (by decide))).trans hk6
    obtain ⟨vao6,vcp6,hvv6,_⟩:=ab hown6;subst hvv6;have HM7:=zh hm7;have HB7:=zh (HBA.out.trans hb7);have HK7:=zh hk7;clear hown6 hgrow6 hm7 hb7 hk6 hk7 ci k0 k1 k2 k3 k4 HMA HBA HKA HM5 HB5 HK5 HOI;go_upto_region 13 with (fail)
    generalize w6.setCell ⟨bi,0,none⟩ (.slice vao6 (p.depth+1) vcp6)=w7 at HM7 HB7 HK7⊢;clear hf7 hc7;obtain ⟨k0,k1,k2,k3,k4⟩:=cG HK7.out;have hol2:(O++[iF p.label]).length <= 1000001:=(by rw [List.length_append];simp;omega);obtain ⟨vo7,hvo7⟩:∃v,Value.slice vao (O.length+1) vcp=v:=⟨_,rfl⟩
    obtain ⟨O2,hO2⟩:∃l,O++[iF p.label]=l:=⟨_,rfl⟩
    rw [hvo7,hO2]at HM7;rw [hO2]at HN2 hol2;clear hvo7 hO2;go_upto_region 13 with (fail)
    have oo:=(HM7).out.oo;unfold ah at oo;obtain ⟨oao,ocap,hvo,_⟩:=ab oo;subst hvo;have co:=cell_of_one (HM7).out.co;have HXR2:=zh (HXR.out.below (HB7).out);clear oo
    go_wp2_with (first
     |(at_builtin;refine dS w7 rfl _ _ 22 rfl w.heap.size 9 is (.string ⟨#[]⟩) 1 16 Tryz.underlying22 hsi hs0 hs1 hs2 rfl (by decide) _ _ _ rfl (HM7).out.oo lao p.lines.length lcap (p.lines.map fV) rfl HXR2.out hxc (kC p.lines) (by unfold maxLen;omega) (by omega) (HM7).out.bB ?_))
    intro v4 w4 hown4 hgrow4;have hown5:ah w.heap.size w4 v4 (O2++p.lines):=by
     unfold ah;rw [List.length_append,List.map_append];exact hown4
    obtain ⟨hm5,hb5,hf5,hc5⟩:=(HM7).out.put hgrow4 hown5;obtain ⟨vao,vcp,hvv,_⟩:=ab hown4;subst hvv;have HM5:=zh hm5;have HB5:=zh ((HB7).out.trans hb5);clear hown4 hgrow4 hown5 hm5 hb5 co k0 k1 k2 k3 k4;go_wp2_with fail;go_roundw;case rel=>exact ⟨i+1,_,_,O2++p.lines,(inn.take p.depth++[(p,.slice lao p.lines.length lcap)]),by go_num,by omega,HM5,HB5.out,HN2.out⟩
    case measure=>simp [intOf];omega
  ·obtain rfl:i=l.length:=(by omega);have hfe:=hfo.fo;rw [List.drop_length,List.map_nil]at hfe;have hfe2:outL++c7 ((inn.drop 0).map (·.1.opn))=R:=(by rw [List.drop_zero];exact hfe);have HEN:=zh (yb HMr.out 0 (by omega) (by omega));rw [hfe2]at HEN;clear hfe hfe2 hfl hfo hbw HMr;go_wp2_with fail;refine HEN.out.mono ?_;rintro e w2 ⟨rfl,vo2,vi2,hm2,hb2,hk2,hv2⟩;have HB2:=zh (HB.out.trans hb2);have HOO:=zh hm2.oo;have co:=cell_of_one hm2.co;clear hm2 hb2 hk2 hv2 HEN;go_wp2_with fail
   go_ret2
   exact ⟨_,rfl,HOO.out,HB2.out⟩
end Go.Proofs.YtcannffahjbjnaaGreatDoor
