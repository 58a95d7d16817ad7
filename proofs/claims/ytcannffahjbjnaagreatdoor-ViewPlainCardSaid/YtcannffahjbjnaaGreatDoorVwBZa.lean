import Derived.Test.YtcannffahjbjnaaGreatDoorVwBZ
set_option linter.unusedVariables false
set_option linter.unusedSimpArgs false
set_option maxRecDepth 100000
set_option maxHeartbeats 64000000
namespace Go.Proofs.YtcannffahjbjnaaGreatDoor
def iF (bs:List ak):Prop:=∀x∈bs,x.kind=1 ->x.text≠[]
theorem iF.app {a b:List ak} (h:iF a) (h2:iF b):iF (a++b):=fun x hx=>by
 rcases List.mem_append.1 hx with hx|hx
 ·exact h x hx
 ·exact h2 x hx
theorem iF.cons {a:ak} {b:List ak} (h:a.kind=1 ->a.text≠[]) (h2:iF b):iF (a::b):=fun x hx=>by
 rcases List.mem_cons.1 hx with rfl|hx
 ·exact h
 ·exact h2 x hx
theorem iF.nil:iF []:=fun x h=>by cases h
theorem iF.one {a:ak} (h:a.kind≠1):iF [a]:=iF.cons (fun e=>absurd e h) iF.nil
theorem pG (d:Nat):∀(l acc:List (List UInt8)) (k:Nat),∃r,(bz d l acc k).1=acc++r
 |[],acc,k=>⟨[],by rw [bz];simp⟩
 |s::t,acc,k=>by
  rw [bz];split
  ·exact ⟨[],by simp⟩
  ·split
   ·exact ⟨[],by simp⟩
   ·obtain ⟨r,hr⟩:=pG d t (acc++[ab s]) (k+1);exact ⟨ab s::r,by rw [hr];simp⟩
theorem tB {p:UInt8 ->Bool}:∀{s:List UInt8},s.dropWhile p=[] ->∀c∈s,p c=true
 |[],_,c,hc=>by cases hc
 |d::s,h,c,hc=>by
  by_cases hd:p d=true
  ·rw [List.dropWhile_cons_of_pos hd]at h;rcases List.mem_cons.1 hc with rfl|hc
   ·exact hd
   ·exact tB h c hc
  ·rw [List.dropWhile_cons_of_neg hd]at h;cases h
theorem ze {p:UInt8 ->Bool} {s:List UInt8} {c:UInt8} (hc:c∈s) (hp:p c=false):ai p s≠[]:=by
 unfold ai;intro e;have h1:s.reverse.dropWhile p=[]:=(by simpa using e);have h2:=tB h1 c (by simpa using hc);rw [hp]at h2;cases h2
theorem Bf {s:List UInt8} (h:af s=false):∃c,c∈ab s∧ag c=false:=by
 induction s with
 |nil=>cases h
 |cons c s ih=>
  by_cases hc:ag c=true
  ·obtain ⟨d,hd,h2⟩:=ih (by unfold af at h⊢;rw [List.all_cons,hc,Bool.true_and]at h;exact h);refine ⟨d,?_,h2⟩;unfold ab at hd⊢;rw [List.dropWhile_cons_of_pos hc];exact hd
  ·refine ⟨c,?_,by simpa using hc⟩;unfold ab;rw [List.dropWhile_cons_of_neg hc];exact List.mem_cons_self ..
theorem vW {x:List UInt8} {c:UInt8} (hc:c∈x):∀(r:List (List UInt8)),c∈bh (x::r)
 |[]=>hc
 |y::r=>by
  rw [bh];exact List.mem_append_left _ hc
theorem rk {W:Nat ->List (List UInt8) ->List ak} (hW:∀d l,iF (W d l)) (d:Nat) (sign:UInt8) (l:List (List UInt8)):∀f a e,iF (aJ W d sign l f a e).1
 |0,a,e=>iF.nil
 |f+1,a,e=>by
  rw [aJ];split
  ·exact iF.nil
  ·split
   ·exact iF.nil
   ·dsimp only
    exact iF.cons (fun h=>by cases h) (iF.app (hW _ _) (rk hW d sign l f _ _))
theorem A1 {W:Nat ->List (List UInt8) ->List ak} (hW:∀d l,iF (W d l)) (d:Nat) (l:List (List UInt8)):iF (bC W d l).1:=by
 unfold bC
 dsimp only
 split
 ·exact iF.nil
 ·rename_i hb;split
  ·exact iF.one (by simp [eC])
  ·split
   ·exact iF.one (by simp [eC])
   ·split
    ·exact iF.one (by simp)
    ·split
     ·exact iF.one (by simp)
     ·split
      ·exact iF.cons (fun h=>by cases h) (hW _ _)
      ·split
       ·exact iF.cons (fun h=>by cases h) (rk hW d _ l _ _ _)
       ·split
        ·exact iF.one (by simp)
        ·split
         ·exact iF.one (by simp)
         ·refine iF.cons (fun _=>?_) iF.nil;simp only;have hb2:af (bS l 0)=false:=(by simpa using hb);cases l with
          |nil=>exact absurd hb2 (by decide)
          |cons s t=>
           obtain ⟨c,hc,hcb⟩:=Bf (s:=s) hb2;have h1:(bz d (s::t) [] 0).1=(bz d t [ab s] 1).1:=by
            rw [bz,if_neg (by simp),if_neg (by simp)];rfl
           obtain ⟨r,hr⟩:=pG d t [ab s] 1;rw [h1,hr];exact ze (vW hc r) hcb
theorem xh {W:Nat ->List (List UInt8) ->List ak} (hW:∀d l,iF (W d l)):∀n d l,iF (c7 W n d l)
 |0,d,l=>iF.nil
 |n+1,d,l=>by
  rw [c7];split
  ·exact iF.nil
  ·exact iF.app (A1 hW d l) (xh hW n d _)
theorem nQ:∀k d l,iF (ec k d l)
 |0,d,l=>iF.nil
 |k+1,d,l=>by
  rw [ec];exact xh (nQ k) _ d l
def fD (c:UInt8):Nat:=if c=0∨c=91 then 1 else 0
theorem CR:∀{s:List UInt8},(∀c∈s,c≠0∧c≠91) ->ms fD s=0
 |[],_=>rfl
 |c::s,h=>by
  have h1:=h c (List.mem_cons_self ..);rw [bM,CR (fun d hd=>h d (List.mem_cons_of_mem _ hd)),fD,if_neg (by rintro (e|e)<;>simp [e]at h1)]
theorem CQ {s:List UInt8} (h:ms fD s=0):(0:UInt8)∉s∧(91:UInt8)∉s:=by
 refine ⟨fun hm=>?_,fun hm=>?_⟩
 ·have:=wg (f:=fD) hm;rw [h]at this;exact absurd this (by decide)
 ·have:=wg (f:=fD) hm;rw [h]at this;exact absurd this (by decide)
theorem BA:∀{l:List (List UInt8)},(∀s∈l,∀c∈s,c≠0∧c≠91) ->ey fD l=0
 |[],_=>rfl
 |s::l,h=>by
  rw [aP,CR (h s (List.mem_cons_self ..)),BA (fun x hx=>h x (List.mem_cons_of_mem _ hx))];rfl
theorem Cq {t:List UInt8} (h:(91:UInt8)∉t):(cA t).2=false:=by
 unfold cA;cases t with
 |nil=>rfl
 |cons c t=>
  have hc:c≠91:=fun e=>h (by rw [e];exact List.mem_cons_self ..);have:(bf 91 (c::t)).2=false:=by
   cases hb:(bf 91 (c::t)).2 with
   |false=>rfl
   |true=>
    have hb2:Lib.hasPrefix (c::t) [91]=true:=hb;unfold Lib.hasPrefix at hb2;obtain ⟨u,hu⟩:=List.isPrefixOf_iff_prefix.1 hb2;rw [List.singleton_append,List.cons.injEq]at hu;exact absurd hu.1.symm hc
  rw [if_pos this]
theorem zx {b:aq} {x:ak} (ha:b.atoms=[]) (h1:x.kind=1 ->x.text≠[]) (h2:(0:UInt8)∉x.text∧(91:UInt8)∉x.text) (h3:(0:UInt8)∉x.info):cV b x={b with blocks:=b.blocks++[x]}:=by
 unfold cV;split
 ·rename_i hk;have ht:=h1 hk;have hc:(aF 10 x.text).1.Sublist x.text:=by
   unfold aF Lib.cut;split
   ·exact List.take_sublist _ _
   ·exact List.Sublist.refl _
  have hp:dD (x.text.length+1) b x.text=(x.text,b):=by
   rw [dD,if_neg ht];have hz:(0:UInt8)∉(aF 10 x.text).1:=fun e=>h2.1 (hc.subset e);simp only [fS b.atoms _ hz,Cq (fun e=>h2.2 (hc.subset e)),if_true]
  rw [hp];simp only;rw [if_neg ht]
 ·split
  ·rw [fS _ _ h2.1,fS _ _ h3]
  ·rfl
theorem uX:∀(l:List ak) (b:aq),b.atoms=[] ->(∀x∈l,(x.kind=1 ->x.text≠[])∧((0:UInt8)∉x.text∧(91:UInt8)∉x.text)∧(0:UInt8)∉x.info) ->l.foldl cV b={b with blocks:=b.blocks++l}
 |[],b,_,_=>by simp
 |x::l,b,ha,h=>by
  obtain ⟨h1,h2,h3⟩:=h x (List.mem_cons_self ..);rw [List.foldl_cons,zx ha h1 h2 h3,uX l {b with blocks:=b.blocks++[x]} ha (fun y hy=>h y (List.mem_cons_of_mem _ hy))];simp
def fJ (c:UInt8):Bool:=decide (32 <= c.toNat)&&decide (c.toNat<127)&&c !=123&&c !=91
theorem Bb {c:UInt8} (h:fJ c=true):DJ c=true∧c≠10∧c≠123∧c≠0∧c≠91:=by
 have h':∀n:Fin 256,fJ (UInt8.ofNat n.val)=true ->DJ (UInt8.ofNat n.val)=true∧UInt8.ofNat n.val≠10∧UInt8.ofNat n.val≠123∧UInt8.ofNat n.val≠0∧UInt8.ofNat n.val≠91:=(by decide+kernel);have:=h' ⟨c.toNat,c.toNat_lt⟩;simpa using this (by simpa using h)
theorem y8 (z:bT) (l:List (List UInt8)) (h:∀s∈l,∀c∈s,fJ c=true):m9 z (bI l)={aq.none with blocks:=dU l}:=by
 have h2:=fun s hs c hc=>Bb (h s hs c hc);have hlines:bW (cK (bI l))=l:=by
  rw [sK]
  ·exact pA _ fun x hx e=>(h2 x hx _ e).2.1 rfl
  ·intro c hcc;unfold bI at hcc;obtain ⟨x,h3,h4⟩:=List.mem_flatMap.1 hcc;rcases List.mem_append.1 h4 with h4|h4
   ·exact (h2 x h3 c h4).1
   ·rw [List.mem_singleton.1 h4];decide
 have hno:∀y∈l,ry y=true:=fun y hy=>by
  unfold ry cQ;have hp:Lib.hasPrefix (fe y) [58,58,58,123]=false:=by
   cases hb:Lib.hasPrefix (fe y) [58,58,58,123]with
   |false=>rfl
   |true=>
    unfold Lib.hasPrefix at hb;have hm:(123:UInt8)∈fe y:=(List.isPrefixOf_iff_prefix.1 hb).subset (by decide);have hs:(fe y).Sublist y:=fm _ _;exact absurd rfl (h2 y hy _ (hs.subset hm)).2.2.1
  simp only [hp,if_true];rfl
 have hbk:∀x∈dU l,(x.kind=1 ->x.text≠[])∧((0:UInt8)∉x.text∧(91:UInt8)∉x.text)∧(0:UInt8)∉x.info:=fun x hx=>by
  have hb:=li (f:=fD) (by decide) l x hx;rw [BA (fun s hs c hc=>⟨(h2 s hs c hc).2.2.2.1,(h2 s hs c hc).2.2.2.2⟩)]at hb;exact ⟨nQ 14 0 l x hx,CQ (by omega),(CQ (s:=x.info) (by omega)).1⟩
 unfold m9;rw [hlines];have hv:∀y∈l,(123:UInt8)∉y:=fun y hy e=>(h2 y hy _ e).2.2.1 rfl;have hpart:((fj l).foldl (dM z) (aq.none,[],none)).1={aq.none with blocks:=dU l}:=by
  cases l with
  |nil=>rfl
  |cons x t=>
   rw [tG x t hno,List.foldl_cons,List.foldl_nil];unfold dM lN;simp only [List.take_nil,mz z [] (x::t) aq.none hv];simp [aq.none]
 rw [hpart];unfold mO;rw [uX (dU l) _ rfl hbk];rfl
end Go.Proofs.YtcannffahjbjnaaGreatDoor
