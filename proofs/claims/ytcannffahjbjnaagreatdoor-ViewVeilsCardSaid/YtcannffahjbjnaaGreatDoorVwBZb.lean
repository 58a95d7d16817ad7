import Derived.Test.YtcannffahjbjnaaGreatDoorVwBZa
set_option linter.unusedVariables false
set_option linter.unusedSimpArgs false
set_option maxRecDepth 100000
set_option maxHeartbeats 64000000
namespace Go.Proofs.YtcannffahjbjnaaGreatDoor
def aw (p:ai):List UInt8:=123::124::(p.label++58::(p.text++[124,125]))
def fh (p:ai):List UInt8:=if p.span then aw p else p.text
def bJ (l:List ai):List UInt8:=l.flatMap fh
structure nI (em:ai ->ai):Prop where
 gap:∀p,p.span=false ->em p=p
 span:∀p,p.span=true ->em p=p∨em p=⟨true,p.label,[]⟩
theorem m6 {l:List UInt8} (h:bh l=true):(58:UInt8)∉l∧(123:UInt8)∉l:=by
 unfold bh at h;simp only [Bool.and_eq_true]at h;have h1:=List.all_eq_true.1 h.1.1;exact ⟨fun e=>absurd (h1 _ e) (by decide),fun e=>absurd (h1 _ e) (by decide)⟩
theorem Dp {l:List UInt8} (h:(58:UInt8)∈l):∃a b,l=a++58::b∧(58:UInt8)∉a:=by
 induction l with
 |nil=>cases h
 |cons c l ih=>
  by_cases hc:c=58
  ·exact ⟨[],l,by rw [hc];rfl,by simp⟩
  ·obtain ⟨a,b,hab,ha⟩:=ih (by rcases List.mem_cons.1 h with e|e;exact absurd e.symm hc;exact e);refine ⟨c::a,b,by rw [hab];rfl,fun e=>?_⟩;rcases List.mem_cons.1 e with e|e
   ·exact hc e.symm
   ·exact ha e
theorem DK (t:List UInt8):Lib.hasPrefix (123::124::t) [123,124]=true∧Lib.trimPrefix (123::124::t) [123,124]=t:=by
 have hp:Lib.hasPrefix (123::124::t) [123,124]=true:=(by simp [Lib.hasPrefix]);refine ⟨hp,?_⟩;unfold Lib.trimPrefix;rw [if_pos hp];rfl
theorem ny (t:List UInt8):al (123::124::t)=if (az 58 t).2.2=false∨bh (az 58 t).1=false then (⟨false,[],[]⟩,0)else match eR 124 125 (az 58 t).2.1 with
      |none=>(⟨false,[],[]⟩,0)
      |some text=>(⟨true,(az 58 t).1,text⟩,(az 58 t).1.length+text.length+5):=by
 obtain ⟨h1,h2⟩:=DK t;unfold al;simp only [h1,h2];rfl
theorem vp {s:List UInt8} (h:∀t,s≠123::124::t):(al s).2=0:=by
 have hp:Lib.hasPrefix s [123,124]=false:=by
  cases hb:Lib.hasPrefix s [123,124]with
  |false=>rfl
  |true=>
   unfold Lib.hasPrefix at hb;obtain ⟨u,hu⟩:=List.isPrefixOf_iff_prefix.1 hb;exact absurd hu.symm (h u)
 unfold al;simp only [hp,if_true]
theorem pA {lab txt:List UInt8} (y:List UInt8) (hl:bh lab=true) (ht:eR 124 125 (txt++124::125::y)=some txt):al (aw ⟨true,lab,txt⟩++y)=(⟨true,lab,txt⟩,lab.length+txt.length+5):=by
 have hs:aw ⟨true,lab,txt⟩++y=123::124::(lab++58::(txt++124::125::y)):=(by simp [aw]);rw [hs,ny,mF 58 lab _ (m6 hl).1];simp only [hl,ht];simp
theorem fO {s:List UInt8} (h:(al s).2≠0):∃lab txt y,al s=(⟨true,lab,txt⟩,lab.length+txt.length+5)∧bh lab=true∧eR 124 125 (txt++124::125::y)=some txt∧s=aw ⟨true,lab,txt⟩++y:=by
 by_cases h1:∃t,s=123::124::t
 ·obtain ⟨t,rfl⟩:=h1;rw [ny]at h;by_cases h2:(az 58 t).2.2=false∨bh (az 58 t).1=false
  ·rw [if_pos h2]at h;exact absurd rfl h
  ·have hc:(az 58 t).2.2=true:=by cases hb:(az 58 t).2.2 with
    |true=>rfl
    |false=>exact absurd (Or.inl hb) h2
   have hl:bh (az 58 t).1=true:=by cases hb:bh (az 58 t).1 with
    |true=>rfl
    |false=>exact absurd (Or.inr hb) h2
   have ht:=oB 58 t hc;rw [if_neg h2]at h;cases hx:eR 124 125 (az 58 t).2.1 with
   |none=>rw [hx]at h;exact absurd rfl h
   |some txt=>
    obtain ⟨y,hy⟩:=pV hx;refine ⟨(az 58 t).1,txt,y,?_,hl,by rw [<- hy];exact hx,?_⟩
    ·rw [ny,if_neg h2,hx]
    ·rw [hy]at ht;have e2:aw ⟨true,(az 58 t).1,txt⟩++y=123::124::((az 58 t).1++58::(txt++124::125::y)):=(by simp [aw]);rw [e2,<- ht]
 ·exact absurd (vp fun t e=>h1 ⟨t,e⟩) h
def aC (em:ai ->ai):Nat ->List UInt8 ->List UInt8
 |0,_=>[]
 |_+1,[]=>[]
 |f+1,c::t=>if (al (c::t)).2=0 then c::aC em f t else aw (em (al (c::t)).1)++aC em f ((c::t).drop (al (c::t)).2)
theorem xH (a b:List ai):bJ (a++b)=bJ a++bJ b:=by simp [bJ]
theorem qN (em:ai ->ai) (h:nI em) (acc:List UInt8):bJ ((l8 acc).map em)=acc:=by
 unfold l8;split
 ·rename_i ha;rw [ha];rfl
 ·rw [List.map_cons,List.map_nil,h.gap _ rfl];simp [bJ,fh]
theorem ya {em:ai ->ai} (h:nI em) {p:ai} (hp:p.span=true):(em p).span=true∧(em p).label=p.label:=by
 rcases h.span p hp with e|e<;>rw [e]
 ·exact ⟨hp,rfl⟩
 ·exact ⟨rfl,rfl⟩
theorem lu {em:ai ->ai} (h:nI em):∀(f:Nat) (s acc:List UInt8),s.length<f ->bJ ((bD f s acc).map em)=acc++aC em f s
 |0,s,acc,hf=>by omega
 |f+1,[],acc,_=>by rw [li,qN em h,aC,List.append_nil]
 |f+1,c::t,acc,hf=>by
  rw [aC];by_cases h0:(al (c::t)).2=0
  ·rw [if_pos h0,gY h0,lu h f t _ (by simp at hf;omega)];simp
  ·obtain ⟨lab,txt,y,hs,hl,hc,hst⟩:=fO h0;have h5:=gp (c::t) h0;rw [if_neg h0,lk h0,List.map_append,List.map_cons,xH,qN em h];have hi:=lu h f ((c::t).drop (al (c::t)).2) [] (by rw [List.length_drop];simp at hf⊢;omega);rw [List.nil_append]at hi;rw [show bJ (em (al (c::t)).1::List.map em (bD f ((c::t).drop (al (c::t)).2) []))=fh (em (al (c::t)).1)++bJ (List.map em (bD f ((c::t).drop (al (c::t)).2) []))from rfl,hi];unfold fh;rw [if_pos (ya h (by rw [hs])).1]
theorem oF {em:ai ->ai} (h:nI em):∀(f:Nat) (s:List UInt8),s.length<f ->∃g,(s=g∧aC em f s=g)∨∃lab txt txt' y y',bh lab=true∧s=g++(aw ⟨true,lab,txt⟩++y)∧aC em f s=g++(aw ⟨true,lab,txt'⟩++y')
 |0,s,hf=>by omega
 |f+1,[],_=>⟨[],Or.inl ⟨rfl,rfl⟩⟩
 |f+1,c::t,hf=>by
  rw [aC];by_cases h0:(al (c::t)).2=0
  ·rw [if_pos h0];obtain ⟨g,hg⟩:=oF h f t (by simp at hf;omega);refine ⟨c::g,?_⟩;rcases hg with ⟨h1,h2⟩|⟨lab,txt,txt',y,y',hl,h1,h2⟩
   ·exact Or.inl ⟨by rw [h1],by rw [h2]⟩
   ·exact Or.inr ⟨lab,txt,txt',y,y',hl,by rw [h1];rfl,by rw [h2];rfl⟩
  ·rw [if_neg h0];obtain ⟨lab,txt,y,hs,hl,hc,hst⟩:=fO h0;refine ⟨[],Or.inr ⟨lab,txt,(em (al (c::t)).1).text,y,aC em f ((c::t).drop (al (c::t)).2),hl,hst,?_⟩⟩;have he:=ya h (p:=(al (c::t)).1) (by rw [hs]);rw [List.nil_append];congr 1;unfold aw;rw [he.2,hs]
theorem xY (a b:UInt8) (y:List UInt8):∀x:List UInt8,eR a b (x++a::b::y)≠none
 |[]=>by simp [eR]
 |c::x=>by
  rw [List.cons_append,eR];split
  ·simp
  ·intro e;exact xY a b y x (by simpa using e)
theorem iE {a b:UInt8} {y:List UInt8} (y':List UInt8):∀{x:List UInt8},eR a b (x++a::b::y)=some x ->eR a b (x++a::b::y')=some x
 |[],_=>by simp [eR]
 |c::x,h=>by
  rw [List.cons_append,eR]at h⊢;have hh:(x++a::b::y').head? =(x++a::b::y).head? :=(by cases x<;>rfl);rw [hh];split at h
  ·cases Option.some.inj h
  ·rename_i hn;rw [if_neg hn];cases hu:eR a b (x++a::b::y)with
   |none=>rw [hu]at h;cases h
   |some u=>
    rw [hu]at h;have:=Option.some.inj h;rw [List.cons.injEq]at this;obtain ⟨_,rfl⟩:=this;rw [iE y' hu];rfl
theorem zQ {u lab txt txt' y y':List UInt8} (hu:u≠[]) (hl:bh lab=true) (h:(al (u++(aw ⟨true,lab,txt⟩++y))).2=0):(al (u++(aw ⟨true,lab,txt'⟩++y'))).2=0:=by
 apply Classical.byContradiction;intro hne;obtain ⟨lab2,txt2,y2,_,hl2,hc2,hs2⟩:=fO hne;have hl2':=m6 hl2
 match u,hu with
 |[c],_=>
  simp [aw]at hs2
 |c::d::u2,_=>
  have e1:aw ⟨true,lab2,txt2⟩++y2=123::124::(lab2++58::(txt2++124::125::y2)):=(by simp [aw]);rw [e1,List.cons_append,List.cons_append,List.cons.injEq,List.cons.injEq]at hs2;obtain ⟨rfl,rfl,hs2⟩:=hs2;have hcut2:az 58 (u2++(aw ⟨true,lab,txt'⟩++y'))=(lab2,txt2++124::125::y2,true):=(by rw [hs2,mF 58 lab2 _ hl2'.1]);by_cases h58:(58:UInt8)∈u2
  ·obtain ⟨a,b,hab,ha⟩:=Dp h58;rw [hab]at hcut2;rw [List.append_assoc,List.cons_append,mF 58 a _ ha,Prod.mk.injEq]at hcut2;have hla:bh a=true:=(by rw [hcut2.1];exact hl2);rw [List.cons_append,List.cons_append,ny,hab,List.append_assoc,List.cons_append,mF 58 a _ ha]at h;simp only [hla]at h;have hc:=xY 124 125 y (b++(123::124::(lab++58::txt)));have e3:b++(123::124::(lab++58::txt))++124::125::y=b++(aw ⟨true,lab,txt⟩++y):=(by simp [aw]);rw [e3]at hc;cases hx:eR 124 125 (b++(aw ⟨true,lab,txt⟩++y))with
   |none=>exact hc hx
   |some x=>
    rw [hx]at h;simp at h
  ·have e4:u2++(aw ⟨true,lab,txt'⟩++y')=(u2++123::124::lab)++58::(txt'++124::125::y'):=(by simp [aw]);have hn:(58:UInt8)∉u2++123::124::lab:=by
    intro hm;rcases List.mem_append.1 hm with hm|hm
    ·exact h58 hm
    ·rcases List.mem_cons.1 hm with hm|hm
     ·exact absurd hm (by decide)
     ·rcases List.mem_cons.1 hm with hm|hm
      ·exact absurd hm (by decide)
      ·exact (m6 hl).1 hm
   rw [e4,mF 58 _ _ hn,Prod.mk.injEq]at hcut2;exact hl2'.2 (by rw [<- hcut2.1];simp)
theorem Bs {em:ai ->ai} (h:nI em) (acc:List UInt8):(l8 acc).map em=l8 acc:=by
 unfold l8;split
 ·rfl
 ·rw [List.map_cons,List.map_nil,h.gap _ rfl]
theorem kB {em:ai ->ai} (h:nI em):∀(f:Nat) (s acc:List UInt8) (f':Nat),s.length<f ->(aC em f s).length<f' ->bD f' (aC em f s) acc=(bD f s acc).map em
 |0,s,acc,f',hf,_=>by omega
 |f+1,[],acc,0,_,hf'=>by omega
 |f+1,[],acc,f'+1,_,_=>by rw [li,aC,li,Bs h]
 |f+1,c::t,acc,0,_,hf'=>by omega
 |f+1,c::t,acc,f'+1,hf,hf'=>by
  rw [aC]at hf'⊢;by_cases h0:(al (c::t)).2=0
  ·rw [if_pos h0]at hf'⊢;have hk:(al (c::aC em f t)).2=0:=by
    obtain ⟨g,hg⟩:=oF h f t (by simp at hf;omega);rcases hg with ⟨h1,h2⟩|⟨lab,txt,txt',y,y',hl,h1,h2⟩
    ·rw [h2,<- h1];exact h0
    ·rw [h1,<- List.cons_append]at h0;rw [h2,<- List.cons_append];exact zQ (by simp) hl h0
   rw [gY hk,gY h0];exact kB h f t _ f' (by simp at hf;omega) (by simp at hf';omega)
  ·rw [if_neg h0]at hf'⊢;obtain ⟨lab,txt,y,hs,hl,hc,hst⟩:=fO h0;have h5:=gp (c::t) h0;obtain ⟨E,hE⟩:∃E,aC em f ((c::t).drop (al (c::t)).2)=E:=⟨_,rfl⟩
   obtain ⟨txt',hem,hc'⟩:∃txt',em ⟨true,lab,txt⟩=⟨true,lab,txt'⟩∧eR 124 125 (txt'++124::125::E)=some txt':=by
    rcases h.span ⟨true,lab,txt⟩ rfl with e|e
    ·exact ⟨txt,e,iE E hc⟩
    ·exact ⟨[],e,by simp [eR]⟩
   have hi:=kB h f ((c::t).drop (al (c::t)).2) [] f' (by rw [List.length_drop];simp at hf⊢;omega) (by rw [hE]at hf'⊢;simp [hs,hem,aw]at hf';omega);rw [hE]at hi hf'⊢;have hsp:=pA E hl hc';rw [lk h0,List.map_append,Bs h,List.map_cons,<- hi];rw [show (al (c::t)).1=⟨true,lab,txt⟩ by rw [hs],hem];obtain ⟨d,r,hdr⟩:∃d r,aw ⟨true,lab,txt'⟩++E=d::r:=⟨123,_,rfl⟩
   rw [hdr]at hsp⊢;rw [lk (by rw [hsp];simp),hsp];congr 2;rw [<- hdr];simp only;rw [show lab.length+txt'.length+5=(aw ⟨true,lab,txt'⟩).length by simp [aw];omega,List.drop_left]
theorem vq {em:ai ->ai} (h:nI em) (s:List UInt8):bX (bJ ((bX s).map em))=(bX s).map em:=by
 have h1:=lu h (s.length+1) s [] (by omega);rw [List.nil_append]at h1;have h2:=kB h (s.length+1) s [] ((aC em (s.length+1) s).length+1) (by omega) (by omega);unfold bX;rw [h1,h2]
theorem uu (a b:UInt8):∀(x:List UInt8),a∉x ->ev a b x=none
 |[],_=>rfl
 |c::t,hx=>by
  have hc:c≠a:=fun e=>hx (by rw [e];exact List.mem_cons_self ..);rw [ev,uu a b t (fun e=>hx (List.mem_cons_of_mem _ e))];simp [hc]
theorem rU (a b:UInt8) (y:List UInt8) (h:a∉b::y):∀(x:List UInt8),ev a b (x++a::b::y)=some x.length
 |[]=>by
  rw [List.nil_append,ev,uu a b _ h];simp
 |c::x=>by
  rw [List.cons_append,ev,rU a b y h x];simp
def mA (a:List UInt8):Prop:=∃i j r,i <= 3∧1 <= j∧j <= 6∧a=List.replicate i 32++(List.replicate j 35++32::r)
def d9 (lab:List UInt8) (k:Nat):List UInt8:=123::61::(lab++125::List.replicate k 32)
theorem ww (c:UInt8) (t:List UInt8) (h:t.head? ≠some c):∀i,(List.replicate i c++t).dropWhile (·==c)=t
 |0=>by
  cases t with
  |nil=>rfl
  |cons d t=>
   have:d≠c:=(by simpa using h);rw [List.replicate_zero,List.nil_append,List.dropWhile_cons_of_neg (by simpa using this)]
 |i+1=>by
  rw [List.replicate_succ,List.cons_append,List.dropWhile_cons_of_pos (by simp),ww c t h i]
theorem mI (c:UInt8):∀l:List UInt8,l=List.replicate (l.length - (l.dropWhile (·==c)).length) c++l.dropWhile (·==c)
 |[]=>rfl
 |d::l=>by
  by_cases hd:d=c
  ·subst hd;have ih:=mI d l;have hle:(l.dropWhile (·==d)).length <= l.length:=(List.dropWhile_sublist _).length_le;rw [List.dropWhile_cons_of_pos (by simp),List.length_cons,show l.length+1 - (l.dropWhile (·==d)).length=(l.length - (l.dropWhile (·==d)).length)+1 by omega,List.replicate_succ,List.cons_append,<- ih]
  ·rw [List.dropWhile_cons_of_neg (by simpa using hd)];simp
theorem oK (a b:UInt8):∀(l:List UInt8) (k:Nat),ev a b l=some k ->l=l.take k++a::b::l.drop (k+2)
 |[],k,h=>by simp [ev]at h
 |c::t,k,h=>by
  rw [ev]at h;cases ht:ev a b t with
  |some j=>
   rw [ht]at h;obtain rfl:=Option.some.inj h;have:=oK a b t j ht;rw [List.take_succ_cons,show j+1+2=(j+2)+1 from rfl,List.drop_succ_cons,List.cons_append,<- this]
  |none=>
   rw [ht]at h;simp only at h;split at h
   ·rename_i hc;obtain rfl:=Option.some.inj h;obtain ⟨rfl,h2⟩:=hc;cases t with
    |nil=>simp at h2
    |cons d t=>
     obtain rfl:d=b:=(by simpa using h2);rfl
   ·cases h
theorem fk (s:List UInt8):∃k,s=bW s++List.replicate k 32:=by
 have h:=mI 32 s.reverse;refine ⟨s.reverse.length - (s.reverse.dropWhile (·==32)).length,?_⟩;have h2:=congrArg List.reverse h;rw [List.reverse_reverse,List.reverse_append,List.reverse_replicate]at h2;exact h2
theorem sE (lab x:List UInt8):(x++123::61::(lab++[125])).getLast? =some 125:=by
 rw [show x++123::61::(lab++[125])=(x++123::61::lab)++[125] by simp,List.getLast?_concat]
theorem jc {a lab:List UInt8} (k:Nat) (hl:bh lab=true) (ha:mA a):aj (a++d9 lab k)=(a,lab,true):=by
 have hr:bW (a++d9 lab k)=a++123::61::(lab++[125]):=by
  unfold bW d9;have e:a++123::61::(lab++125::List.replicate k 32)=(a++123::61::(lab++[125]))++List.replicate k 32:=(by simp);rw [e,xq _ _ _ (fun c hc=>by rw [List.eq_of_mem_replicate hc];rfl)];exact oU _ _ (by rw [sE];rfl)
 have hd:(a++123::61::(lab++[125])).dropLast=a++123::61::lab:=by
  rw [show a++123::61::(lab++[125])=(a++123::61::lab)++[125] by simp,List.dropLast_concat]
 have h2:ev 123 61 (a++123::61::lab)=some a.length:=rU 123 61 lab (fun e=>by
  rcases List.mem_cons.1 e with e|e
  ·exact absurd e (by decide)
  ·exact (m6 hl).2 e) a
 obtain ⟨i,j,r,hi,hj1,hj6,rfl⟩:=ha;obtain ⟨q,rfl⟩:∃q,j=q+1:=⟨j - 1,by omega⟩
 have e1:(List.replicate i 32++(List.replicate (q+1) 35++32::r)).dropWhile (·==32)=List.replicate (q+1) 35++32::r:=ww 32 _ (by rw [List.replicate_succ];simp) i;have e2:(List.replicate (q+1) 35++32::r).dropWhile (·==35)=32::r:=ww 35 (32::r) (by simp) (q+1);unfold aj;simp only [hr,hd,h2];rw [if_neg (by rw [sE];simp)];rw [List.take_left,show∀x:List UInt8,(x++123::61::lab).drop (x.length+2)=lab from fun x=>by
  rw [show x++123::61::lab=(x++[123,61])++lab by simp,show x.length+2=(x++[123,61]).length by simp,List.drop_left]]
 rw [e1,e2,if_neg (by rw [hl];simp),if_neg ?_];rintro (h|h|h|h)
 ·simp at h;omega
 ·simp at h
 ·simp at h;omega
 ·simp at h
theorem eY {s:List UInt8} (h:(aj s).2.2=true):∃a lab k,aj s=(a,lab,true)∧bh lab=true∧mA a∧s=a++d9 lab k:=by
 suffices hs:∃a lab k,bh lab=true∧mA a∧s=a++d9 lab k by
  obtain ⟨a,lab,k,hl,ha,e⟩:=hs;exact ⟨a,lab,k,by rw [e];exact jc k hl ha,hl,ha,e⟩
 obtain ⟨k,hk⟩:=fk s;unfold aj at h
 dsimp only at h
 split at h
 ·cases h
 ·rename_i h1;have h1':(bW s).getLast? =some 125:=(by simpa using h1);have hy:bW s=(bW s).dropLast++[125]:=by
   have hne:bW s≠[]:=fun e=>by rw [e]at h1';cases h1'
   have hl:=List.dropLast_concat_getLast hne;rw [List.getLast?_eq_some_getLast hne]at h1';rw [Option.some.inj h1']at hl;exact hl.symm
  split at h
  ·cases h
  ·rename_i at' hat;have hp:=oK 123 61 _ _ hat;split at h
   ·cases h
   ·rename_i h3;split at h
    ·cases h
    ·rename_i h4;refine ⟨(bW s).dropLast.take at',(bW s).dropLast.drop (at'+2),k,by simpa using h3,?_,?_⟩
     ·obtain ⟨A,hA⟩:∃A,(bW s).dropLast.take at'=A:=⟨_,rfl⟩
      rw [hA]at h4⊢;have d1:=mI 32 A;have d2:=mI 35 (A.dropWhile (·==32));obtain ⟨Y,hY⟩:∃Y,(A.dropWhile (·==32)).dropWhile (·==35)=Y:=⟨_,rfl⟩
      rw [hY]at h4 d2;have hh:Y.head? =some 32:=Classical.byContradiction fun e=>h4 (Or.inr (Or.inr (Or.inr e)));cases Y with
      |nil=>cases hh
      |cons d r=>
       obtain rfl:d=32:=(by simpa using hh);have n1:¬3<A.length - (A.dropWhile (·==32)).length:=fun e=>h4 (Or.inl e);have n2:¬(A.dropWhile (·==32)).length - (32::r).length<1:=fun e=>h4 (Or.inr (Or.inl e));have n3:¬6<(A.dropWhile (·==32)).length - (32::r).length:=fun e=>h4 (Or.inr (Or.inr (Or.inl e)));exact ⟨A.length - (A.dropWhile (·==32)).length,(A.dropWhile (·==32)).length - (32::r).length,r,by omega,by omega,by omega,by rw [<- d2];exact d1⟩
     ·unfold d9;rw [show (bW s).dropLast.take at'++123::61::((bW s).dropLast.drop (at'+2)++125::List.replicate k 32)=((bW s).dropLast.take at'++123::61::(bW s).dropLast.drop (at'+2))++([125]++List.replicate k 32) by simp,<- hp,<- List.append_assoc,<- hy];exact hk
variable {em:ai ->ai}
def pK (t:List UInt8):Prop:=(124:UInt8)∉t∧t.head? ≠some 125
theorem yz {lab:List UInt8} (hl:bh lab=true) (k:Nat):pK (d9 lab k):=by
 have h124:(124:UInt8)∉lab:=by
  unfold bh at hl;simp only [Bool.and_eq_true]at hl;exact fun e=>absurd (List.all_eq_true.1 hl.1.1 _ e) (by decide)
 refine ⟨fun e=>?_,by simp [d9]⟩;unfold d9 at e;rcases List.mem_cons.1 e with e|e
 ·exact absurd e (by decide)
 ·rcases List.mem_cons.1 e with e|e
  ·exact absurd e (by decide)
  ·rcases List.mem_append.1 e with e|e
   ·exact h124 e
   ·rcases List.mem_cons.1 e with e|e
    ·exact absurd e (by decide)
    ·exact absurd (List.eq_of_mem_replicate e) (by decide)
theorem vw (p:ai):(124:UInt8)∈aw p:=by simp [aw]
theorem ES {s:List UInt8} (h:(124:UInt8)∉s):(al s).2=0:=by
 apply Classical.byContradiction;intro h0;obtain ⟨lab,txt,y,_,_,_,e⟩:=fO h0;exact h (by rw [e];exact List.mem_append_left _ (vw _))
theorem pZ:∀(f:Nat) (s:List UInt8),s.length<f ->(124:UInt8)∉s ->aC em f s=s
 |0,s,hf,_=>by omega
 |f+1,[],_,_=>rfl
 |f+1,c::t,hf,h=>by
  rw [aC,if_pos (ES h),pZ f t (by simp at hf;omega) (fun e=>h (List.mem_cons_of_mem _ e))]
theorem kO:∀(f:Nat) (s:List UInt8),s.length<f ->(124:UInt8)∉aC em f s ->aC em f s=s
 |0,s,hf,_=>by omega
 |f+1,[],_,_=>rfl
 |f+1,c::t,hf,h=>by
  rw [aC]at h⊢;split at h
  ·rename_i h0;rw [if_pos h0,kO f t (by simp at hf;omega) (fun e=>h (List.mem_cons_of_mem _ e))]
  ·exact absurd (List.mem_append_left _ (vw _)) h
theorem qK {p:ai} {x A t:List UInt8} (ht:pK t) (h:aw p++x=A++t):∃B,A=aw p++B∧x=B++t:=by
 rcases List.append_eq_append_iff.1 h with ⟨B,h1,h2⟩|⟨c,h1,h2⟩
 ·exact ⟨B,h1,h2⟩
 ·cases hc:c with
  |nil=>subst hc;exact ⟨[],by simpa using h1.symm,by simpa using h2.symm⟩
  |cons d e=>
   exfalso;have hlast:(aw p).getLast? =some 125:=by
    unfold aw;rw [show (123:UInt8)::124::(p.label++58::(p.text++[124,125]))=(123::124::(p.label++58::(p.text++[124])))++[125] by simp,List.getLast?_concat]
   cases e with
   |nil=>
    rw [h1,hc,List.getLast?_concat]at hlast;obtain rfl:=Option.some.inj hlast;exact ht.2 (by rw [h2,hc];rfl)
   |cons g e=>
    have h3:(aw p).dropLast.getLast? =some 124:=by
     unfold aw;rw [show (123:UInt8)::124::(p.label++58::(p.text++[124,125]))=(123::124::(p.label++58::(p.text++[124])))++[125] by simp,List.dropLast_concat,show (123:UInt8)::124::(p.label++58::(p.text++[124]))=(123::124::(p.label++58::p.text))++[124] by simp,List.getLast?_concat]
    rw [h1,hc,List.dropLast_append_of_ne_nil (by simp),List.dropLast_cons_of_ne_nil (by simp),List.getLast?_append]at h3;have h4:(124:UInt8)∈d::(g::e).dropLast:=by
     have:(d::(g::e).dropLast).getLast? =some 124:=by
      rw [List.getLast?_cons]at h3⊢;simpa using h3
     exact List.mem_of_getLast? this
    have h5:(124:UInt8)∈d::g::e:=by
     rcases List.mem_cons.1 h4 with h4|h4
     ·rw [h4];exact List.mem_cons_self ..
     ·exact List.mem_cons_of_mem _ (List.dropLast_subset _ h4)
    exact ht.1 (by rw [h2,hc];exact List.mem_append_left _ h5)
theorem sr {s:List UInt8} (t:List UInt8) (h:(al s).2≠0):al (s++t)=al s:=by
 obtain ⟨lab,txt,y,e1,hl,hc,rfl⟩:=fO h;rw [e1,List.append_assoc,pA (y++t) hl (iE (y++t) hc)]
theorem Aj {s t:List UInt8} (ht:pK t) (h:(al (s++t)).2≠0):(al s).2≠0:=by
 obtain ⟨lab,txt,y,e1,hl,hc,e2⟩:=fO h;obtain ⟨B,rfl,hB⟩:=qK ht e2.symm;rw [pA B hl (iE B hc)];simp
theorem nS:∀(f:Nat) (s t:List UInt8),(s++t).length<f ->pK t ->aC em f (s++t)=aC em f s++t
 |0,s,t,hf,_=>by omega
 |f+1,[],t,hf,ht=>by rw [List.nil_append,pZ (f+1) t (by simpa using hf) ht.1];rfl
 |f+1,c::s,t,hf,ht=>by
  by_cases h0:(al (c::s)).2=0
  ·have h1:(al (c::(s++t))).2=0:=Classical.byContradiction fun e=>Aj (s:=c::s) ht e h0;rw [List.cons_append,aC,if_pos h1,aC,if_pos h0,nS f s t (by simp at hf⊢;omega) ht];rfl
  ·have h1:=sr t h0;have h5:=gp (c::s) h0;rw [List.cons_append]at h1;rw [List.cons_append,aC,h1,if_neg h0,aC,if_neg h0,<- List.cons_append,List.drop_append_of_le_length h5.2.1,nS f _ t (by rw [List.length_append,List.length_drop];simp at hf h5⊢;omega) ht,List.append_assoc]
theorem fI:∀(f g:Nat) (s:List UInt8),s.length<f ->s.length<g ->aC em f s=aC em g s
 |0,g,s,h,_=>by omega
 |f+1,0,s,_,h=>by omega
 |f+1,g+1,[],_,_=>rfl
 |f+1,g+1,c::t,hf,hg=>by
  rw [aC,aC];split
  ·rw [fI f g t (by simp at hf;omega) (by simp at hg;omega)]
  ·rename_i h0;have h5:=gp (c::t) h0;rw [fI f g _ (by rw [List.length_drop];simp at hf⊢;omega) (by rw [List.length_drop];simp at hg⊢;omega)]
theorem mK {f:Nat} {A X:List UInt8} {c:UInt8} (hc:c≠123) (h:aC em (f+1) A=c::X):∃B,A=c::B∧aC em f B=X:=by
 cases A with
 |nil=>cases h
 |cons d B=>
  rw [aC]at h;split at h
  ·rw [List.cons.injEq]at h;exact ⟨B,by rw [h.1],h.2⟩
  ·unfold aw at h;rw [List.cons_append,List.cons.injEq]at h;exact absurd h.1.symm hc
theorem pY {f:Nat} {c:UInt8} (hc:c≠123) (t:List UInt8):aC em (f+1) (c::t)=c::aC em f t:=by
 rw [aC,if_pos (vp fun u e=>by rw [List.cons.injEq]at e;exact hc e.1)]
theorem nU {c:UInt8} (hc:c≠123) (t:List UInt8) (f:Nat):∀i,aC em (f+i) (List.replicate i c++t)=List.replicate i c++aC em f t
 |0=>rfl
 |i+1=>by rw [List.replicate_succ,List.cons_append,show f+(i+1)=(f+i)+1 from rfl,pY hc,nU hc t f i];rfl
theorem j6 {c:UInt8} (hc:c≠123) (X:List UInt8) (f:Nat):∀(i:Nat) (A:List UInt8),aC em (f+i) A=List.replicate i c++X ->∃B,A=List.replicate i c++B∧aC em f B=X
 |0,A,h=>⟨A,rfl,h⟩
 |i+1,A,h=>by
  rw [List.replicate_succ,List.cons_append,show f+(i+1)=(f+i)+1 from rfl]at h;obtain ⟨B,rfl,hB⟩:=mK hc h;obtain ⟨C,rfl,hC⟩:=j6 hc X f i B hB;exact ⟨C,by rw [List.replicate_succ];rfl,hC⟩
def cf (em:ai ->ai) (s:List UInt8):List UInt8:=aC em (s.length+1) s
theorem zX {A:List UInt8} (h:mA A):mA (cf em A):=by
 obtain ⟨i,j,r,h1,h2,h3,rfl⟩:=h;refine ⟨i,j,cf em r,h1,h2,h3,?_⟩;unfold cf;rw [show (List.replicate i (32:UInt8)++(List.replicate j (35:UInt8)++(32:UInt8)::r)).length+1=((r.length+1)+1+j)+i by simp;omega,nU (by decide),nU (by decide),pY (by decide)]
theorem uP {A:List UInt8} (h:mA (cf em A)):mA A:=by
 obtain ⟨i,j,r,h1,h2,h3,e⟩:=h;unfold cf at e;rw [fI (A.length+1) ((A.length+1)+1+j+i) A (by omega) (by omega)]at e;obtain ⟨B,rfl,hB⟩:=j6 (by decide) _ _ i A e;obtain ⟨C,rfl,hC⟩:=j6 (by decide) _ _ j B hB;obtain ⟨D,rfl,_⟩:=mK (by decide) hC;exact ⟨i,j,D,h1,h2,h3,rfl⟩
theorem nT {u:List UInt8} (ht:pK (123::61::u)):∀(f:Nat) (s A':List UInt8),s.length<f ->aC em f s=A'++123::61::u ->∃A,s=A++123::61::u∧aC em f A=A'
 |0,s,A',hf,_=>by omega
 |f+1,[],A',_,h=>by
  have:=congrArg List.length h;simp [aC]at this
 |f+1,c::s,A',hf,h=>by
  rw [aC]at h;by_cases h0:(al (c::s)).2=0
  ·rw [if_pos h0]at h;cases A' with
   |nil=>
    rw [List.nil_append,List.cons.injEq]at h;have h1:=kO (em:=em) f s (by simp at hf;omega) (by rw [h.2];exact fun e=>ht.1 (List.mem_cons_of_mem _ e));exact ⟨[],by rw [h.1,<- h1,h.2];rfl,rfl⟩
   |cons d A2=>
    rw [List.cons_append,List.cons.injEq]at h;obtain ⟨B,hB,hE⟩:=nT ht f s A2 (by simp at hf;omega) h.2;refine ⟨c::B,by rw [hB];rfl,?_⟩;have h1:(al (c::B)).2=0:=Classical.byContradiction fun e=>by
     have:=sr (123::61::u) e;rw [List.cons_append,<- hB]at this;rw [this]at h0;exact e h0
    rw [aC,if_pos h1,hE,h.1]
  ·rw [if_neg h0]at h;obtain ⟨B,hB,hE⟩:=qK ht h;have h5:=gp (c::s) h0;obtain ⟨lab,txt,y,e1,hl,hc,e2⟩:=fO h0;obtain ⟨C,hC,hF⟩:=nT ht f _ B (by rw [List.length_drop];simp at hf h5⊢;omega) hE;have hy:(c::s).drop (al (c::s)).2=y:=by
    rw [e1,e2];simp only;rw [show lab.length+txt.length+5=(aw ⟨true,lab,txt⟩).length by simp [aw];omega,List.drop_left]
   rw [hy]at hC;refine ⟨aw ⟨true,lab,txt⟩++C,by rw [e2,hC,List.append_assoc],?_⟩;have hs:=pA C hl (iE C hc);obtain ⟨q,hq⟩:∃q,aw ⟨true,lab,txt⟩++C=123::q:=⟨_,rfl⟩
   rw [hq]at hs⊢;rw [aC,hs,if_neg (by simp),<- hq];simp only;rw [show lab.length+txt.length+5=(aw ⟨true,lab,txt⟩).length by simp [aw];omega,List.drop_left,hF,hB,e1]
theorem rd {s a lab:List UInt8} (h:aj s=(a,lab,true)):aj (cf em s)=(cf em a,lab,true)∧∃k,s=a++d9 lab k∧cf em s=cf em a++d9 lab k∧bh lab=true:=by
 obtain ⟨a',lab',k,h1,hl,ha,e⟩:=eY (s:=s) (by rw [h]);rw [h1,Prod.mk.injEq,Prod.mk.injEq]at h;obtain ⟨rfl,rfl,_⟩:=h;have h2:cf em s=cf em a'++d9 lab' k:=by
  unfold cf;rw [e,nS _ _ _ (by omega) (yz hl k),fI _ (a'.length+1) a' (by simp;omega) (by omega)]
 exact ⟨by rw [h2];exact jc k hl (zX ha),k,e,h2,hl⟩
theorem pi {s:List UInt8} (h:(aj s).2.2=false):(aj (cf em s)).2.2=false:=by
 cases hb:(aj (cf em s)).2.2 with
 |false=>rfl
 |true=>
  exfalso;obtain ⟨a',lab,k,h1,hl,ha,e⟩:=eY hb;obtain ⟨A,hA,hE⟩:=nT (yz hl k) _ s a' (by omega) e;have hp:mA A:=by
   refine uP (em:=em) ?_;unfold cf;rw [<- hE]at ha
   rwa [fI (A.length+1) (s.length+1) A (by omega) (by rw [hA];simp;omega)]
  rw [hA]at h;have h9:=jc k hl hp;unfold d9 at h9;rw [h9]at h;cases h
def qW (z:aS) (under:List (List UInt8)) (p:ai):ai:=if p.span=true∧z.sees (under++[p.label])=false then ⟨true,p.label,[]⟩else p
theorem eO (z:aS) (under:List (List UInt8)):nI (qW z under):=by
 refine ⟨fun p hp=>?_,fun p hp=>?_⟩
 ·unfold qW;rw [if_neg (by rw [hp];simp)]
 ·unfold qW;split
  ·exact Or.inr rfl
  ·exact Or.inl rfl
theorem xf (z:aS) (under:List (List UInt8)) (q:List UInt8×am) (p:ai):dd z under q (qW z under p)=dd z under q p:=by
 unfold qW;split
 ·rename_i h;unfold dd;have e:z.sees (under++[(⟨true,p.label,[]⟩:ai).label])=false:=h.2;rw [e,h.1];simp
 ·rfl
theorem kr (z:aS) (under:List (List UInt8)):∀(l:List ai) (q:List UInt8×am),(l.map (qW z under)).foldl (dd z under) q=l.foldl (dd z under) q
 |[],q=>rfl
 |p::l,q=>by rw [List.map_cons,List.foldl_cons,List.foldl_cons,xf,kr z under l]
theorem c6 {em:ai ->ai} (h:nI em) (s:List UInt8):bJ ((bX s).map em)=cf em s:=by
 have h1:=lu h (s.length+1) s [] (by omega)
 rwa [List.nil_append]at h1
theorem nz {em:ai ->ai} (h:nI em) (s:List UInt8):bX (cf em s)=(bX s).map em:=by
 rw [<- c6 h s];exact vq h s
def tt (s:List UInt8):Nat:=(s.takeWhile (· !=35)).length+((s.dropWhile (· !=35)).takeWhile (·==35)).length
def au (z:aS) (under:List (List UInt8)) (l:List UInt8):List UInt8:=
 if (aj l).2.2=true then
  if z.sees (under++[(aj l).2.1])=false then (aj l).1.take (tt (aj l).1)++32::d9 (aj l).2.1 0
  else bJ ((bX l).map (qW z (under++[(aj l).2.1])))
 else bJ ((bX l).map (qW z under))
theorem xD (p:UInt8 ->Bool) (c:UInt8) (hc:p c=true) (t:List UInt8) (ht:(t.head?.any p)=false):∀i,(List.replicate i c++t).takeWhile p=List.replicate i c∧(List.replicate i c++t).dropWhile p=t
 |0=>by
  cases t with
  |nil=>exact ⟨rfl,rfl⟩
  |cons d t=>
   have hd:¬p d=true:=(by simpa using ht);exact ⟨by rw [List.replicate_zero,List.nil_append,List.takeWhile_cons_of_neg hd],by rw [List.replicate_zero,List.nil_append,List.dropWhile_cons_of_neg hd]⟩
 |i+1=>by
  obtain ⟨h1,h2⟩:=xD p c hc t ht i;rw [List.replicate_succ,List.cons_append,List.takeWhile_cons_of_pos hc,List.dropWhile_cons_of_pos hc,h1,h2];exact ⟨rfl,rfl⟩
theorem iO (i j:Nat) (r:List UInt8) (hj:1 <= j):tt (List.replicate i 32++(List.replicate j 35++32::r))=i+j:=by
 obtain ⟨q,rfl⟩:∃q,j=q+1:=⟨j - 1,by omega⟩
 obtain ⟨h1,h2⟩:=xD (· !=35) 32 (by decide) (List.replicate (q+1) 35++32::r) (by rw [List.replicate_succ];rfl) i;obtain ⟨h3,_⟩:=xD (·==35) 35 (by decide) (32::r) (by rfl) (q+1);unfold tt;rw [h1,h2,h3,List.length_replicate,List.length_replicate]
theorem zM (z:aS) (b:am) (l:List UInt8) (under:List (List UInt8)):ey z b (au z under l) under=ey z b l under:=by
 by_cases hh:(aj l).2.2=true
 ·obtain ⟨a,lab,k,h1,hl,ha,e⟩:=eY hh;by_cases hs:z.sees (under++[lab])=false
  ·have hv:au z under l=a.take (tt a)++32::d9 lab 0:=by
    unfold au;rw [h1,if_pos rfl,if_pos hs]
   obtain ⟨i,j,r,hi,hj1,hj6,rfl⟩:=ha;have ht:(List.replicate i (32:UInt8)++(List.replicate j (35:UInt8)++(32:UInt8)::r)).take (i+j)=List.replicate i 32++List.replicate j 35:=by
    rw [<- List.append_assoc,show i+j=(List.replicate i (32:UInt8)++List.replicate j (35:UInt8)).length by simp,List.take_left]
   have e2:List.replicate i (32:UInt8)++List.replicate j (35:UInt8)++32::d9 lab 0=(List.replicate i 32++(List.replicate j 35++32::[]))++d9 lab 0:=(by simp);rw [hv,iO i j r hj1,ht,e2];have h2:=jc 0 hl ⟨i,j,[],hi,hj1,hj6,rfl⟩;unfold ey;rw [h2,h1,if_pos rfl,if_pos rfl];simp only [hs];rfl
  ·have hv:au z under l=cf (qW z (under++[lab])) l:=by
    unfold au;rw [h1,if_pos rfl,if_neg hs,c6 (eO z _)]
   obtain ⟨h2,_⟩:=rd (em:=qW z (under++[lab])) h1;have hs2:z.sees (under++[lab])=true:=(by simpa using hs);rw [hv];unfold ey;rw [h2,h1,if_pos rfl,if_pos rfl];simp only [hs2,if_true,nz (eO z _),kr]
 ·have hh2:(aj l).2.2=false:=(by simpa using hh);have hv:au z under l=cf (qW z under) l:=by
   unfold au;rw [hh2,if_neg (by simp),c6 (eO z _)]
  rw [hv];unfold ey;rw [pi hh2,hh2,if_neg (by simp),if_neg (by simp),nz (eO z _),kr]
theorem oM (z:aS) (under:List (List UInt8)):∀(l:List (List UInt8)) (b:am),db z under (l.map (au z under)) b=db z under l b
 |[],b=>rfl
 |s::l,b=>by
  rw [List.map_cons,db,db,zM];simp only [oM z under l]
def ar (z:aS) (q:List af×List (List UInt8)×Option Nat) (p:af):List af×List (List UInt8)×Option Nat:=
 if (q.2.2.any fun h=>decide (h<p.depth))=true then q
 else if p.div=false then (q.1++[{p with lines:=p.lines.map (au z (q.2.1.take p.depth))}],q.2.1.take p.depth,none)
 else (q.1++[{p with lines:=p.lines.map (au z (q.2.1.take p.depth++[p.label]))}],q.2.1.take p.depth++[p.label],if z.sees (q.2.1.take p.depth++[p.label])=false then some p.depth else none)
def bE (z:aS) (l:List af):List af:=(l.foldl (ar z) ([],[],none)).1
theorem Ay (z:aS) (p:af) (u:List (List UInt8)) (o:Option Nat):∃N u' o',∀out,ar z (out,u,o) p=(out++N,u',o'):=by
 unfold ar;by_cases hh:(o.any fun h=>decide (h<p.depth))=true
 ·exact ⟨[],u,o,fun out=>by rw [if_pos hh,List.append_nil]⟩
 ·by_cases hd:p.div=false
  ·exact ⟨[{p with lines:=p.lines.map (au z (u.take p.depth))}],u.take p.depth,none,fun out=>by rw [if_neg hh,if_pos hd]⟩
  ·exact ⟨[{p with lines:=p.lines.map (au z (u.take p.depth++[p.label]))}],u.take p.depth++[p.label],if z.sees (u.take p.depth++[p.label])=false then some p.depth else none,fun out=>by rw [if_neg hh,if_neg hd]⟩
theorem eE (z:aS):∀(l:List af) (out:List af) (u:List (List UInt8)) (o:Option Nat),(l.foldl (ar z) (out,u,o)).1=out++(l.foldl (ar z) ([],u,o)).1
 |[],out,u,o=>by simp
 |p::l,out,u,o=>by
  obtain ⟨N,u',o',h⟩:=Ay z p u o;rw [List.foldl_cons,List.foldl_cons,h out,h [],eE z l (out++N),eE z l ([]++N)];simp
theorem gF (z:aS):∀(l:List af) (b:am) (u:List (List UInt8)) (o:Option Nat),(∀p∈l,p.div=true ->p.lines=[]) ->(l.foldl (ar z) ([],u,o)).1.foldl (cO z) (b,u,o)=l.foldl (cO z) (b,u,o)
 |[],b,u,o,_=>rfl
 |p::l,b,u,o,h=>by
  have hl:=fun x hx=>h x (List.mem_cons_of_mem _ hx);rw [List.foldl_cons,List.foldl_cons];by_cases hh:(o.any fun h=>decide (h<p.depth))=true
  ·have e1:ar z ([],u,o) p=([],u,o):=(by unfold ar;rw [if_pos hh]);have e2:cO z (b,u,o) p=(b,u,o):=(by unfold cO;rw [if_pos hh]);rw [e1,e2];exact gF z l b u o hl
  ·cases hd:p.div with
   |false=>
    have e1:ar z ([],u,o) p=([{p with lines:=p.lines.map (au z (u.take p.depth))}],u.take p.depth,none):=by
     unfold ar;rw [if_neg hh,if_pos hd];rfl
    have e2:cO z (b,u,o) p=(kx z b p (u.take p.depth),u.take p.depth,none):=by
     unfold cO;rw [if_neg hh];simp only [hd,if_true]
    have e3:cO z (b,u,o) {p with lines:=p.lines.map (au z (u.take p.depth))}=(kx z b p (u.take p.depth),u.take p.depth,none):=by
     unfold cO;rw [if_neg hh];simp only [hd,if_true];unfold kx;simp only [oM]
    rw [e1,e2,eE,List.foldl_append,List.foldl_cons,List.foldl_nil,e3];exact gF z l _ _ _ hl
   |true=>
    have hln:=h p (List.mem_cons_self ..) hd;have e0:({p with lines:=p.lines.map (au z (u.take p.depth++[p.label]))}:af)=p:=by
     obtain ⟨a1,a2,a3,a4,a5⟩:=p;simp only at hln;subst hln;rfl
    have e1:ar z ([],u,o) p=([p],u.take p.depth++[p.label],if z.sees (u.take p.depth++[p.label])=false then some p.depth else none):=by
     unfold ar;rw [if_neg hh,if_neg (by rw [hd];simp)];simp only [e0];rfl
    by_cases hs:z.sees (u.take p.depth++[p.label])=false
    ·have e2:cO z (b,u,o) p=(b,u.take p.depth++[p.label],some p.depth):=by
      unfold cO;rw [if_neg hh];simp [hd,hs]
     rw [e1,e2,eE,List.foldl_append,List.foldl_cons,List.foldl_nil,e2,if_pos hs];exact gF z l _ _ _ hl
    ·obtain ⟨b',e2⟩:∃b',cO z (b,u,o) p=(b',u.take p.depth++[p.label],none):=by
      unfold cO;rw [if_neg hh];simp [hd,hs]
     rw [e1,e2,eE,List.foldl_append,List.foldl_cons,List.foldl_nil,e2,if_neg hs];exact gF z l _ _ _ hl
def lN:List Bool ->Bool ->List af ->Prop
 |_,_,[]=>True
 |stk,run,p::ps=>p.depth <= stk.length∧(∀b∈stk.drop p.depth,b=false)∧
  (if p.div=true then bh p.label=true∧p.lines=[]∧(p.opn=true ->∀b∈stk.take p.depth,b=true)∧lN (stk.take p.depth++[p.opn]) false ps
  else p.label=[]∧p.opn=false∧p.lines≠[]∧(∀s∈p.lines,(bf s).2=false∧(0<p.depth ->cq s=false))∧¬(run=true∧p.depth=stk.length)∧lN (stk.take p.depth) true ps)
def ja:List UInt8:=[58,58,58]
def c7 (bs:List Bool):List (List UInt8):=List.replicate (bs.filter (! ·)).length ja
def iF (lab:List UInt8):List UInt8:=58::58::58::123::(lab++[125])
def kq (p:af):List (List UInt8):=if p.div=true then [iF p.label]else p.lines
def cX:List Bool ->List af ->List (List UInt8)
 |stk,[]=>c7 stk
 |stk,p::ps=>c7 (stk.drop p.depth)++(kq p++cX (stk.take p.depth++(if p.div=true then [p.opn]else [])) ps)
theorem zS {lab:List UInt8} (h:bh lab=true):bf (iF lab)=(lab,true):=by
 have hr:bW (iF lab)=iF lab:=by
  unfold bW;exact oU _ _ (by
   unfold iF;rw [show (58:UInt8)::58::58::123::(lab++[125])=(58::58::58::123::lab)++[125] by simp,List.getLast?_concat];rfl)
 have hp:Lib.hasPrefix (iF lab) [58,58,58,123]=true:=(by simp [Lib.hasPrefix,iF]);have ht:Lib.trimPrefix (iF lab) [58,58,58,123]=lab++[125]:=by
  unfold Lib.trimPrefix;rw [if_pos hp];rfl
 unfold bf;simp only [hr,hp,ht];simp [h]
structure iy (st:eM) (stk:List Bool) (D:List af):Prop where
 len:st.inn.length=stk.length
 nod:st.inn.Nodup
 inn:∀(k i:Nat) (b:Bool),st.inn[k]? =some i ->stk[k]? =some b ->∃p:af,D[i]? =some p∧p.div=true∧p.opn=b
 out:∀i:Nat,st.out[i]? =(D[i]?).map fun p:af=>if i∈st.inn then {p with opn:=true}else p
theorem iy.lt {st:eM} {stk:List Bool} {D:List af} (h:iy st stk D) {i:Nat} (hi:i∈st.inn):∃p:af,D[i]? =some p∧p.div=true:=by
 obtain ⟨k,hk⟩:=List.getElem?_of_mem hi;have hlt:k<stk.length:=(by rw [<- h.len];exact (List.getElem?_eq_some_iff.1 hk).1);obtain ⟨p,h1,h2,_⟩:=h.inn k i _ hk (List.getElem?_eq_getElem hlt);exact ⟨p,h1,h2⟩
theorem iy.size {st:eM} {stk:List Bool} {D:List af} (h:iy st stk D):st.out.length=D.length:=by
 have h1:=h.out D.length;rw [List.getElem?_eq_none (Nat.le_refl _)]at h1;have h2:=h.out st.out.length;rw [List.getElem?_eq_none (Nat.le_refl _)]at h2;have h3:=List.getElem?_eq_none_iff.1 h1;have h4:D[st.out.length]? =none:=by
  cases hd:D[st.out.length]? with
  |none=>rfl
  |some p=>rw [hd]at h2;cases h2
 have h5:=List.getElem?_eq_none_iff.1 h4;omega
theorem y9 {st:eM} {s0:List Bool} {D:List af} (h:iy st (s0++[false]) D):iy (ag st ja) s0 D∧(ag st ja).run=false:=by
 have hne:st.inn≠[]:=fun e=>by have:=h.len;rw [e]at this;simp at this
 obtain ⟨inn0,j,hj⟩:∃a j,st.inn=a++[j]:=⟨st.inn.dropLast,st.inn.getLast hne,(List.dropLast_concat_getLast hne).symm⟩
 have hl:=h.len;rw [hj]at hl;have hl0:inn0.length=s0.length:=(by simpa using hl);have e1:(bf ja).2=false:=(by decide);have e2:cq ja=true:=(by decide);have hs:ag st ja=⟨st.out.modify j (fun p=>{p with opn:=false}),inn0,false⟩:=by
  unfold ag;rw [e1,if_neg (by simp),if_pos ⟨e2,by rw [hj];simp⟩,hj];simp
 have hnd:=h.nod;rw [hj,List.nodup_append]at hnd;have hjn:j∉inn0:=fun e=>hnd.2.2 j e j (List.mem_singleton.2 rfl) rfl;obtain ⟨p,hp,hpd,hpo⟩:=h.inn inn0.length j false (by rw [hj];simp) (by rw [hl0];simp);rw [hs];refine ⟨⟨hl0,hnd.1,fun k i b hk hb=>?_,fun i=>?_⟩,rfl⟩
 ·refine h.inn k i b ?_ ?_
  ·rw [hj,List.getElem?_append_left (List.getElem?_eq_some_iff.1 hk).1];exact hk
  ·rw [List.getElem?_append_left (List.getElem?_eq_some_iff.1 hb).1];exact hb
 ·simp only;rw [List.getElem?_modify,h.out i];by_cases hij:j=i
  ·subst hij;rw [hp];simp only [if_true,Option.map_some,if_neg hjn];obtain ⟨a1,a2,a3,a4,a5⟩:=p;simp only at hpo;subst hpo;split<;>rfl
  ·have hm:i∈st.inn↔i∈inn0:=by
    rw [hj,List.mem_append,List.mem_singleton];exact ⟨fun e=>e.resolve_right fun e=>hij e.symm,Or.inl⟩
   cases D[i]? with
   |none=>rfl
   |some q=>
    simp only [Option.map_some,if_neg hij];by_cases hq:i∈inn0
    ·rw [if_pos hq,if_pos (hm.2 hq)];rfl
    ·rw [if_neg hq,if_neg (fun e=>hq (hm.1 e))];rfl
theorem lT:∀(n:Nat) (st:eM) (s0:List Bool) (D:List af),iy st (s0++List.replicate n false) D ->iy ((List.replicate n ja).foldl ag st) s0 D∧(0<n ->((List.replicate n ja).foldl ag st).run=false)∧(n=0 ->((List.replicate n ja).foldl ag st).run=st.run)
 |0,st,s0,D,h=>⟨by simpa using h,fun h=>absurd h (by omega),fun _=>rfl⟩
 |n+1,st,s0,D,h=>by
  rw [show s0++List.replicate (n+1) false=(s0++List.replicate n false)++[false] by rw [List.replicate_succ',List.append_assoc]]at h;obtain ⟨h1,h2⟩:=y9 h;obtain ⟨h3,h4,h5⟩:=lT n _ s0 D h1;rw [List.replicate_succ,List.foldl_cons];refine ⟨h3,fun _=>?_,fun e=>by omega⟩;by_cases hn:0<n
  ·exact h4 hn
  ·obtain rfl:n=0:=(by omega);exact h2
theorem Bl {st:eM} {stk:List Bool} {D:List af} (h:iy st stk D) {lab:List UInt8} (hl:bh lab=true) (o:Bool):iy (ag st (iF lab)) (stk++[o]) (D++[⟨stk.length,true,lab,o,[]⟩])∧(ag st (iF lab)).run=false:=by
 have hs:ag st (iF lab)=⟨st.out++[⟨st.inn.length,true,lab,true,[]⟩],st.inn++[st.out.length],false⟩:=by
  unfold ag;rw [zS hl];rfl
 have hsz:=h.size;have hlt:∀i∈st.inn,i<D.length:=fun i hi=>by
  obtain ⟨p,hp,_⟩:=h.lt hi;exact (List.getElem?_eq_some_iff.1 hp).1
 rw [hs,hsz];refine ⟨⟨by simp [h.len],?_,fun k i b hk hb=>?_,fun i=>?_⟩,rfl⟩
 ·rw [List.nodup_append];refine ⟨h.nod,by simp,fun a ha c hc e=>?_⟩;rw [List.mem_singleton.1 hc]at e;have:=hlt a ha;omega
 ·simp only at hk;by_cases hkl:k<st.inn.length
  ·rw [List.getElem?_append_left hkl]at hk;rw [List.getElem?_append_left (by rw [<- h.len];exact hkl)]at hb;obtain ⟨p,h1,h2,h3⟩:=h.inn k i b hk hb;exact ⟨p,by rw [List.getElem?_append_left (List.getElem?_eq_some_iff.1 h1).1];exact h1,h2,h3⟩
  ·have hke:k=st.inn.length:=by
    have:=(List.getElem?_eq_some_iff.1 hk).1;simp at this;omega
   rw [hke]at hk hb;rw [List.getElem?_concat_length]at hk;rw [h.len,List.getElem?_concat_length]at hb;obtain rfl:=Option.some.inj hk;obtain rfl:=Option.some.inj hb;exact ⟨_,List.getElem?_concat_length,rfl,rfl⟩
 ·simp only;by_cases hi:i<D.length
  ·rw [List.getElem?_append_left (by omega),List.getElem?_append_left hi,h.out i];have hm:i∈st.inn++[D.length]↔i∈st.inn:=by
    rw [List.mem_append,List.mem_singleton];exact ⟨fun e=>e.resolve_right (by omega),Or.inl⟩
   cases D[i]? with
   |none=>rfl
   |some q=>
    simp only [Option.map_some];by_cases hq:i∈st.inn
    ·rw [if_pos hq,if_pos (hm.2 hq)]
    ·rw [if_neg hq,if_neg (fun e=>hq (hm.1 e))]
  ·by_cases hie:i=D.length
   ·subst hie;rw [show D.length=st.out.length from hsz.symm,List.getElem?_concat_length,hsz,List.getElem?_concat_length];simp [h.len]
   ·rw [List.getElem?_eq_none (by simp;omega),List.getElem?_eq_none (by simp;omega)];rfl
theorem Aa {st:eM} {stk:List Bool} {D:List af} (h:iy st stk D) (hr:st.run=false) {s:List UInt8} (h1:(bf s).2=false) (h2:0<stk.length ->cq s=false):iy (ag st s) stk (D++[⟨stk.length,false,[],false,[s]⟩])∧(ag st s).run=true:=by
 have hs:ag st s=⟨st.out++[⟨st.inn.length,false,[],false,[s]⟩],st.inn,true⟩:=by
  unfold ag;rw [h1,if_neg (by simp),if_neg (fun e=>by have:=h2 (by rw [<- h.len];exact e.2);rw [this]at e;cases e.1),if_neg (by rw [hr];simp)]
 have hsz:=h.size;have hlt:∀i∈st.inn,i<D.length:=fun i hi=>by
  obtain ⟨p,hp,_⟩:=h.lt hi;exact (List.getElem?_eq_some_iff.1 hp).1
 rw [hs];refine ⟨⟨h.len,h.nod,fun k i b hk hb=>?_,fun i=>?_⟩,rfl⟩
 ·obtain ⟨p,h3,h4,h5⟩:=h.inn k i b hk hb;exact ⟨p,by rw [List.getElem?_append_left (List.getElem?_eq_some_iff.1 h3).1];exact h3,h4,h5⟩
 ·simp only;by_cases hi:i<D.length
  ·rw [List.getElem?_append_left (by omega),List.getElem?_append_left hi,h.out i]
  ·by_cases hie:i=D.length
   ·subst hie;rw [show D.length=st.out.length from hsz.symm,List.getElem?_concat_length,hsz,List.getElem?_concat_length];simp only [Option.map_some];rw [if_neg (fun e=>by have:=hlt _ e;omega),h.len]
   ·rw [List.getElem?_eq_none (by simp;omega),List.getElem?_eq_none (by simp;omega)];rfl
theorem Cx {st:eM} {stk:List Bool} {D:List af} {d:Nat} {ls:List (List UInt8)} (h:iy st stk (D++[⟨d,false,[],false,ls⟩])) (hr:st.run=true) {s:List UInt8} (h1:(bf s).2=false) (h2:0<stk.length ->cq s=false):iy (ag st s) stk (D++[⟨d,false,[],false,ls++[s]⟩])∧(ag st s).run=true:=by
 have hsz:=h.size;rw [List.length_append,List.length_singleton]at hsz;have hs:ag st s=⟨st.out.modify D.length (fun p=>{p with lines:=p.lines++[s]}),st.inn,true⟩:=by
  unfold ag;rw [h1,if_neg (by simp),if_neg (fun e=>by have:=h2 (by rw [<- h.len];exact e.2);rw [this]at e;cases e.1),if_pos hr,hsz];rfl
 have hnot:D.length∉st.inn:=fun e=>by
  obtain ⟨p,hp,hd⟩:=h.lt e;rw [List.getElem?_concat_length]at hp;obtain rfl:=Option.some.inj hp;cases hd
 rw [hs];refine ⟨⟨h.len,h.nod,fun k i b hk hb=>?_,fun i=>?_⟩,rfl⟩
 ·obtain ⟨p,h3,h4,h5⟩:=h.inn k i b hk hb;have hne:i≠D.length:=fun e=>hnot (by rw [<- e];exact List.mem_of_getElem? hk);have hil:i<D.length:=by
   have:=(List.getElem?_eq_some_iff.1 h3).1;simp at this;omega
  rw [List.getElem?_append_left hil]at h3;exact ⟨p,by rw [List.getElem?_append_left hil];exact h3,h4,h5⟩
 ·simp only;rw [List.getElem?_modify,h.out i];by_cases hi:i<D.length
  ·rw [List.getElem?_append_left hi,List.getElem?_append_left hi];cases D[i]? with
   |none=>rfl
   |some q=>
    simp only [Option.map_some,if_neg (show¬D.length=i by omega)];rfl
  ·by_cases hie:i=D.length
   ·subst hie;rw [List.getElem?_concat_length,List.getElem?_concat_length];simp only [Option.map_some,if_neg hnot,if_true];rfl
   ·rw [List.getElem?_eq_none (by simp;omega),List.getElem?_eq_none (by simp;omega)];rfl
def es (stk:List Bool):Prop:=∃a b,stk=List.replicate a true++List.replicate b false
theorem sR {b:Bool}:∀{l:List Bool},(∀x∈l,x=b) ->l=List.replicate l.length b
 |[],_=>rfl
 |x::l,h=>by
  rw [List.length_cons,List.replicate_succ,<- sR (fun y hy=>h y (List.mem_cons_of_mem _ hy)),h x (List.mem_cons_self ..)]
theorem es.take {stk:List Bool} (h:es stk) (d:Nat):es (stk.take d):=by
 obtain ⟨a,b,rfl⟩:=h;refine ⟨min d a,min (d - a) b,?_⟩;rw [List.take_append,List.take_replicate,List.take_replicate,List.length_replicate]
theorem es.snoc {stk:List Bool} (h:es stk) {o:Bool} (ho:o=true ->∀b∈stk,b=true):es (stk++[o]):=by
 cases o with
 |true=>exact ⟨stk.length+1,0,by rw [List.replicate_succ',<- sR (ho rfl)];simp⟩
 |false=>
  obtain ⟨a,b,rfl⟩:=h;exact ⟨a,b+1,by rw [List.replicate_succ',List.append_assoc]⟩
theorem iy.done {st:eM} {stk:List Bool} {D:List af} (h:iy st stk D) (ha:∀b∈stk,b=true):st.out=D:=by
 refine List.ext_getElem? fun i=>?_;rw [h.out i];cases hd:D[i]? with
 |none=>rfl
 |some p=>
  simp only [Option.map_some];by_cases hi:i∈st.inn
  ·obtain ⟨k,hk⟩:=List.getElem?_of_mem hi;have hlt:k<stk.length:=(by rw [<- h.len];exact (List.getElem?_eq_some_iff.1 hk).1);obtain ⟨q,h1,_,h3⟩:=h.inn k i _ hk (List.getElem?_eq_getElem hlt);rw [hd]at h1;obtain rfl:=Option.some.inj h1;rw [ha _ (List.getElem_mem hlt)]at h3;rw [if_pos hi];obtain ⟨a1,a2,a3,a4,a5⟩:=p;simp only at h3;subst h3;rfl
  ·rw [if_neg hi]
theorem vf {stk:List Bool} {D:List af} {d:Nat}:∀(ss:List (List UInt8)) (ls:List (List UInt8)) (st:eM),iy st stk (D++[⟨d,false,[],false,ls⟩]) ->st.run=true ->(∀s∈ss,(bf s).2=false∧(0<stk.length ->cq s=false)) ->iy (ss.foldl ag st) stk (D++[⟨d,false,[],false,ls++ss⟩])∧(ss.foldl ag st).run=true
 |[],ls,st,h,hr,_=>by rw [List.append_nil];exact ⟨h,hr⟩
 |s::ss,ls,st,h,hr,hs=>by
  obtain ⟨h1,h2⟩:=hs s (List.mem_cons_self ..);obtain ⟨h3,h4⟩:=Cx h hr h1 h2;have:=vf ss (ls++[s]) _ h3 h4 (fun x hx=>hs x (List.mem_cons_of_mem _ hx));rw [List.append_assoc]at this;exact this
theorem y8 (bs:List Bool) (h:∀b∈bs,b=false):c7 bs=List.replicate bs.length ja:=by
 unfold c7;congr 1;rw [List.filter_eq_self.2 (fun b hb=>by rw [h b hb];rfl)]
theorem za (a b:Nat):c7 (List.replicate a true++List.replicate b false)=List.replicate b ja:=by
 unfold c7;congr 1;rw [List.filter_append];simp
theorem kG:∀(ps:List af) (stk:List Bool) (run:Bool) (D:List af) (st:eM),lN stk run ps ->es stk ->iy st stk D ->st.run=run ->((cX stk ps).foldl ag st).out=D++ps
 |[],stk,run,D,st,_,ho,hr,_=>by
  obtain ⟨a,b,rfl⟩:=ho;rw [cX,za,List.append_nil];exact (lT b st _ D hr).1.done (fun x hx=>List.eq_of_mem_replicate hx)
 |p::ps,stk,run,D,st,hw,ho,hr,hrun=>by
  obtain ⟨hd,hpop,hw⟩:=hw;rw [cX,y8 _ hpop,List.foldl_append,List.foldl_append];have hstk:stk=stk.take p.depth++List.replicate (stk.drop p.depth).length false:=by
   rw [<- sR hpop,List.take_append_drop]
  have hlt:(stk.take p.depth).length=p.depth:=(by rw [List.length_take];omega);rw [hstk]at hr;obtain ⟨h1,h2,h3⟩:=lT (stk.drop p.depth).length st (stk.take p.depth) D hr;obtain ⟨st1,hst1⟩:∃s,(List.replicate (stk.drop p.depth).length ja).foldl ag st=s:=⟨_,rfl⟩
  rw [hst1]at h1 h2 h3⊢;cases hdv:p.div with
  |true=>
   rw [hdv,if_pos rfl]at hw;obtain ⟨hl,hln,hop,hw⟩:=hw;obtain ⟨h4,h5⟩:=Bl h1 hl p.opn;have hp:(⟨(stk.take p.depth).length,true,p.label,p.opn,[]⟩:af)=p:=by
    rw [hlt,<- hdv,<- hln]
   rw [hp]at h4;have hpw:kq p=[iF p.label]:=(by unfold kq;rw [if_pos hdv]);rw [hpw,if_pos rfl,List.foldl_cons,List.foldl_nil];rw [kG ps _ false (D++[p]) _ hw ((ho.take _).snoc hop) h4 h5];simp
  |false=>
   rw [hdv,if_neg (by simp)]at hw;obtain ⟨hl,hop,hln,hls,hadj,hw⟩:=hw;have hpw:kq p=p.lines:=(by unfold kq;rw [if_neg (by rw [hdv];simp)]);have hr1:st1.run=false:=by
    by_cases h0:0<(stk.drop p.depth).length
    ·exact h2 h0
    ·rw [h3 (by omega),hrun];cases hb:run with
     |false=>rfl
     |true=>
      rw [List.length_drop]at h0;exact absurd ⟨hb,by omega⟩ hadj
   rw [hpw,if_neg (by simp),List.append_nil];cases hlc:p.lines with
   |nil=>exact absurd hlc hln
   |cons s ss=>
    have hls2:∀x∈s::ss,(bf x).2=false∧(0<(stk.take p.depth).length ->cq x=false):=fun x hx=>by
     rw [hlt];exact hls x (by rw [hlc];exact hx)
    obtain ⟨h4,h5⟩:=Aa h1 hr1 (hls2 s (List.mem_cons_self ..)).1 (hls2 s (List.mem_cons_self ..)).2;obtain ⟨h6,h7⟩:=vf ss [s] _ h4 h5 (fun x hx=>hls2 x (List.mem_cons_of_mem _ hx));have hp:(⟨(stk.take p.depth).length,false,[],false,[s]++ss⟩:af)=p:=by
     rw [hlt,List.singleton_append,<- hlc,<- hl];obtain ⟨a1,a2,a3,a4,a5⟩:=p;simp only at hop hdv;subst hop;subst hdv;rfl
    rw [hp]at h6;rw [List.foldl_cons,kG ps _ true (D++[p]) _ hw (ho.take _) h6 h7];simp
theorem uf {ps:List af} (h:lN [] false ps):bF (cX [] ps)=ps:=by
 unfold bF;have h0:iy ⟨[],[],false⟩ [] []:=⟨rfl,List.nodup_nil,fun k i b hk=>by simp at hk,fun i=>by simp⟩
 rw [kG ps [] false [] _ h ⟨0,0,rfl⟩ h0 rfl];rfl
def aA (q:List Bool×Bool) (p:af):List Bool×Bool:=if p.div=true then (q.1.take p.depth++[p.opn],false)else (q.1.take p.depth,true)
theorem lq {q:List Bool×Bool} {p:af} (h:p.div=true):aA q p=(q.1.take p.depth++[p.opn],false):=if_pos h
theorem pB {q:List Bool×Bool} {p:af} (h:p.div=false):aA q p=(q.1.take p.depth,true):=if_neg (by rw [h];simp)
def sM (q:List Bool×Bool) (p:af):Prop:=p.depth <= q.1.length∧(∀b∈q.1.drop p.depth,b=false)∧
 (if p.div=true then bh p.label=true∧p.lines=[]∧(p.opn=true ->∀b∈q.1.take p.depth,b=true)
 else p.label=[]∧p.opn=false∧p.lines≠[]∧(∀s∈p.lines,(bf s).2=false∧(0<p.depth ->cq s=false))∧¬(q.2=true∧p.depth=q.1.length))
theorem ed {q:List Bool×Bool} {p:af} {ps:List af}:lN q.1 q.2 (p::ps)↔sM q p∧lN (aA q p).1 (aA q p).2 ps:=by
 rw [lN];unfold sM aA;by_cases hd:p.div=true
 ·rw [if_pos hd,if_pos hd,if_pos hd];exact ⟨fun ⟨a,b,c,d,e,f⟩=>⟨⟨a,b,c,d,e⟩,f⟩,fun ⟨⟨a,b,c,d,e⟩,f⟩=>⟨a,b,c,d,e,f⟩⟩
 ·rw [if_neg hd,if_neg hd,if_neg hd];exact ⟨fun ⟨a,b,c,d,e,f,g,h⟩=>⟨⟨a,b,c,d,e,f,g⟩,h⟩,fun ⟨⟨a,b,c,d,e,f,g⟩,h⟩=>⟨a,b,c,d,e,f,g,h⟩⟩
theorem mr:∀(A B:List af) (q:List Bool×Bool),lN q.1 q.2 (A++B)↔lN q.1 q.2 A∧lN (A.foldl aA q).1 (A.foldl aA q).2 B
 |[],B,q=>⟨fun h=>⟨trivial,h⟩,fun h=>h.2⟩
 |p::A,B,q=>by
  rw [List.cons_append,ed,ed,mr A B (aA q p),List.foldl_cons];exact ⟨fun ⟨a,b,c⟩=>⟨⟨a,b⟩,c⟩,fun ⟨⟨a,b⟩,c⟩=>⟨a,b,c⟩⟩
theorem yH {A:List af} {p:af} (h:lN [] false A) (hp:sM (A.foldl aA ([],false)) p):lN [] false (A++[p]):=
 (mr A [p] ([],false)).2 ⟨h,ed.2 ⟨hp,trivial⟩⟩
theorem x6 {α:Type} (S T:List α) (x:α) {d:Nat} (h:S.length<d):(S++x::T).take d=S++x::T.take (d - S.length - 1)∧(S++x::T).drop d=T.drop (d - S.length - 1):=by
 obtain ⟨e,rfl⟩:∃e,d=S.length+(e+1):=⟨d - S.length - 1,by omega⟩
 rw [show S.length+(e+1) - S.length - 1=e by omega];refine ⟨?_,?_⟩
 ·rw [List.take_length_add_append];rfl
 ·rw [List.drop_length_add_append];rfl
theorem yG (x y:Bool):∀(B:List af) (S T:List Bool) (run:Bool),(∀p∈B,S.length<p.depth∧p.opn=false) ->lN (S++x::T) run B ->
  lN (S++y::T) run B∧∃T' run',B.foldl aA (S++x::T,run)=(S++x::T',run')∧B.foldl aA (S++y::T,run)=(S++y::T',run')
 |[],S,T,run,_,_=>⟨trivial,T,run,rfl,rfl⟩
 |p::B,S,T,run,hB,h=>by
  obtain ⟨hd,ho⟩:=hB p (List.mem_cons_self ..);obtain ⟨tx,dx⟩:=x6 S T x hd;obtain ⟨ty,dy⟩:=x6 S T y hd;have h':=(ed (q:=(S++x::T,run))).1 h;obtain ⟨⟨h1,h2,h3⟩,h4⟩:=h';simp only at h1 h2 h3;rw [dx]at h2;have key:sM (S++y::T,run) p:=by
   refine ⟨by simp at h1⊢;exact h1,by simp only;rw [dy];exact h2,?_⟩;split at h3
   ·rename_i hdv;rw [if_pos hdv];exact ⟨h3.1,h3.2.1,fun e=>by rw [ho]at e;cases e⟩
   ·rename_i hdv;rw [if_neg hdv];exact ⟨h3.1,h3.2.1,h3.2.2.1,h3.2.2.2.1,fun e=>h3.2.2.2.2 ⟨e.1,by have:=e.2;simp at this⊢;exact this⟩⟩
  have sx:aA (S++x::T,run) p=(S++x::(T.take (p.depth - S.length - 1)++(if p.div=true then [p.opn]else [])), !p.div):=by
   unfold aA;simp only [tx];by_cases hdv:p.div=true
   ·rw [if_pos hdv,if_pos hdv,hdv];simp
   ·rw [if_neg hdv,if_neg hdv];simp [hdv]
  have sy:aA (S++y::T,run) p=(S++y::(T.take (p.depth - S.length - 1)++(if p.div=true then [p.opn]else [])), !p.div):=by
   unfold aA;simp only [ty];by_cases hdv:p.div=true
   ·rw [if_pos hdv,if_pos hdv,hdv];simp
   ·rw [if_neg hdv,if_neg hdv];simp [hdv]
  rw [sx]at h4;obtain ⟨h5,T',run',h6,h7⟩:=yG x y B S _ _ (fun z hz=>hB z (List.mem_cons_of_mem _ hz)) h4;refine ⟨(ed (q:=(S++y::T,run))).2 ⟨key,by rw [sy];exact h5⟩,T',run',?_,?_⟩
  ·rw [List.foldl_cons,sx,h6]
  ·rw [List.foldl_cons,sy,h7]
theorem wQ {α:Type} (f:α ->α) (x:α) (B:List α):∀A:List α,(A++x::B).modify A.length f=A++f x::B
 |[]=>by simp
 |a::A=>by
  rw [List.cons_append,List.length_cons,List.modify_succ_cons,wQ f x B A];rfl
theorem yl {α:Type} (f:α ->α) (x:α) (B:List α) (t:Nat):∀A:List α,(A++x::B).modify (A.length+(t+1)) f=A++x::B.modify t f
 |[]=>by simp
 |a::A=>by
  rw [List.cons_append,List.length_cons,show A.length+1+(t+1)=A.length+(t+1)+1 by omega,List.modify_succ_cons,yl f x B t A];rfl
structure lB (st:eM):Prop where
 wf:lN [] false st.out
 stk:∃m,(st.out.foldl aA ([],false)).1=List.replicate st.inn.length true++List.replicate m false
 run1:st.run=true ->∃O r,st.out=O++[r]∧r.div=false∧r.depth=st.inn.length
 run0:st.run=false ->¬((st.out.foldl aA ([],false)).2=true∧st.inn.length=(st.out.foldl aA ([],false)).1.length)
 idx:∀(k i:Nat),st.inn[k]? =some i ->∃A p B,st.out=A++p::B∧A.length=i∧p.div=true∧p.depth=k∧p.opn=true∧∀x∈B,k<x.depth
 opn:∀(i:Nat) (p:af),st.out[i]? =some p ->p.opn=true ->i∈st.inn
theorem lB.init:lB ⟨[],[],false⟩:=⟨trivial,⟨0,rfl⟩,fun h=>(by cases h),fun _ h=>(by cases h.1),fun k i h=>(by simp at h),fun i p h=>(by simp at h)⟩
theorem lB.push {st:eM} (h:lB st) (p:af) (hd:p.depth=st.inn.length) (hok:sM (st.out.foldl aA ([],false)) p):lN [] false (st.out++[p])∧
  (∀(k i:Nat),st.inn[k]? =some i ->∃A q B,st.out++[p]=A++q::B∧A.length=i∧q.div=true∧q.depth=k∧q.opn=true∧∀x∈B,k<x.depth):=by
 refine ⟨yH h.wf hok,fun k i hk=>?_⟩;obtain ⟨A,q,B,h1,h2,h3,h4,h5,h6⟩:=h.idx k i hk;refine ⟨A,q,B++[p],by rw [h1];simp,h2,h3,h4,h5,fun x hx=>?_⟩;rcases List.mem_append.1 hx with hx|hx
 ·exact h6 x hx
 ·rw [List.mem_singleton.1 hx,hd];exact (List.getElem?_eq_some_iff.1 hk).1
theorem Cn (L m:Nat):(List.replicate L true++List.replicate m false).take L=List.replicate L true∧(List.replicate L true++List.replicate m false).drop L=List.replicate m false:=by
 have h1:=List.take_left (l₁:=List.replicate L true) (l₂:=List.replicate m false);have h2:=List.drop_left (l₁:=List.replicate L true) (l₂:=List.replicate m false);rw [List.length_replicate]at h1 h2;exact ⟨h1,h2⟩
theorem lB.step {st:eM} (h:lB st) (s:List UInt8):lB (ag st s):=by
 obtain ⟨m,hm⟩:=h.stk;obtain ⟨t1,t2⟩:=Cn st.inn.length m;unfold ag;split
 ·rename_i ho;have hok:sM (st.out.foldl aA ([],false)) ⟨st.inn.length,true,(bf s).1,true,[]⟩:=by
   refine ⟨by rw [hm];simp,fun b hb=>?_,?_⟩
   ·rw [hm]at hb;simp only [t2]at hb;exact List.eq_of_mem_replicate hb
   ·rw [if_pos rfl];refine ⟨nZ ho,rfl,fun _ b hb=>?_⟩;rw [hm]at hb;simp only [t1]at hb;exact List.eq_of_mem_replicate hb
  obtain ⟨h1,h2⟩:=h.push _ rfl hok;have hst:((st.out++[(⟨st.inn.length,true,(bf s).1,true,[]⟩:af)]).foldl aA ([],false))=(List.replicate st.inn.length true++[true],false):=by
   rw [List.foldl_append,List.foldl_cons,List.foldl_nil];rw [lq rfl];simp only [hm,t1]
  refine ⟨h1,⟨0,?_⟩,fun e=>(by cases e),fun _ e=>?_,fun k i hk=>?_,fun i p hi hp=>?_⟩
  ·simp only;rw [hst];simp only [List.length_append,List.length_singleton,List.replicate_zero,List.append_nil];rw [List.replicate_succ']
  ·simp only at e;rw [hst]at e;cases e.1
  ·simp only at hk;by_cases hkl:k<st.inn.length
   ·rw [List.getElem?_append_left hkl]at hk;exact h2 k i hk
   ·have hke:k=st.inn.length:=by
     have:=(List.getElem?_eq_some_iff.1 hk).1;simp at this;omega
    rw [hke,List.getElem?_concat_length]at hk;obtain rfl:=Option.some.inj hk;exact ⟨st.out,_,[],rfl,rfl,rfl,hke.symm,rfl,fun x hx=>by cases hx⟩
  ·simp only at hi⊢;by_cases hil:i<st.out.length
   ·rw [List.getElem?_append_left hil]at hi;exact List.mem_append_left _ (h.opn i p hi hp)
   ·have:=(List.getElem?_eq_some_iff.1 hi).1;simp at this;rw [show i=st.out.length by omega];exact List.mem_append_right _ (List.mem_singleton.2 rfl)
 ·rename_i hno;have hno:(bf s).2=false:=(by simpa using hno);split
  ·rename_i hsh;obtain ⟨inn0,j,hj⟩:∃a j,st.inn=a++[j]:=⟨st.inn.dropLast,st.inn.getLast (List.length_pos_iff.1 hsh.2),(List.dropLast_concat_getLast _).symm⟩
   have hl0:st.inn.length=inn0.length+1:=(by rw [hj];simp);obtain ⟨A,p,B,hout,hA,hpd,hpk,hpo,hB⟩:=h.idx inn0.length j (by rw [hj];simp);have hgl:st.inn.getLast?.getD 0=j:=(by rw [hj];simp);have hdl:st.inn.dropLast=inn0:=(by rw [hj];simp);have hmod:st.out.modify j (fun p=>{p with opn:=false})=A++{p with opn:=false}::B:=by
    rw [hout,<- hA,wQ]
   have hBo:∀x∈B,inn0.length<x.depth∧x.opn=false:=fun x hx=>by
    refine ⟨hB x hx,?_⟩;cases ho:x.opn with
    |false=>rfl
    |true=>
     exfalso;obtain ⟨t,ht⟩:=List.getElem?_of_mem hx;have hi:st.out[A.length+(t+1)]? =some x:=by
      rw [hout,List.getElem?_append_right (by omega),show A.length+(t+1) - A.length=t+1 by omega,List.getElem?_cons_succ];exact ht
     obtain ⟨k,hk⟩:=List.getElem?_of_mem (h.opn _ x hi ho);obtain ⟨A2,p2,B2,h1,h2,_,h4,_,_⟩:=h.idx k _ hk;rw [h1,<- h2,List.getElem?_append_right (Nat.le_refl _),Nat.sub_self]at hi;obtain rfl:p2=x:=(by simpa using hi);have:=(List.getElem?_eq_some_iff.1 hk).1;have:=hB _ hx;omega
   have hw:=h.wf;rw [hout]at hw;obtain ⟨w1,w2⟩:=(mr A (p::B) ([],false)).1 hw;obtain ⟨q,hq⟩:∃q,A.foldl aA ([],false)=q:=⟨_,rfl⟩
   rw [hq]at w2;obtain ⟨w3,w4⟩:=ed.1 w2;rw [lq hpd,hpo,hpk]at w4;have hSl:(q.1.take inn0.length).length=inn0.length:=by
    rw [List.length_take];have:=w3.1;omega
   obtain ⟨w5,T',run',e1,e2⟩:=yG true false B (q.1.take inn0.length) [] false (fun x hx=>by rw [hSl];exact hBo x hx) w4;have hp':sM q {p with opn:=false}:=by
    obtain ⟨a1,a2,a3⟩:=w3;rw [if_pos hpd]at a3;refine ⟨a1,a2,?_⟩;rw [if_pos hpd];exact ⟨a3.1,a3.2.1,fun e=>(by cases e)⟩
   have hf:st.out.foldl aA ([],false)=(q.1.take inn0.length++true::T',run'):=by
    rw [hout,List.foldl_append,hq,List.foldl_cons,lq hpd,hpo,hpk,e1]
   have hf':(A++({p with opn:=false}:af)::B).foldl aA ([],false)=(q.1.take inn0.length++false::T',run'):=by
    rw [List.foldl_append,hq,List.foldl_cons,lq (p:={p with opn:=false}) hpd,hpk,e2]
   rw [hf,hl0,List.replicate_succ',List.append_assoc]at hm;obtain ⟨m1,m2⟩:=List.append_inj hm (by rw [hSl,List.length_replicate]);rw [List.singleton_append,List.cons.injEq]at m2;rw [m1,m2.2]at hf';rw [hgl,hdl,hmod];refine ⟨?_,⟨m+1,?_⟩,fun e=>(by cases e),fun _ e=>?_,fun k i hk=>?_,fun i x hi hx=>?_⟩
   ·refine (mr A _ ([],false)).2 ⟨w1,?_⟩;rw [hq];refine ed.2 ⟨hp',?_⟩;rw [lq (p:={p with opn:=false}) hpd,hpk];exact w5
   ·simp only;rw [hf',List.replicate_succ]
   ·simp only at e;rw [hf']at e;have:=e.2;simp at this
   ·have hk0:st.inn[k]? =some i:=(by rw [hj,List.getElem?_append_left (List.getElem?_eq_some_iff.1 hk).1];exact hk);have hkl:k<inn0.length:=(List.getElem?_eq_some_iff.1 hk).1;obtain ⟨A2,p2,B2,g1,g2,g3,g4,g5,g6⟩:=h.idx k i hk0;have hi2:st.out[i]? =some p2:=(by rw [g1,<- g2];simp);have hlt:i<j:=by
     rcases Nat.lt_trichotomy i j with hc|hc|hc
     ·exact hc
     ·exfalso;rw [hc,hout,<- hA]at hi2;obtain rfl:p=p2:=(by simpa using hi2);omega
     ·exfalso;obtain ⟨t,rfl⟩:∃t,i=A.length+(t+1):=⟨i - A.length - 1,by omega⟩
      rw [hout,List.getElem?_append_right (by omega),show A.length+(t+1) - A.length=t+1 by omega,List.getElem?_cons_succ]at hi2;have:=hB p2 (List.mem_of_getElem? hi2);omega
    obtain ⟨t,ht⟩:∃t,j=A2.length+(t+1):=⟨j - A2.length - 1,by omega⟩
    refine ⟨A2,p2,B2.modify t (fun p=>{p with opn:=false}),?_,g2,g3,g4,g5,?_⟩
    ·rw [<- hmod,g1,ht,yl]
    ·exact jl (Q:=fun x:af=>k<x.depth) (u:=fun p:af=>{p with opn:=false}) (fun x hx=>hx) B2 t g6
   ·simp only at hi⊢;by_cases hij:i=j
    ·exfalso;rw [hij,<- hA]at hi;obtain rfl:({p with opn:=false}:af)=x:=(by simpa using hi);cases hx
    ·have hi3:st.out[i]? =some x:=by
      rw [<- hmod,List.getElem?_modify]at hi;cases ho:st.out[i]? with
      |none=>rw [ho]at hi;cases hi
      |some y=>
       rw [ho]at hi;have hji:¬j=i:=fun e=>hij e.symm;simpa [hji]using hi
     have:=h.opn i x hi3 hx;rw [hj,List.mem_append,List.mem_singleton]at this;exact this.resolve_right hij
  ·rename_i hnsh;split
   ·rename_i hrun;obtain ⟨O,r,hO,hrd,hrk⟩:=h.run1 hrun;have hw:=h.wf;rw [hO]at hw;obtain ⟨w1,w2⟩:=(mr O [r] ([],false)).1 hw;have w3:=(ed.1 w2).1;have hmod:st.out.modify (st.out.length - 1) (fun p=>{p with lines:=p.lines++[s]})=O++[{r with lines:=r.lines++[s]}]:=by
     rw [hO,List.length_append,List.length_singleton,Nat.add_sub_cancel,wQ]
    have hro:r.opn=false:=by
     have:=w3.2.2;rw [if_neg (by rw [hrd];simp)]at this;exact this.2.1
    have hok:sM (O.foldl aA ([],false)) {r with lines:=r.lines++[s]}:=by
     obtain ⟨a1,a2,a3⟩:=w3;rw [if_neg (by rw [hrd];simp)]at a3;refine ⟨a1,a2,?_⟩;rw [if_neg (by simp [hrd])];refine ⟨a3.1,a3.2.1,by simp,fun x hx=>?_,a3.2.2.2.2⟩;rcases List.mem_append.1 hx with hx|hx
     ·exact a3.2.2.2.1 x hx
     ·rw [List.mem_singleton.1 hx];refine ⟨hno,fun hp=>?_⟩;cases hb:cq s with
      |false=>rfl
      |true=>exact absurd ⟨hb,by rw [<- hrk];exact hp⟩ hnsh
    have hf:(O++[({r with lines:=r.lines++[s]}:af)]).foldl aA ([],false)=st.out.foldl aA ([],false):=by
     rw [hO,List.foldl_append,List.foldl_append,List.foldl_cons,List.foldl_nil,List.foldl_cons,List.foldl_nil,pB hrd,pB (p:={r with lines:=r.lines++[s]}) hrd]
    rw [hmod];refine ⟨yH w1 hok,⟨m,by simp only;rw [hf];exact hm⟩,fun _=>⟨O,_,rfl,hrd,hrk⟩,fun e=>(by cases e),fun k i hk=>?_,fun i x hi hx=>?_⟩
    ·obtain ⟨A,p,B,g1,g2,g3,g4,g5,g6⟩:=h.idx k i hk;rw [hO]at g1;have hBne:B≠[]:=fun e=>by
      rw [e]at g1;have:=(List.append_inj' g1 rfl).2;rw [List.cons.injEq]at this;rw [<- this.1,hrd]at g3;cases g3
     obtain ⟨B0,b,hb⟩:∃B0 b,B=B0++[b]:=⟨B.dropLast,B.getLast hBne,(List.dropLast_concat_getLast hBne).symm⟩
     rw [hb,show A++p::(B0++[b])=(A++p::B0)++[b] by simp]at g1;obtain ⟨c1,c2⟩:=List.append_inj' g1 rfl;rw [List.cons.injEq]at c2;refine ⟨A,p,B0++[{r with lines:=r.lines++[s]}],by rw [c1];simp,g2,g3,g4,g5,fun x hx=>?_⟩;rcases List.mem_append.1 hx with hx|hx
     ·exact g6 x (by rw [hb];exact List.mem_append_left _ hx)
     ·rw [List.mem_singleton.1 hx];exact g6 r (by rw [hb,c2.1];exact List.mem_append_right _ (List.mem_singleton.2 rfl))
    ·simp only at hi⊢;by_cases hil:i<O.length
     ·rw [List.getElem?_append_left hil]at hi;exact h.opn i x (by rw [hO,List.getElem?_append_left hil];exact hi) hx
     ·exfalso;have:=(List.getElem?_eq_some_iff.1 hi).1;simp at this;rw [show i=O.length by omega,List.getElem?_concat_length]at hi;obtain rfl:=Option.some.inj hi;rw [hro]at hx;cases hx
   ·rename_i hnrun;have hrf:st.run=false:=(by simpa using hnrun);have hok:sM (st.out.foldl aA ([],false)) ⟨st.inn.length,false,[],false,[s]⟩:=by
     refine ⟨by rw [hm];simp,fun b hb=>?_,?_⟩
     ·rw [hm]at hb;simp only [t2]at hb;exact List.eq_of_mem_replicate hb
     ·rw [if_neg (by simp)];refine ⟨rfl,rfl,by simp,fun x hx=>?_,h.run0 hrf⟩;rw [List.mem_singleton.1 hx];refine ⟨hno,fun hp=>?_⟩;cases hb:cq s with
      |false=>rfl
      |true=>exact absurd ⟨hb,hp⟩ hnsh
    obtain ⟨h1,h2⟩:=h.push _ rfl hok;have hst:((st.out++[(⟨st.inn.length,false,[],false,[s]⟩:af)]).foldl aA ([],false))=(List.replicate st.inn.length true,true):=by
     rw [List.foldl_append,List.foldl_cons,List.foldl_nil];rw [pB rfl];simp only [hm,t1]
    refine ⟨h1,⟨0,?_⟩,fun _=>⟨st.out,_,rfl,rfl,rfl⟩,fun e=>(by cases e),fun k i hk=>h2 k i hk,fun i p hi hp=>?_⟩
    ·simp only;rw [hst];simp
    ·simp only at hi⊢;by_cases hil:i<st.out.length
     ·rw [List.getElem?_append_left hil]at hi;exact h.opn i p hi hp
     ·have:=(List.getElem?_eq_some_iff.1 hi).1;simp at this;rw [show i=st.out.length by omega,List.getElem?_concat_length]at hi;obtain rfl:=Option.some.inj hi;cases hp
theorem rH:∀(l:List (List UInt8)) (st:eM),lB st ->lB (l.foldl ag st)
 |[],st,h=>h
 |s::l,st,h=>rH l _ (h.step s)
theorem ue (l:List (List UInt8)):lN [] false (bF l):=(rH l _ lB.init).wf
theorem uN {s:List UInt8} (h:(bf s).2=true):(124:UInt8)∉s:=by
 have hl:=nZ h;obtain ⟨k,hk⟩:=fk s;have h124:(124:UInt8)∉(bf s).1:=by
  unfold bh at hl;simp only [Bool.and_eq_true]at hl;exact fun e=>absurd (List.all_eq_true.1 hl.1.1 _ e) (by decide)
 unfold bf at h h124
 dsimp only at h h124
 split at h
 ·cases h
 ·rename_i hp;rw [if_neg hp]at h124;split at h
  ·rename_i hg;rw [if_pos hg]at h124;simp only at h124;have hpt:Lib.hasPrefix (bW s) [58,58,58,123]=true:=(by simpa using hp);have ht:bW s=[58,58,58,123]++Lib.trimPrefix (bW s) [58,58,58,123]:=by
    unfold Lib.trimPrefix;rw [if_pos hpt];unfold Lib.hasPrefix at hpt;obtain ⟨u,hu⟩:=List.isPrefixOf_iff_prefix.1 hpt;rw [<- hu];rfl
   obtain ⟨R,hR⟩:∃R,Lib.trimPrefix (bW s) [58,58,58,123]=R:=⟨_,rfl⟩
   rw [hR]at hg h124 ht;have hne:R≠[]:=fun e=>by rw [e]at hg;cases hg
   have hlast:=List.dropLast_concat_getLast hne;rw [List.getLast?_eq_some_getLast hne]at hg;rw [Option.some.inj hg]at hlast;intro e;rw [hk,ht,<- hlast]at e;rcases List.mem_append.1 e with e|e
   ·rcases List.mem_append.1 e with e|e
    ·exact absurd e (by decide)
    ·rcases List.mem_append.1 e with e|e
     ·exact h124 e
     ·exact absurd e (by decide)
   ·exact absurd (List.eq_of_mem_replicate e) (by decide)
  ·cases h
theorem vk {s:List UInt8} (h:cq s=true):(124:UInt8)∉s:=by
 obtain ⟨k,hk⟩:=fk s;unfold cq at h;rw [eq_of_beq h]at hk;rw [hk];intro e;rcases List.mem_append.1 e with e|e
 ·exact absurd e (by decide)
 ·exact absurd (List.eq_of_mem_replicate e) (by decide)
theorem Cz {s:List UInt8} (h:s.head? ≠some 58):cq s=false:=by
 cases hb:cq s with
 |false=>rfl
 |true=>
  obtain ⟨k,hk⟩:=fk s;unfold cq at hb;rw [eq_of_beq hb]at hk;rw [hk]at h;exact absurd rfl h
theorem Ax (z:aS) (u:List (List UInt8)) {s:List UInt8} (h:(bf s).2=false):(bf (au z u s)).2=false∧(cq s=false ->cq (au z u s)=false):=by
 have hem:∀em:ai ->ai,(bf (cf em s)).2=false∧(cq s=false ->cq (cf em s)=false):=fun em=>by
  refine ⟨?_,fun hs=>?_⟩
  ·cases hb:(bf (cf em s)).2 with
   |false=>rfl
   |true=>
    have:=kO (em:=em) _ s (by omega) (uN hb);unfold cf at hb;rw [this,h]at hb;cases hb
  ·cases hb:cq (cf em s)with
   |false=>rfl
   |true=>
    have:=kO (em:=em) _ s (by omega) (vk hb);unfold cf at hb;rw [this,hs]at hb;cases hb
 unfold au;split
 ·rename_i hh;obtain ⟨a,lab,k,h1,hl,ha,e⟩:=eY hh;split
  ·rw [h1];simp only;obtain ⟨i,j,r,hi,hj1,hj6,rfl⟩:=ha;rw [iO i j r hj1];have hd:((List.replicate i (32:UInt8)++(List.replicate j (35:UInt8)++(32:UInt8)::r)).take (i+j)++32::d9 lab 0).head? ≠some 58:=by
    obtain ⟨q,rfl⟩:∃q,j=q+1:=⟨j - 1,by omega⟩
    cases i with
    |zero=>rw [List.replicate_zero,List.nil_append,Nat.zero_add,List.replicate_succ,List.cons_append,List.take_succ_cons];simp
    |succ i=>rw [List.replicate_succ,List.cons_append,show i+1+(q+1)=(i+(q+1))+1 by omega,List.take_succ_cons];simp
   exact ⟨wY _ hd,fun _=>Cz hd⟩
  ·rw [c6 (eO z _)];exact hem _
 ·rw [c6 (eO z _)];exact hem _
theorem yn {q:List Bool×Bool} {p:af} (z:aS) (u:List (List UInt8)) (h:sM q p):sM q {p with lines:=p.lines.map (au z u)}:=by
 obtain ⟨h1,h2,h3⟩:=h;refine ⟨h1,h2,?_⟩;split at h3
 ·rename_i hd;rw [if_pos hd];exact ⟨h3.1,by simp [h3.2.1],h3.2.2⟩
 ·rename_i hd;rw [if_neg hd];refine ⟨h3.1,h3.2.1,by simpa using h3.2.2.1,fun s hs=>?_,h3.2.2.2.2⟩;obtain ⟨t,ht,rfl⟩:=List.mem_map.1 hs;obtain ⟨g1,g2⟩:=h3.2.2.2.1 t ht;obtain ⟨g3,g4⟩:=Ax z u g1;exact ⟨g3,fun e=>g4 (g2 e)⟩
def pk (q:List Bool×Bool) (o:Option Nat):List Bool×Bool:=match o with
 |none=>q
 |some h=>(q.1.take (h+1),false)
theorem DE {q:List Bool×Bool} {p:af} {o:Option Nat} (h:sM q p) (hl:∀h,o=some h ->h<q.1.length∧p.depth <= h):sM (pk q o) p∧aA (pk q o) p=aA q p:=by
 cases o with
 |none=>exact ⟨h,rfl⟩
 |some k=>
  obtain ⟨h1,h2⟩:=hl k rfl;obtain ⟨a1,a2,a3⟩:=h;have htk:(q.1.take (k+1)).take p.depth=q.1.take p.depth:=(by rw [List.take_take,Nat.min_eq_left (by omega)]);refine ⟨⟨by simp [pk];omega,fun b hb=>?_,?_⟩,?_⟩
  ·simp only [pk]at hb;rw [List.drop_take]at hb;exact a2 b (List.mem_of_mem_take hb)
  ·simp only [pk,htk];split at a3
   ·rename_i hd;rw [if_pos hd];exact a3
   ·rename_i hd;rw [if_neg hd];exact ⟨a3.1,a3.2.1,a3.2.2.1,a3.2.2.2.1,fun e=>(by cases e.1)⟩
  ·unfold aA pk;simp only [htk]
theorem nG (z:aS):∀(l:List af) (q:List Bool×Bool) (u:List (List UInt8)) (o:Option Nat),lN q.1 q.2 l ->(∀h,o=some h ->h<q.1.length) ->lN (pk q o).1 (pk q o).2 (l.foldl (ar z) ([],u,o)).1
 |[],q,u,o,_,_=>trivial
 |p::l,q,u,o,hw,ho=>by
  obtain ⟨hok,hw2⟩:=ed.1 hw;rw [List.foldl_cons];by_cases hh:(o.any fun h=>decide (h<p.depth))=true
  ·have e1:ar z ([],u,o) p=([],u,o):=(by unfold ar;rw [if_pos hh]);rw [e1];cases o with
   |none=>cases hh
   |some k=>
    have hk:k<p.depth:=(by simpa using hh);have hd:=hok.1;have hq:(aA q p).1.take (k+1)=q.1.take (k+1)∧k<(aA q p).1.length:=by
     unfold aA;split
     ·refine ⟨?_,by simp;omega⟩;rw [List.take_append_of_le_length (by rw [List.length_take];omega),List.take_take,Nat.min_eq_left (by omega)]
     ·refine ⟨?_,by simp;omega⟩;rw [List.take_take,Nat.min_eq_left (by omega)]
    have ih:=nG z l (aA q p) u (some k) hw2 (fun h e=>by obtain rfl:=Option.some.inj e;exact hq.2);unfold pk at ih⊢;simp only [hq.1]at ih;exact ih
  ·obtain ⟨k1,k2⟩:=DE hok (fun h e=>⟨ho h e,by subst e;simpa using hh⟩);cases hd:p.div with
   |false=>
    have e1:ar z ([],u,o) p=([{p with lines:=p.lines.map (au z (u.take p.depth))}],u.take p.depth,none):=by
     unfold ar;rw [if_neg hh,if_pos hd];rfl
    rw [e1,eE,List.singleton_append];refine ed.2 ⟨yn z _ k1,?_⟩;have e2:aA (pk q o) {p with lines:=p.lines.map (au z (u.take p.depth))}=aA q p:=(by rw [<- k2];rfl);rw [e2];exact nG z l (aA q p) _ none hw2 (fun h e=>by cases e)
   |true=>
    have e1:ar z ([],u,o) p=([{p with lines:=p.lines.map (au z (u.take p.depth++[p.label]))}],u.take p.depth++[p.label],if z.sees (u.take p.depth++[p.label])=false then some p.depth else none):=by
     unfold ar;rw [if_neg hh,if_neg (by rw [hd];simp)];rfl
    rw [e1,eE,List.singleton_append];refine ed.2 ⟨yn z _ k1,?_⟩;have e2:aA (pk q o) {p with lines:=p.lines.map (au z (u.take p.depth++[p.label]))}=aA q p:=(by rw [<- k2];rfl);rw [e2];have e3:aA q p=(q.1.take p.depth++[p.opn],false):=lq hd;have hl:(q.1.take p.depth++[p.opn]).length=p.depth+1:=(by have:=hok.1;simp;omega);split
    ·have ih:=nG z l (aA q p) (u.take p.depth++[p.label]) (some p.depth) hw2 (fun h e=>by obtain rfl:=Option.some.inj e;rw [e3,hl];omega);unfold pk at ih;simp only [e3]at ih⊢;rw [List.take_of_length_le (by rw [hl];exact Nat.le_refl _)]at ih;exact ih
    ·exact nG z l (aA q p) _ none hw2 (fun h e=>by cases e)
theorem qO (z:aS) (l:List (List UInt8)):lN [] false (bE z (bF l))∧bF (cX [] (bE z (bF l)))=bE z (bF l):=by
 have h:lN [] false (bE z (bF l)):=nG z (bF l) ([],false) [] none (ue l) (fun h e=>by cases e);exact ⟨h,uf h⟩
structure jH (c:List UInt8):Prop where
 ne:c≠[]
 dec:∃r,r≠0∧r≠13∧(r=65533 ->c=iW)∧∀t,Lib.decodeL (c++t)=(r,c.length)
 big:(∃b:UInt8,c=[b]∧b.toNat<128)∨∀b∈c,128 <= b.toNat
def dl (s:List UInt8):Prop:=∃cs:List (List UInt8),s=cs.flatten∧∀c∈cs,jH c
theorem dl.nil:dl []:=⟨[],rfl,fun c h=>by cases h⟩
theorem dl.app {a b:List UInt8} (ha:dl a) (hb:dl b):dl (a++b):=by
 obtain ⟨ca,rfl,h1⟩:=ha;obtain ⟨cb,rfl,h2⟩:=hb;refine ⟨ca++cb,by simp,fun c hc=>?_⟩;rcases List.mem_append.1 hc with hc|hc
 ·exact h1 c hc
 ·exact h2 c hc
theorem jX {b:UInt8} (h:b.toNat<128) (h0:b≠0) (h13:b≠13):jH [b]:=by
 refine ⟨by simp,⟨b.toNat,fun e=>h0 (UInt8.toNat_inj.1 e),fun e=>h13 (UInt8.toNat_inj.1 e),fun e=>by omega,fun t=>?_⟩,Or.inl ⟨b,rfl,h⟩⟩;exact Lib.decodeL_ascii b t h
theorem lZ:∀{s:List UInt8},(∀b∈s,EZ b=true) ->dl s
 |[],_=>dl.nil
 |b::s,h=>by
  have hb:=h b (List.mem_cons_self ..);unfold EZ at hb;simp only [Bool.and_eq_true,bne_iff_ne,decide_eq_true_eq]at hb;exact dl.app (a:=[b]) ⟨[[b]],rfl,fun c hc=>by rw [List.mem_singleton.1 hc];exact jX hb.1.2 hb.1.1 hb.2⟩ (lZ fun x hx=>h x (List.mem_cons_of_mem _ hx))
theorem dl.cut:∀{cs:List (List UInt8)} {a b:List UInt8} {c:UInt8},(∀x∈cs,jH x) ->c.toNat<128 ->cs.flatten=a++c::b ->dl a∧dl b
 |[],a,b,c,_,_,h=>by simp at h
 |x::cs,a,b,c,hx,hc,h=>by
  have h1:=hx x (List.mem_cons_self ..);have h2:=fun y hy=>hx y (List.mem_cons_of_mem _ hy);rw [List.flatten_cons]at h;rcases List.append_eq_append_iff.1 h with ⟨d,e1,e2⟩|⟨d,e1,e2⟩
  ·obtain ⟨fa,fb⟩:=dl.cut h2 hc e2;exact ⟨by rw [e1];exact dl.app ⟨[x],by simp,fun y hy=>by rw [List.mem_singleton.1 hy];exact h1⟩ fa,fb⟩
  ·cases d with
   |nil=>
    rw [List.nil_append]at e2;rw [List.append_nil]at e1;obtain ⟨fa,fb⟩:=dl.cut (a:=[]) h2 hc (by rw [<- e2];rfl);exact ⟨⟨[x],by rw [<- e1];simp,fun y hy=>by rw [List.mem_singleton.1 hy];exact h1⟩,fb⟩
   |cons g d=>
    rw [List.cons_append,List.cons.injEq]at e2;obtain ⟨rfl,e2⟩:=e2;rcases h1.big with ⟨u,hu,hul⟩|hbig
    ·rw [hu]at e1;cases a with
     |nil=>
      rw [List.nil_append,List.cons.injEq]at e1;rw [<- e1.2,List.nil_append]at e2;exact ⟨dl.nil,⟨cs,e2,h2⟩⟩
     |cons g a=>
      rw [List.cons_append,List.cons.injEq]at e1;have:=congrArg List.length e1.2;simp at this
    ·have:=hbig c (by rw [e1];simp);omega
theorem dl.parts {s a b:List UInt8} {c:UInt8} (hs:dl s) (hc:c.toNat<128) (h:s=a++c::b):dl a∧dl b:=by
 obtain ⟨cs,rfl,h1⟩:=hs;exact dl.cut h1 hc h
theorem vY {c:List UInt8} (h:jH c):(13:UInt8)∉c:=by
 intro e;rcases h.big with ⟨u,hu,hul⟩|hbig
 ·rw [hu]at e;obtain rfl:=List.mem_singleton.1 e;obtain ⟨r,_,h2,_,h4⟩:=h.dec;have:=h4 [];rw [hu,List.append_nil,Lib.decodeL_ascii 13 [] (by decide)]at this;exact h2 (Prod.mk.inj this).1.symm
 ·have:=hbig 13 e;exact absurd this (by decide)
theorem ku:∀(cs:List (List UInt8)) (p:List UInt8) (f:Nat),(∀x∈cs,jH x) ->p.getLast? ≠some 13 ->cs.flatten.length <= f ->bQ f (p++cs.flatten) p.length=cs.flatten
 |[],p,f,_,_,_=>by
  cases f with
  |zero=>rfl
  |succ f=>rw [bQ,if_pos (by simp)];rfl
 |c::cs,p,f,h,hp,hf=>by
  have h1:=h c (List.mem_cons_self ..);have h2:=fun y hy=>h y (List.mem_cons_of_mem _ hy);have hne:0<c.length:=List.length_pos_iff.2 h1.ne;rw [List.flatten_cons,List.length_append]at hf;obtain ⟨g,rfl⟩:∃g,f=g+1:=⟨f - 1,by omega⟩
  obtain ⟨r,r0,r13,rb,hd⟩:=h1.dec;have hdr:(p++(c++cs.flatten)).drop p.length=c++cs.flatten:=List.drop_left ..;have h13:=vY h1;have hlast:(p++c).getLast? ≠some 13:=by
   rw [List.getLast?_append];intro e;cases hc:c.getLast? with
   |none=>exact h1.ne (List.getLast?_eq_none_iff.1 hc)
   |some y=>
    rw [hc]at e;obtain rfl:y=13:=(by simpa using e);exact h13 (List.mem_of_getLast? hc)
  have ih:=ku cs (p++c) g h2 hlast (by omega);rw [List.append_assoc,List.length_append]at ih;rw [List.flatten_cons,qz (by simp;omega),hdr,hd];simp only;rw [ih];congr 1;unfold Cm;rw [hdr,hd];simp only;by_cases hr:r=65533
  ·rw [if_pos (Or.inr hr),rb hr]
  ·rw [if_neg (fun e=>e.elim r0 hr),if_neg r13,if_neg ?_]
   ·have he:=Lib.encode_decode (c++cs.flatten) (by simp [h1.ne]) (fun e=>hr (by rw [hd]at e;exact e.1));rw [hd]at he;rw [he,List.take_left]
   ·rintro ⟨_,h3,e⟩;rw [List.getElem?_append_left (by omega),<- List.getLast?_eq_getElem?]at e;exact hp e
theorem uW {s:List UInt8} (h:dl s):aR s=s:=by
 obtain ⟨cs,rfl,h1⟩:=h;have:=ku cs [] cs.flatten.length h1 (by simp) (Nat.le_refl _);exact this
theorem yY:jH iW:=by
 refine ⟨by decide,⟨65533,by decide,by decide,fun _=>rfl,fun t=>?_⟩,Or.inr (by decide)⟩;rw [Lib.decodeL_N];have hn:2<(iW++t).length:=(by simp [iW]);have e0:((iW++t).getD 0 0).toNat=239:=rfl;have e1:((iW++t).getD 1 0).toNat=191:=rfl;have e2:((iW++t).getD 2 0).toNat=189:=rfl;rw [e0,e1,e2];generalize ((iW++t).getD 3 0).toNat=b3;unfold Lib.decodeN;rw [if_neg (by omega),if_neg (by omega),if_pos ⟨by omega,⟨by omega,by omega⟩,by omega,by omega⟩,if_pos ⟨by omega,by omega⟩];rfl
theorem eH (l t:List UInt8) {n k:Nat} (hk:k<n) (hn:n <= l.length):(l.take n++t).getD k 0=l.getD k 0:=by
 rw [List.getD_eq_getElem?_getD,List.getD_eq_getElem?_getD,List.getElem?_append_left (by rw [List.length_take];omega),List.getElem?_take_of_lt hk]
theorem jk {l:List UInt8} {n:Nat} (hn:n <= l.length) (h:∀k,k<n ->128 <= (l.getD k 0).toNat):∀b∈l.take n,128 <= b.toNat:=by
 intro b hb;obtain ⟨k,hk⟩:=List.getElem?_of_mem hb;have hkn:k<n:=by
  have:=(List.getElem?_eq_some_iff.1 hk).1;rw [List.length_take]at this;omega
 have:=h k hkn;rw [List.getElem?_take_of_lt hkn]at hk;rw [List.getD_eq_getElem?_getD,hk]at this;exact this
theorem vZ {l:List UInt8} (hl:l≠[]) {r n:Nat} (hd:Lib.decodeL l=(r,n)) (h0:r≠0) (h13:r≠13) (hb:r≠65533):jH (l.take n):=by
 have hle:=Lib.decodeL_le l hl;have hw:=Lib.decodeL_width l;rw [hd]at hle hw;simp only at hle hw;have hlen:(l.take n).length=n:=(by rw [List.length_take];omega);have hd':=hd;rw [Lib.decodeL_N]at hd';have hne:l.take n≠[]:=fun e=>by rw [e]at hlen;simp at hlen;omega
 rcases Lib.decodeN_shape l.length (l.getD 0 0).toNat (l.getD 1 0).toNat (l.getD 2 0).toNat (l.getD 3 0).toNat with ⟨c,e⟩|⟨c1,c2,c3,cv,e⟩|⟨c1,c2,c3,c4,cv,cs,e⟩|⟨c1,c2,c3,c4,c5,cv,cw,e⟩|e
 ·rw [e]at hd';obtain ⟨rfl,rfl⟩:=Prod.mk.inj hd';cases l with
  |nil=>exact absurd rfl hl
  |cons b t=>
   have hb0:((b::t).getD 0 0)=b:=rfl;rw [hb0]at c h0 h13;exact jX c (fun e=>h0 (by rw [e];rfl)) (fun e=>h13 (by rw [e];rfl))
 ·rw [e]at hd';obtain ⟨rfl,rfl⟩:=Prod.mk.inj hd';refine ⟨hne,⟨_,h0,h13,fun e=>absurd e hb,fun t=>?_⟩,Or.inr (jk hle fun k hk=>?_)⟩
  ·rw [Lib.decodeL_N,eH l t (by omega) hle,eH l t (by omega) hle,hlen];have hn:1<(l.take 2++t).length:=(by rw [List.length_append,hlen];omega);generalize ((l.take 2++t).getD 2 0).toNat=b2;generalize ((l.take 2++t).getD 3 0).toNat=b3;unfold Lib.decodeN;rw [if_neg (by omega),if_pos ⟨c1,hn,c3⟩,if_pos (by omega)]
  ·have:k=0∨k=1:=(by omega);rcases this with rfl|rfl<;>omega
 ·rw [e]at hd';obtain ⟨rfl,rfl⟩:=Prod.mk.inj hd';refine ⟨hne,⟨_,h0,h13,fun e=>absurd e hb,fun t=>?_⟩,Or.inr (jk hle fun k hk=>?_)⟩
  ·rw [Lib.decodeL_N,eH l t (by omega) hle,eH l t (by omega) hle,eH l t (by omega) hle,hlen];have hn:2<(l.take 3++t).length:=(by rw [List.length_append,hlen];omega);generalize ((l.take 3++t).getD 3 0).toNat=b3;unfold Lib.decodeN;rw [if_neg (by omega),if_neg (by omega),if_pos ⟨c1,⟨by omega,c3⟩,hn,c4⟩,if_pos ⟨by omega,by omega⟩]
  ·have:k=0∨k=1∨k=2:=(by omega);rcases this with rfl|rfl|rfl<;>omega
 ·rw [e]at hd';obtain ⟨rfl,rfl⟩:=Prod.mk.inj hd';refine ⟨hne,⟨_,h0,h13,fun e=>absurd e hb,fun t=>?_⟩,Or.inr (jk hle fun k hk=>?_)⟩
  ·rw [Lib.decodeL_N,eH l t (by omega) hle,eH l t (by omega) hle,eH l t (by omega) hle,eH l t (by omega) hle,hlen];have hn:3<(l.take 4++t).length:=(by rw [List.length_append,hlen];omega);unfold Lib.decodeN;rw [if_neg (by omega),if_neg (by omega),if_neg (by omega),if_pos ⟨c1,⟨by omega,c3⟩,⟨by omega,c4⟩,hn,c5⟩,if_pos ⟨by omega,by omega⟩]
  ·have:k=0∨k=1∨k=2∨k=3:=(by omega);rcases this with rfl|rfl|rfl|rfl<;>omega
 ·rw [e]at hd';exact absurd (Prod.mk.inj hd').1.symm hb
theorem p9 {c:List UInt8} (h:jH c):dl c:=⟨[c],by simp,fun x hx=>by rw [List.mem_singleton.1 hx];exact h⟩
theorem lG:∀(f:Nat) (s:List UInt8) (i:Nat),dl (bQ f s i)
 |0,s,i=>by rw [bQ];exact dl.nil
 |f+1,s,i=>by
  by_cases hi:s.length <= i
  ·rw [bQ,if_pos hi];exact dl.nil
  ·rw [qz (by omega)];refine dl.app ?_ (lG f s _);have hne:s.drop i≠[]:=fun e=>by rw [List.drop_eq_nil_iff]at e;omega
   unfold Cm;split
   ·exact p9 yY
   ·rename_i h1;split
    ·exact p9 (jX (by decide) (by decide) (by decide))
    ·rename_i h2;split
     ·exact dl.nil
     ·rw [Lib.encode_decode _ hne (fun e=>h1 (Or.inr e.1))];exact p9 (vZ hne rfl (fun e=>h1 (Or.inl e)) h2 (fun e=>h1 (Or.inr e)))
theorem kv (s:List UInt8):dl (aR s):=lG _ _ _
def eq (s:List UInt8):Prop:=dl s∧(10:UInt8)∉s
theorem eq.app {a b:List UInt8} (ha:eq a) (hb:eq b):eq (a++b):=⟨ha.1.app hb.1,fun e=>by
 rcases List.mem_append.1 e with e|e
 ·exact ha.2 e
 ·exact hb.2 e⟩
theorem dk {s:List UInt8} (h:∀b∈s,EZ b=true∧b≠10):eq s:=⟨lZ fun b hb=>(h b hb).1,fun e=>(h _ e).2 rfl⟩
theorem ug {c:UInt8} (hc:EZ c=true∧c≠10) (n:Nat):eq (List.replicate n c):=dk fun b hb=>by rw [List.eq_of_mem_replicate hb];exact hc
theorem eq.parts {s a b:List UInt8} {c:UInt8} (hs:eq s) (hc:c.toNat<128) (h:s=a++c::b):eq a∧eq b:=by
 obtain ⟨h1,h2⟩:=hs.1.parts hc h;exact ⟨⟨h1,fun e=>hs.2 (by rw [h];exact List.mem_append_left _ e)⟩,⟨h2,fun e=>hs.2 (by rw [h];exact List.mem_append_right _ (List.mem_cons_of_mem _ e))⟩⟩
theorem Do {l:List UInt8} (h:(10:UInt8)∈l):∃a b,l=a++10::b∧(10:UInt8)∉a:=by
 induction l with
 |nil=>cases h
 |cons c l ih=>
  by_cases hc:c=10
  ·exact ⟨[],l,by rw [hc];rfl,by simp⟩
  ·obtain ⟨a,b,hab,ha⟩:=ih (by rcases List.mem_cons.1 h with e|e;exact absurd e.symm hc;exact e);refine ⟨c::a,b,by rw [hab];rfl,fun e=>?_⟩;rcases List.mem_cons.1 e with e|e
   ·exact hc e.symm
   ·exact ha e
theorem nc:∀{s:List UInt8},(10:UInt8)∉s ->∀y∈aO s,y=s
 |[],_,y,hy=>by simp [aO]at hy
 |c::t,h,y,hy=>by
  have hc:c≠10:=fun e=>h (by rw [e];exact List.mem_cons_self ..);have ht:(10:UInt8)∉t:=fun e=>h (List.mem_cons_of_mem _ e);rw [aO,if_neg hc]at hy;cases hl:aO t with
  |nil=>
   rw [hl]at hy;cases t with
   |nil=>exact List.mem_singleton.1 hy
   |cons d t=>
    exfalso;rw [aO,if_neg (fun e=>ht (by rw [e];exact List.mem_cons_self ..))]at hl;split at hl<;>cases hl
  |cons x xs=>
   rw [hl]at hy;have hall:=fun z hz=>nc ht z (by rw [hl];exact hz);have hxs:xs=[]:=by
    cases xs with
    |nil=>rfl
    |cons w ws=>
     exfalso;have h2:=kX cF t;rw [hl,aB,aB,di,di,di,hall x (List.mem_cons_self ..),hall w (List.mem_cons_of_mem _ (List.mem_cons_self ..))]at h2;have h3:t=[]:=List.eq_nil_of_length_eq_zero (by simp only [cF]at h2;omega);rw [h3]at hl;cases hl
   rw [hxs]at hy;rw [List.mem_singleton.1 hy,hall x (List.mem_cons_self ..)]
theorem mg:∀(n:Nat) (s:List UInt8),s.length <= n ->dl s ->∀y∈aO s,eq y
 |0,s,hn,_,y,hy=>by
  rw [List.eq_nil_of_length_eq_zero (show s.length=0 by omega)]at hy;simp [aO]at hy
 |n+1,s,hn,hf,y,hy=>by
  by_cases h10:(10:UInt8)∈s
  ·obtain ⟨a,b,hab,ha⟩:=Do h10;obtain ⟨f1,f2⟩:=hf.parts (by decide) hab;rw [hab,rW a ha]at hy;rcases List.mem_cons.1 hy with rfl|hy
   ·exact ⟨f1,ha⟩
   ·exact mg n b (by rw [hab]at hn;simp at hn;omega) f2 y hy
  ·rw [nc h10 y hy];exact ⟨hf,h10⟩
theorem rE {em:ai ->ai} (h:nI em):∀(f:Nat) (s:List UInt8),s.length<f ->aC em f s=s∨∃g lab txt txt' y,s=g++(aw ⟨true,lab,txt⟩++y)∧aC em f s=g++(aw ⟨true,lab,txt'⟩++cf em y)∧(txt'=txt∨txt'=[])
 |0,s,hf=>by omega
 |f+1,[],_=>Or.inl rfl
 |f+1,c::t,hf=>by
  rw [aC];by_cases h0:(al (c::t)).2=0
  ·rw [if_pos h0];rcases rE h f t (by simp at hf;omega)with e|⟨g,lab,txt,txt',y,e1,e2,e3⟩
   ·exact Or.inl (by rw [e])
   ·exact Or.inr ⟨c::g,lab,txt,txt',y,by rw [e1];rfl,by rw [e2];rfl,e3⟩
  ·rw [if_neg h0];obtain ⟨lab,txt,y,hs,hl,hc,hst⟩:=fO h0;have hy:(c::t).drop (al (c::t)).2=y:=by
    rw [hs,hst];simp only;rw [show lab.length+txt.length+5=(aw ⟨true,lab,txt⟩).length by simp [aw];omega,List.drop_left]
   have hfu:aC em f y=cf em y:=by
    have h5:=gp (c::t) h0;have hyl:y.length<f:=by
     rw [<- hy,List.length_drop];simp at hf h5⊢;omega
    exact fI f (y.length+1) y hyl (by omega)
   rw [hy,hfu,hs];rcases h.span ⟨true,lab,txt⟩ rfl with e|e
   ·exact Or.inr ⟨[],lab,txt,txt,y,hst,by simp only [e];rfl,Or.inl rfl⟩
   ·exact Or.inr ⟨[],lab,txt,[],y,hst,by simp only [e];rfl,Or.inr rfl⟩
theorem lX {em:ai ->ai} (h:nI em):∀(n:Nat) (s:List UInt8),s.length <= n ->eq s ->eq (cf em s)
 |0,s,hn,hs=>by
  rw [List.eq_nil_of_length_eq_zero (show s.length=0 by omega)]at hs⊢;exact hs
 |n+1,s,hn,hs=>by
  rcases rE h (s.length+1) s (by omega)with e|⟨g,lab,txt,txt',y,e1,e2,e3⟩
  ·unfold cf;rw [e];exact hs
  ·have e4:s=g++123::(124::(lab++58::(txt++124::125::y))):=(by rw [e1];simp [aw]);obtain ⟨g1,g2⟩:=hs.parts (by decide) e4;obtain ⟨_,g3⟩:=g2.parts (a:=[]) (by decide) rfl;obtain ⟨g4,g5⟩:=g3.parts (a:=lab) (by decide) rfl;obtain ⟨g6,g7⟩:=g5.parts (a:=txt) (by decide) rfl;obtain ⟨_,g8⟩:=g7.parts (a:=[]) (by decide) rfl;have g9:=lX h n y (by rw [e4]at hn;simp at hn;omega) g8;have gt:eq txt':=by
    rcases e3 with rfl|rfl
    ·exact g6
    ·exact dk fun b hb=>by cases hb
   have hs2:cf em s=g++([123,124]++(lab++([58]++(txt'++([124,125]++cf em y))))):=by
    unfold cf at e2⊢;rw [e2];simp [aw]
   rw [hs2];exact g1.app ((dk (by decide)).app (g4.app ((dk (by decide)).app (gt.app ((dk (by decide)).app g9)))))
theorem xA {s a lab:List UInt8} {k:Nat} (hs:eq s) (h:s=a++d9 lab k):eq lab:=by
 obtain ⟨_,g2⟩:=hs.parts (a:=a) (c:=123) (by decide) h;obtain ⟨_,g3⟩:=g2.parts (a:=[]) (by decide) rfl;exact (g3.parts (a:=lab) (by decide) rfl).1
theorem Aw (z:aS) (u:List (List UInt8)) {s:List UInt8} (hs:eq s):eq (au z u s):=by
 unfold au;split
 ·rename_i hh;obtain ⟨a,lab,k,h1,hl,ha,e⟩:=eY hh;split
  ·rw [h1];simp only;obtain ⟨i,j,r,hi,hj1,hj6,rfl⟩:=ha;have hlab:=xA hs e;rw [iO i j r hj1];have ht:(List.replicate i (32:UInt8)++(List.replicate j (35:UInt8)++(32:UInt8)::r)).take (i+j)=List.replicate i 32++List.replicate j 35:=by
    rw [<- List.append_assoc,show i+j=(List.replicate i (32:UInt8)++List.replicate j (35:UInt8)).length by simp,List.take_left]
   rw [ht,show (32:UInt8)::d9 lab 0=[32,123,61]++(lab++[125]) by simp [d9]];exact ((ug (by decide) i).app (ug (by decide) j)).app ((dk (by decide)).app (hlab.app (dk (by decide))))
  ·rw [c6 (eO z _)];exact lX (eO z _) _ s (Nat.le_refl _) hs
 ·rw [c6 (eO z _)];exact lX (eO z _) _ s (Nat.le_refl _) hs
theorem oQ {s:List UInt8} (h:(bf s).2=true):∃k,s=58::58::58::123::((bf s).1++125::List.replicate k 32):=by
 obtain ⟨k,hk⟩:=fk s;refine ⟨k,?_⟩;unfold bf at h⊢
 dsimp only at h⊢
 split at h
 ·cases h
 ·rename_i hp;rw [if_neg hp];split at h
  ·rename_i hg;rw [if_pos hg];have hpt:Lib.hasPrefix (bW s) [58,58,58,123]=true:=(by simpa using hp);have ht:bW s=[58,58,58,123]++Lib.trimPrefix (bW s) [58,58,58,123]:=by
    unfold Lib.trimPrefix;rw [if_pos hpt];unfold Lib.hasPrefix at hpt;obtain ⟨u,hu⟩:=List.isPrefixOf_iff_prefix.1 hpt;rw [<- hu];rfl
   obtain ⟨R,hR⟩:∃R,Lib.trimPrefix (bW s) [58,58,58,123]=R:=⟨_,rfl⟩
   rw [hR]at hg ht⊢;have hne:R≠[]:=fun e=>by rw [e]at hg;cases hg
   have hlast:=List.dropLast_concat_getLast hne;rw [List.getLast?_eq_some_getLast hne]at hg;rw [Option.some.inj hg]at hlast;have e5:s=[58,58,58,123]++(R.dropLast++[125])++List.replicate k 32:=(by rw [hlast,<- ht];exact hk);rw [show (58:UInt8)::58::58::123::(R.dropLast++125::List.replicate k 32)=[58,58,58,123]++(R.dropLast++[125])++List.replicate k 32 by simp];exact e5
  ·cases h
def ro (p:af):Prop:=eq p.label∧∀s∈p.lines,eq s
theorem Bt:eq []:=dk fun b hb=>by cases hb
theorem qa {l:List (List UInt8)} (h:∀s∈l,eq s):∀p∈bF l,ro p:=by
 refine rI l (fun s hs d ho=>⟨?_,fun x hx=>by cases hx⟩) (fun s hs d=>⟨Bt,fun x hx=>by rw [List.mem_singleton.1 hx];exact h s hs⟩) (fun p hp=>hp) (fun s hs p hp=>⟨hp.1,fun x hx=>?_⟩)
 ·obtain ⟨k,hk⟩:=oQ ho;obtain ⟨_,g⟩:=(h s hs).parts (a:=[58,58,58]) (c:=123) (by decide) hk;exact (g.parts (a:=(bf s).1) (by decide) rfl).1
 ·rcases List.mem_append.1 hx with hx|hx
  ·exact hp.2 x hx
  ·rw [List.mem_singleton.1 hx];exact h s hs
theorem gL (z:aS):∀(l:List af) (u:List (List UInt8)) (o:Option Nat),(∀p∈l,ro p) ->∀p∈(l.foldl (ar z) ([],u,o)).1,ro p
 |[],u,o,_,p,hp=>by cases hp
 |q::l,u,o,h,p,hp=>by
  have hq:=h q (List.mem_cons_self ..);have hl:=fun x hx=>h x (List.mem_cons_of_mem _ hx);have hm:∀v,ro {q with lines:=q.lines.map (au z v)}:=fun v=>⟨hq.1,fun s hs=>by
   obtain ⟨t,ht,rfl⟩:=List.mem_map.1 hs;exact Aw z v (hq.2 t ht)⟩
  rw [List.foldl_cons]at hp;by_cases hh:(o.any fun h=>decide (h<q.depth))=true
  ·have e1:ar z ([],u,o) q=([],u,o):=(by unfold ar;rw [if_pos hh]);rw [e1]at hp;exact gL z l u o hl p hp
  ·by_cases hd:q.div=false
   ·have e1:ar z ([],u,o) q=([{q with lines:=q.lines.map (au z (u.take q.depth))}],u.take q.depth,none):=by
     unfold ar;rw [if_neg hh,if_pos hd];rfl
    rw [e1,eE]at hp;rcases List.mem_append.1 hp with hp|hp
    ·rw [List.mem_singleton.1 hp];exact hm _
    ·exact gL z l _ _ hl p hp
   ·have e1:ar z ([],u,o) q=([{q with lines:=q.lines.map (au z (u.take q.depth++[q.label]))}],u.take q.depth++[q.label],if z.sees (u.take q.depth++[q.label])=false then some q.depth else none):=by
     unfold ar;rw [if_neg hh,if_neg hd];rfl
    rw [e1,eE]at hp;rcases List.mem_append.1 hp with hp|hp
    ·rw [List.mem_singleton.1 hp];exact hm _
    ·exact gL z l _ _ hl p hp
theorem qT:∀(ps:List af) (stk:List Bool),(∀p∈ps,ro p) ->∀x∈cX stk ps,eq x
 |[],stk,_,x,hx=>by
  rw [cX]at hx;unfold c7 at hx;rw [List.eq_of_mem_replicate hx];exact dk (by decide)
 |p::ps,stk,h,x,hx=>by
  rw [cX]at hx;have hp:=h p (List.mem_cons_self ..);rcases List.mem_append.1 hx with hx|hx
  ·unfold c7 at hx;rw [List.eq_of_mem_replicate hx];exact dk (by decide)
  ·rcases List.mem_append.1 hx with hx|hx
   ·unfold kq at hx;split at hx
    ·rw [List.mem_singleton.1 hx];unfold iF;rw [show (58:UInt8)::58::58::123::(p.label++[125])=[58,58,58,123]++(p.label++[125]) by simp];exact (dk (by decide)).app (hp.1.app (dk (by decide)))
    ·exact hp.2 x hx
   ·exact qT ps _ (fun q hq=>h q (List.mem_cons_of_mem _ hq)) x hx
theorem CS:∀(ps:List af) (q:List Bool×Bool),lN q.1 q.2 ps ->∀p∈ps,p.div=true ->p.lines=[]
 |[],q,_,p,hp,_=>by cases hp
 |r::ps,q,h,p,hp,hd=>by
  obtain ⟨hok,hw⟩:=ed.1 h;rcases List.mem_cons.1 hp with rfl|hp
  ·have:=hok.2.2;rw [if_pos hd]at this;exact this.2.1
  ·exact CS ps _ hw p hp hd
theorem rT:∀{l:List (List UInt8)},(∀x∈l,eq x) ->dl (cY l)
 |[],_=>dl.nil
 |x::l,h=>by
  rw [show cY (x::l)=x++([10]++cY l) by unfold cY;simp];exact (h x (List.mem_cons_self ..)).1.app ((lZ (by decide)).app (rT fun y hy=>h y (List.mem_cons_of_mem _ hy)))
def lL (z:aS) (doc:List UInt8):List UInt8:=cY (cX [] (bE z (bF (aO (aR doc)))))
theorem Az (z:aS) (doc:List UInt8):fG z (lL z doc)=fG z doc:=by
 obtain ⟨w1,w2⟩:=qO z (aO (aR doc));have hg:=qT (bE z (bF (aO (aR doc)))) [] (gL z _ [] none (qa (mg _ _ (Nat.le_refl _) (kv doc))));have hl:aO (aR (lL z doc))=cX [] (bE z (bF (aO (aR doc)))):=by
  unfold lL;rw [uW (rT hg)];exact qo _ fun x hx=>(hg x hx).2
 unfold fG;rw [hl,w2];unfold bE;rw [gF z _ am.none [] none (CS _ ([],false) (ue _))]
theorem lH:∀(f:Nat) (s:List UInt8) (i:Nat),(bQ f s i).length <= 3*(s.length - i)
 |0,s,i=>Nat.zero_le _
 |f+1,s,i=>by
  by_cases hi:s.length <= i
  ·rw [bQ,if_pos hi];exact Nat.zero_le _
  ·have hne:s.drop i≠[]:=fun e=>by rw [List.drop_eq_nil_iff]at e;omega
   have h1:=lH f s (i+(Lib.decodeL (s.drop i)).2);have h2:=Lib.decodeL_width (s.drop i);have h3:=Lib.decodeL_le (s.drop i) hne;rw [List.length_drop]at h3;rw [qz (by omega),List.length_append];have h4:(Cm s i).length <= 3*(Lib.decodeL (s.drop i)).2:=by
    unfold Cm;split
    ·rw [show iW.length=3 from rfl];omega
    ·rename_i hb;split
     ·simp;omega
     ·split
      ·exact Nat.zero_le _
      ·rw [Lib.encode_decode _ hne (fun e=>hb (Or.inr e.1)),List.length_take];omega
   omega
theorem uX (s:List UInt8):(aR s).length <= 3*s.length:=by
 have:=lH s.length s 0;unfold aR;omega
def fX (p:af):Nat:=if p.div=true then (iF p.label).length+1+(if p.opn=true then 0 else 4)else el cF p.lines
theorem oq:∀(ps:List af) (stk:List Bool),el cF (cX stk ps)=4*(stk.filter (! ·)).length+ec fX ps
 |[],stk=>by
  have:∀n,el cF (List.replicate n ja)=4*n:=fun n=>by
   induction n with
   |zero=>rfl
   |succ n ih=>rw [List.replicate_succ,aB,ih,di];simp [ja,cF];omega
  rw [cX,c7,this];simp [ec]
 |p::ps,stk=>by
  have h1:∀n,el cF (List.replicate n ja)=4*n:=fun n=>by
   induction n with
   |zero=>rfl
   |succ n ih=>rw [List.replicate_succ,aB,ih,di];simp [ja,cF];omega
  have h2:(stk.filter (! ·)).length=((stk.take p.depth).filter (! ·)).length+((stk.drop p.depth).filter (! ·)).length:=by
   rw [<- List.length_append,<- List.filter_append,List.take_append_drop]
  rw [cX,nD,nD,oq ps,c7,h1,h2,cW,List.filter_append,List.length_append];unfold fX kq;by_cases hd:p.div=true
  ·rw [if_pos hd,if_pos hd,if_pos hd,aB,fP,di];cases hp:p.opn<;>simp [cF]<;>omega
  ·rw [if_neg hd,if_neg hd,if_neg hd];simp;omega
theorem yw (u:af ->af) (n:Nat):∀(l:List af) (k:Nat),(∀p,fX (u p) <= fX p+n) ->ec fX (l.modify k u) <= ec fX l+n:=fun l k h=>nB fX u n h l k
theorem Ev (p:af):fX {p with opn:=false} <= fX p+4:=by
 unfold fX;simp only;by_cases hd:p.div=true
 ·rw [if_pos hd,if_pos hd,if_neg (by simp)];split<;>omega
 ·rw [if_neg hd,if_neg hd];omega
theorem Ag {s:List UInt8} (h:cq s=true):3 <= s.length:=by
 obtain ⟨k,hk⟩:=fk s;unfold cq at h;rw [eq_of_beq h]at hk;rw [hk];simp
theorem DT (st:eM) (s:List UInt8):ec fX (ag st s).out <= ec fX st.out+(s.length+1):=by
 unfold ag;split
 ·rename_i ho;obtain ⟨k,hk⟩:=oQ ho;have hl:=congrArg List.length hk;simp only;rw [nA,cW];unfold fX;simp [iF,ec]at hl⊢;omega
 ·split
  ·rename_i hs;have:=Ag hs.1;have:=yw (fun p=>{p with opn:=false}) 4 st.out (st.inn.getLast?.getD 0) Ev;simp only;omega
  ·split
   ·refine yw (fun p=>{p with lines:=p.lines++[s]}) (s.length+1) _ _ (fun p=>?_);unfold fX;simp only;split
    ·omega
    ·rw [nD,aB,fP,di];simp [cF]
   ·simp only;rw [nA,cW];unfold fX;simp [aB,fP,di,cF,ec]
theorem ye:∀(l:List (List UInt8)) (st:eM),ec fX (l.foldl ag st).out <= ec fX st.out+el cF l
 |[],st=>by simp [el]
 |s::l,st=>by
  have h1:=ye l (ag st s);have h2:=DT st s;rw [List.foldl_cons,aB,di];simp only [cF];omega
theorem iG {em:ai ->ai} (h:nI em):∀(f:Nat) (s:List UInt8),(aC em f s).length <= s.length
 |0,s=>Nat.zero_le _
 |f+1,[]=>Nat.le_refl _
 |f+1,c::t=>by
  rw [aC];split
  ·have:=iG h f t;simp;omega
  ·rename_i h0;obtain ⟨lab,txt,y,hs,hl,hc,hst⟩:=fO h0;have h1:=iG h f ((c::t).drop (al (c::t)).2);have h5:=gp (c::t) h0;rw [List.length_drop]at h1;have h2:(aw (em (al (c::t)).1)).length <= (al (c::t)).2:=by
    rw [hs];rcases h.span ⟨true,lab,txt⟩ rfl with e|e
    ·rw [e];simp [aw]<;>omega
    ·rw [e];simp [aw]<;>omega
   rw [List.length_append];omega
theorem rn (z:aS) (u:List (List UInt8)) (s:List UInt8):(au z u s).length <= s.length:=by
 unfold au;split
 ·rename_i hh;obtain ⟨a,lab,k,h1,hl,ha,e⟩:=eY hh;split
  ·rw [h1];simp only;obtain ⟨i,j,r,hi,hj1,hj6,rfl⟩:=ha;rw [iO i j r hj1,e];simp [d9];omega
  ·rw [c6 (eO z _)];exact iG (eO z _) _ s
 ·rw [c6 (eO z _)];exact iG (eO z _) _ s
theorem yi (z:aS) (u:List (List UInt8)):∀l:List (List UInt8),el cF (l.map (au z u)) <= el cF l
 |[]=>Nat.le_refl _
 |s::l=>by
  have h1:=yi z u l;have h2:=rn z u s;rw [List.map_cons,aB,aB,di,di];omega
theorem pE (z:aS):∀(l:List af) (u:List (List UInt8)) (o:Option Nat),ec fX (l.foldl (ar z) ([],u,o)).1 <= ec fX l
 |[],u,o=>Nat.le_refl _
 |p::l,u,o=>by
  have hm:∀v,fX {p with lines:=p.lines.map (au z v)} <= fX p:=fun v=>by
   unfold fX;simp only;split
   ·omega
   ·exact yi z v p.lines
  rw [List.foldl_cons,cW];by_cases hh:(o.any fun h=>decide (h<p.depth))=true
  ·have e1:ar z ([],u,o) p=([],u,o):=(by unfold ar;rw [if_pos hh]);rw [e1];have:=pE z l u o;omega
  ·by_cases hd:p.div=false
   ·have e1:ar z ([],u,o) p=([{p with lines:=p.lines.map (au z (u.take p.depth))}],u.take p.depth,none):=by
     unfold ar;rw [if_neg hh,if_pos hd];rfl
    have h1:=pE z l (u.take p.depth) none;have h2:=hm (u.take p.depth);rw [e1,eE,List.singleton_append,cW];omega
   ·have e1:ar z ([],u,o) p=([{p with lines:=p.lines.map (au z (u.take p.depth++[p.label]))}],u.take p.depth++[p.label],if z.sees (u.take p.depth++[p.label])=false then some p.depth else none):=by
     unfold ar;rw [if_neg hh,if_neg hd];rfl
    have h1:=pE z l (u.take p.depth++[p.label]) (if z.sees (u.take p.depth++[p.label])=false then some p.depth else none);have h2:=hm (u.take p.depth++[p.label]);rw [e1,eE,List.singleton_append,cW];omega
theorem vC (z:aS) (doc:List UInt8):(lL z doc).length <= 3*doc.length+1:=by
 have h1:=uX doc;have h2:=kX cF (aR doc);have h3:=ye (aO (aR doc)) ⟨[],[],false⟩;have h4:=pE z (bF (aO (aR doc))) [] none;have h5:=oq (bE z (bF (aO (aR doc)))) [];have h6:=mZ cF (cX [] (bE z (bF (aO (aR doc)))));rw [di]at h2 h6;unfold lL bE bF at*;simp only [cF,List.filter_nil,List.length_nil,Nat.mul_zero,Nat.zero_add]at h2 h5;have h7:ec fX []=0:=rfl;simp only [h7]at h3;omega
theorem take_cons {α:Type} {l:List α} {i:Nat} {x:α} (h:l[i]? =some x):l=l.take i++x::l.drop (i+1):=by
 obtain ⟨hi,rfl⟩:=List.getElem?_eq_some_iff.1 h;rw [<- List.drop_eq_getElem_cons hi,List.take_append_drop]
def lJ (ps:List af) (i:Nat):List Bool×Bool:=(ps.take i).foldl aA ([],false)
theorem vD {ps:List af} {i:Nat} {x:af} (h:lN [] false ps) (hx:ps[i]? =some x):sM (lJ ps i) x∧lJ ps (i+1)=aA (lJ ps i) x:=by
 have e:=take_cons hx;rw [e]at h;have h2:=((mr _ _ ([],false)).1 h).2;refine ⟨(ed.1 h2).1,?_⟩;unfold lJ;rw [List.take_succ_eq_append_getElem (List.getElem?_eq_some_iff.1 hx).1,List.foldl_append,List.foldl_cons,List.foldl_nil,(List.getElem?_eq_some_iff.1 hx).2]
theorem zR {q:List Bool×Bool} {x:af} (h:sM q x) (ho:es q.1):es (aA q x).1:=by
 obtain ⟨_,_,h3⟩:=h;unfold aA;split
 ·rename_i hd;rw [if_pos hd]at h3;exact (ho.take _).snoc h3.2.2
 ·exact ho.take _
theorem sc:∀(ps:List af) (q:List Bool×Bool),lN q.1 q.2 ps ->es q.1 ->es (ps.foldl aA q).1
 |[],q,_,ho=>ho
 |p::ps,q,h,ho=>by
  obtain ⟨h1,h2⟩:=ed.1 h;exact sc ps _ h2 (zR h1 ho)
theorem DF {ps:List af} (h:lN [] false ps) (i:Nat):es (lJ ps i).1:=by
 rw [<- List.take_append_drop i ps]at h;exact sc _ ([],false) ((mr _ _ ([],false)).1 h).1 ⟨0,0,rfl⟩
def opens (stk:List Bool):Nat:=(stk.filter id).length
theorem fJ (a b:Nat):opens (List.replicate a true++List.replicate b false)=a:=by
 unfold opens;rw [List.filter_append];simp
theorem uM {q:List Bool×Bool} {x:af} (h:sM q x) (ho:es q.1):opens q.1 <= x.depth:=by
 obtain ⟨a,b,e⟩:=ho;rw [e,fJ];apply Classical.byContradiction;intro hlt;have h2:=h.2.1;rw [e,List.drop_append_of_le_length (by simp;omega),List.drop_replicate]at h2;obtain ⟨c,hc⟩:∃c,a - x.depth=c+1:=⟨a - x.depth - 1,by omega⟩
 rw [hc]at h2;have:=h2 true (by simp);cases this
theorem wZ {q:List Bool×Bool} {x:af} (h:sM q x) (ho:es q.1):opens (aA q x).1=if x.div=true∧x.opn=true then x.depth+1 else opens q.1:=by
 have hle:=uM h ho;obtain ⟨a,b,e⟩:=ho;rw [e,fJ]at hle;obtain ⟨h1,_,h3⟩:=h;have ht:(q.1.take x.depth)=List.replicate a true++List.replicate (x.depth - a) false:=by
  rw [e,List.take_append,List.take_replicate,List.take_replicate,List.length_replicate,Nat.min_eq_right hle];rw [e]at h1;simp at h1;rw [Nat.min_eq_left (by omega)]
 unfold aA;by_cases hd:x.div=true
 ·rw [if_pos hd]at h3⊢;simp only [ht];cases hop:x.opn with
  |true=>
   have h4:=h3.2.2 hop;rw [ht]at h4;have hz:x.depth - a=0:=by
    cases hz:x.depth - a with
    |zero=>rfl
    |succ n=>rw [hz]at h4;have:=h4 false (by simp);cases this
   rw [if_pos ⟨hd,rfl⟩,hz];have:=fJ (a+1) 0;rw [List.replicate_succ']at this;simp only [List.replicate_zero,List.append_nil]at this⊢;rw [this];omega
  |false=>
   rw [if_neg (by simp),e,fJ];have:=fJ a (x.depth - a+1);rw [List.replicate_succ',<- List.append_assoc]at this;exact this
 ·rw [if_neg hd,if_neg (fun e=>hd e.1)];simp only [ht];rw [e,fJ,fJ]
theorem pW {q:List Bool×Bool} {x:af} (h:sM q x):(aA q x).1.length=x.depth+(if x.div=true then 1 else 0):=by
 have:=h.1;unfold aA;split<;>simp<;>omega
theorem xw {ps:List af} {i:Nat} {x y:af} (h:lN [] false ps) (hx:ps[i]? =some x) (hy:ps[i+1]? =some y) (dx:x.div=false) (dy:y.div=false):x.depth≠y.depth:=by
 obtain ⟨h1,h2⟩:=vD h hx;obtain ⟨h3,_⟩:=vD h hy;have h4:=pW h1;rw [if_neg (by rw [dx];simp),Nat.add_zero]at h4;have h5:=h3.2.2;rw [if_neg (by rw [dy];simp),h2,h4]at h5;intro e;refine h5.2.2.2.2 ⟨?_,e.symm⟩;rw [pB dx]
end Go.Proofs.YtcannffahjbjnaaGreatDoor
