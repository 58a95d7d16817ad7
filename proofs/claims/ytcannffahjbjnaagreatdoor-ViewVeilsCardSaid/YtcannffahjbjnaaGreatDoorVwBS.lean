import Derived.Test.YtcannffahjbjnaaGreatDoorVwBR
set_option linter.unusedVariables false
set_option linter.unusedSimpArgs false
set_option maxRecDepth 100000
set_option maxHeartbeats 64000000
namespace Go.Proofs.YtcannffahjbjnaaGreatDoor
open Go.RowKit
def EL (k:Nat):Bool:=k==3||k==4||k==5||k==12
def tj (w x:mz):Prop:=x.depth <= w.depth+1∧(w.depth<x.depth ->EL w.kind=true)
def eT:List mz ->Prop
 |[]=>True
 |[_]=>True
 |w::x::l=>tj w x∧eT (x::l)
def wM (x:mz):Prop:=1 <= x.kind∧x.kind <= 12
theorem i6 (w:mz) (l:List mz):eT (w::l)↔(∀x,l.head? =some x ->tj w x)∧eT l:=by
 cases l with
 |nil=>simp [eT]
 |cons x l=>simp [eT]
theorem jV:∀(a b:List mz),eT (a++b)↔eT a∧eT b∧∀w x,a.getLast? =some w ->b.head? =some x ->tj w x
 |[],b=>by simp [eT]
 |w::a,b=>by
  rw [List.cons_append,i6,i6,jV a b];cases a with
  |nil=>
   simp only [List.nil_append,List.head?_nil,List.getLast?_nil,List.getLast?_singleton,Option.some.injEq];constructor
   ·rintro ⟨h1,h2,h3,h4⟩;exact ⟨⟨fun x h=>by simp at h,h2⟩,h3,fun w' x hw hx=>by subst hw;exact h1 x hx⟩
   ·rintro ⟨⟨h1,h2⟩,h3,h4⟩;exact ⟨fun x hx=>h4 w x rfl hx,h2,h3,fun w' x hw=>by simp at hw⟩
  |cons y a=>
   simp only [List.cons_append,List.head?_cons,Option.some.injEq,List.getLast?_cons_cons];constructor
   ·rintro ⟨h1,h2,h3,h4⟩;exact ⟨⟨h1,h2⟩,h3,h4⟩
   ·rintro ⟨⟨h1,h2⟩,h3,h4⟩;exact ⟨h1,h2,h3,h4⟩
structure ly (l:List mz):Prop where
 head:∀x,l.head? =some x ->x.depth=0
 chain:eT l
 kinds:∀x∈l,wM x
theorem ly.nil:ly []:=⟨fun x h=>by simp at h,trivial,fun x h=>by simp at h⟩
theorem ly.one {x:mz} (hd:x.depth=0) (hk:wM x):ly [x]:=⟨fun y h=>by simp at h;rw [<- h];exact hd,trivial,fun y h=>by simp at h;rw [h];exact hk⟩
theorem ly.append {a b:List mz} (ha:ly a) (hb:ly b):ly (a++b):=by
 refine ⟨?_,(jV a b).2 ⟨ha.chain,hb.chain,fun w x _ hx=>?_⟩,fun x hx=>?_⟩
 ·intro x hx;cases a with
  |nil=>exact hb.head x hx
  |cons y a=>exact ha.head x hx
 ·have:=hb.head x hx;exact ⟨by omega,fun h=>by omega⟩
 ·rcases List.mem_append.1 hx with h|h
  ·exact ha.kinds x h
  ·exact hb.kinds x h
theorem jW:∀(l:List mz),eT l ->eT (pt l)
 |[],_=>trivial
 |[x],_=>trivial
 |w::x::l,h=>by
  obtain ⟨h1,h2⟩:=h;exact ⟨⟨Nat.succ_le_succ h1.1,fun hd=>h1.2 (Nat.lt_of_succ_lt_succ hd)⟩,jW (x::l) h2⟩
theorem ly.within {x:mz} {l:List mz} (hd:x.depth=0) (hc:EL x.kind=true) (hk:wM x) (h:ly l):ly (x::pt l):=by
 refine ⟨fun y hy=>by simp at hy;rw [<- hy];exact hd,(i6 _ _).2 ⟨fun y hy=>?_,jW l h.chain⟩,fun y hy=>?_⟩
 ·cases l with
  |nil=>simp [pt]at hy
  |cons z l=>
   simp [pt]at hy;have:=h.head z rfl;rw [<- hy];exact ⟨by show z.depth+1 <= x.depth+1;omega,fun _=>hc⟩
 ·rcases List.mem_cons.1 hy with rfl|hy
  ·exact hk
  ·obtain ⟨z,hz,rfl⟩:=List.mem_map.1 hy;exact h.kinds z hz
def sK (p:List lC):Prop:=∀x∈p,ly x.it.l
theorem sK.sub {p q:List lC} (h:sK p) (hs:∀x∈q,x∈p):sK q:=fun x hx=>h x (hs x hx)
def dG (l:List gx):Prop:=∀x∈l,ly x.l
theorem uQ {st:AG} {l:List mz} (h:dG st.items) (hl:ly l):dG (st.put l).items:=fun x hx=>by
 rcases List.mem_append.1 hx with hx|hx
 ·exact h x hx
 ·simp at hx;rw [hx];exact hl
theorem dG.take {l:List gx} (h:dG l) (n:Nat):dG (l.take n):=fun x hx=>h x (List.mem_of_mem_take hx)
theorem dG.drop {l:List gx} (h:dG l) (n:Nat):dG (l.drop n):=fun x hx=>h x (List.mem_of_mem_drop hx)
theorem dG.append {a b:List gx} (ha:dG a) (hb:dG b):dG (a++b):=fun x hx=>by
 rcases List.mem_append.1 hx with hx|hx
 ·exact ha x hx
 ·exact hb x hx
def Ez (l:List mz):Nat:=(l.map fun x=>x.text.length+1).sum
def Fb (q:lC):Nat:=if q.it.sign=0 then Ez q.it.l else 2*q.left
def E9 (p:List lC):Nat:=(p.map Fb).sum
structure GB (D:Nat) (p:List lC):Prop where
 len:p.length+yv p <= D
 wt:E9 p <= D
 dep:∀q∈p,∀x∈q.it.l,x.depth+yv p <= D
 num:∀q∈p,q.it.n <= D
def EY (x:gx):Nat:=if x.sign=0 then Ez x.l else 2*x.n
def mX (l:List gx):Nat:=(l.map EY).sum
theorem kg (a b:List gx):mX (a++b)=mX a+mX b:=by unfold mX;simp
theorem us (x:gx):mX [x]=EY x:=by simp [mX]
theorem ur (l:List gx) (k:Nat):mX (l.take k)+mX (l.drop k)=mX l:=by
 rw [<- kg,List.take_append_drop]
def pe (l:List gx):Prop:=∀x∈l,(x.sign=0 ->x.n=0)∧(x.sign≠0 ->x.l=[])
theorem pe.append {a b:List gx} (ha:pe a) (hb:pe b):pe (a++b):=fun x hx=>by
 rcases List.mem_append.1 hx with hx|hx
 ·exact ha x hx
 ·exact hb x hx
theorem pe.take {l:List gx} (h:pe l) (n:Nat):pe (l.take n):=fun x hx=>h x (List.mem_of_mem_take hx)
theorem pe.drop {l:List gx} (h:pe l) (n:Nat):pe (l.drop n):=fun x hx=>h x (List.mem_of_mem_drop hx)
structure jK (W k i:Nat) (st:AG):Prop where
 wt:mX st.items <= k*W
 len:st.items.length <= k
 olen:st.opens.length <= k
 nest:dG st.items
 zero:pe st.items
 srt:st.opens.Pairwise (fun a b=>a.at'<b.at')
 opn:∀o∈st.opens,o.at'<st.items.length∧o.fin <= i
theorem jK.start (W:Nat):jK W 0 0 ⟨[],[]⟩:=⟨by simp [mX],Nat.le_refl _,Nat.le_refl _,fun x hx=>by simp at hx,fun x hx=>by simp at hx,List.Pairwise.nil,fun o ho=>by simp at ho⟩
theorem jK.later {W k i j:Nat} {st:AG} (h:jK W k i st) (hij:i <= j):jK W k j st:={h with opn:=fun o ho=>⟨(h.opn o ho).1,Nat.le_trans (h.opn o ho).2 hij⟩}
theorem jK.more {W k i:Nat} {st:AG} (h:jK W k i st):jK W (k+1) i st:={h with wt:=Nat.le_trans h.wt (Nat.mul_le_mul_right _ (Nat.le_succ _)),len:=Nat.le_succ_of_le h.len,olen:=Nat.le_succ_of_le h.olen}
theorem vG (l:List mz):pe [⟨0,0,false,false,l⟩]:=fun x hx=>by simp at hx;rw [hx];exact ⟨fun _=>rfl,fun h=>absurd rfl h⟩
theorem jK.put {W k i:Nat} {st:AG} (h:jK W k i st) {l:List mz} (hl:ly l) (hw:Ez l <= W):jK W (k+1) i (st.put l):=by
 have e:(st.put l).items=st.items++[⟨0,0,false,false,l⟩]:=rfl;refine ⟨?_,by rw [e];simp;exact h.len,Nat.le_succ_of_le h.olen,uQ h.nest hl,?_,h.srt,fun o ho=>⟨?_,(h.opn o ho).2⟩⟩
 ·rw [e,kg,us,Nat.add_mul];have:=h.wt;have h2:EY ⟨0,0,false,false,l⟩=Ez l:=rfl;omega
 ·rw [e];exact h.zero.append (vG l)
 ·have:=(h.opn o ho).1;rw [e];simp;omega
theorem jK.cut {W k i:Nat} {st:AG} (h:jK W k i st) (a:Nat) (ha:a <= st.items.length) (hop:∀o∈st.opens,o.at'<a) {l:List mz} (hl:ly l) (hw:Ez l <= mX (st.items.drop (a+1))+W):jK W (k+1) i (AG.put {st with items:=st.items.take a} l):=by
 have e:(AG.put {st with items:=st.items.take a} l).items=st.items.take a++[⟨0,0,false,false,l⟩]:=rfl;have hz:(st.items.take a).length=a:=(by simp;omega);refine ⟨?_,by rw [e,List.length_append,hz];have:=h.len;simp;omega,Nat.le_succ_of_le h.olen,?_,?_,h.srt,fun o ho=>⟨?_,(h.opn o ho).2⟩⟩
 ·rw [e,kg,us,Nat.add_mul];have:=h.wt;have h1:=ur st.items a;have h3:mX (st.items.drop (a+1)) <= mX (st.items.drop a):=by
   have:=ur (st.items.drop a) 1;rw [List.drop_drop]at this;omega
  have h2:EY ⟨0,0,false,false,l⟩=Ez l:=rfl;omega
 ·exact uQ (st:={st with items:=st.items.take a}) (h.nest.take a) hl
 ·rw [e];exact (h.zero.take a).append (vG l)
 ·have:=hop o ho;rw [e,List.length_append,hz];simp;omega
theorem jK.opens {W k i:Nat} {st:AG} (h:jK W k i st) {f:E3 ->E3} (hf:∀o,(f o).at'=o.at'∧(f o).fin=o.fin):jK W k i {st with opens:=st.opens.map f}:=by
 refine {h with olen:=by show (st.opens.map f).length <= k;rw [List.length_map];exact h.olen,srt:=?_,opn:=?_}
 ·refine List.Pairwise.map f (fun a b hab=>?_) h.srt;rw [(hf a).1,(hf b).1];exact hab
 ·intro o ho;obtain ⟨x,hx,rfl⟩:=List.mem_map.1 ho;rw [(hf x).1,(hf x).2];exact h.opn x hx
theorem kw (T:Nat) (ts:List fd) (hts:∀a∈ts,a.text.length <= T):∀(f:Nat) (l:List UInt8),(bZ f l ts).length <= l.length*(T+1)
 |0,l=>by simp [bZ]
 |f+1,[]=>by simp [bZ]
 |f+1,c::l=>by
  have h1:=kw T ts hts f l;have e:(c::l).length*(T+1)=l.length*(T+1)+(T+1):=(by rw [List.length_cons,Nat.add_mul];omega);unfold bZ;split
  ·split
   ·rename_i hc _ n m hn;have hm:=(lw (l:=l) (by rw [<- hc];exact hn)).1;have h2:=kw T ts hts f ((c::l).drop m);have h3:((c::l).drop m).length <= l.length:=(by rw [List.length_drop,List.length_cons];omega);have h4:=Nat.mul_le_mul_right (T+1) h3;rw [List.length_append];split
    ·rename_i a ha;have:=hts a (List.mem_of_getElem? ha);omega
    ·simp only [List.length_nil];omega
   ·rw [List.length_cons];omega
  ·rw [List.length_cons];omega
theorem zP (l:List UInt8):(∃n m,kj (0::l)=(.atom n,m)∧0<m∧m <= (0::l).length)∨(∃x m,kj (0::l)=(.word x,m)):=by
 have hb:eU (0::l)=iA (0::l):=(by unfold eU;rfl);unfold kj;rw [hb];cases ha:iA (0::l)with
 |none=>exact Or.inr ⟨_,_,rfl⟩
 |some r=>
  obtain ⟨t,m⟩:=r;have hm:=sT ha;left;unfold iA at ha;split at ha
  ·cases ha
  ·split at ha
   ·injection ha with ha;injection ha with h1 h2;exact ⟨_,m,by rw [<- h1],hm⟩
   ·cases ha
theorem jt (ts:List fd):∀(f g:Nat) (l:List UInt8),l.length<f ->l.length<g ->bZ f l ts=bZ g l ts
 |0,g,l,h,_=>by omega
 |f+1,0,l,_,h=>by omega
 |f+1,g+1,[],_,_=>by simp [bZ]
 |f+1,g+1,c::l,hf,hg=>by
  have h1:=jt ts f g l (by simp at hf;omega) (by simp at hg;omega);unfold bZ;split
  ·split
   ·rename_i hc _ n m hn;have hm:=(lw (l:=l) (by rw [<- hc];exact hn)).1;have h3:((c::l).drop m).length <= l.length:=(by rw [List.length_drop,List.length_cons];omega);rw [jt ts f g ((c::l).drop m) (by simp at hf;omega) (by simp at hg;omega)]
   ·rw [h1]
  ·rw [h1]
theorem uZ (ts:List fd):aG [] ts=[]:=rfl
theorem tn {c:UInt8} {l:List UInt8} {ts:List fd} (hc:c≠0):aG (c::l) ts=c::aG l ts:=by
 unfold aG;rw [bZ,if_neg hc];rfl
theorem tp {l x:List UInt8} {m:Nat} {ts:List fd} (h:kj (0::l)=(.word x,m)):aG (0::l) ts=0::aG l ts:=by
 unfold aG;rw [bZ,if_pos rfl,h];rfl
def iB (ts:List fd) (n:Nat):List UInt8:=match ts[n]? with|some a=>a.text|none=>[]
theorem tm {l:List UInt8} {n m:Nat} {ts:List fd} (h:kj (0::l)=(.atom n,m)):aG (0::l) ts=iB ts n++aG ((0::l).drop m) ts:=by
 have hm:=(lw h).1;unfold aG iB;rw [bZ,if_pos rfl,h];simp only;rw [jt ts (0::l).length (((0::l).drop m).length+1) ((0::l).drop m) (by rw [List.length_drop,List.length_cons];omega) (by omega)];rfl
theorem tA (v:Value) (W:World):(Instr.typeAssert (.iface 211 v) 20 197 true).run Tryz.prog W=.ok (.tuple #[.agg #[.int .i64 0],.bool false]) W:=by kernel_rfl
theorem tz (v:Value) (W:World):(Instr.typeAssert (.iface 197 v) 20 197 true).run Tryz.prog W=.ok (.tuple #[v,.bool true]) W:=by kernel_rfl
theorem bG {α:Type} (l:List α) (k:Nat) (h:k<l.length):∃x,l[k]? =some x:=⟨l[k],by simp [h]⟩
def fe (x:fd):List Value:=[.string ⟨x.label.toArray⟩,.string ⟨x.text.toArray⟩]
theorem tP (x:fd):(fe x).length=2:=rfl
theorem aY.atm {w:World} {g o n:Nat} {l:List fd} (h:aY w 2 (some ⟨g,o,none⟩) n (l.flatMap fe)) (k:Nat) (x:fd) (hk:l[k]? =some x):
  w.cell? ⟨g,o+k*2,none⟩=some (.string ⟨x.label.toArray⟩)∧w.cell? ⟨g,o+k*2+1,none⟩=some (.string ⟨x.text.toArray⟩):=
 ⟨h.cell tP k 0 x _ hk (by omega) rfl,h.cell tP k 1 x _ hk (by omega) rfl⟩
theorem uY (s:ByteArray) (ao:Option Addr) (cap:Nat) (ts:List fd) (w:World) (hE:lx w) (hR:0<ts.length ->aY w 2 ao ts.length (ts.flatMap fe)) (hs:s.size <= 1000000) (hT:∀a∈ts,a.text.length <= 1000000):
  Calls Tryz.prog 103 #[.string s,.slice ao ts.length cap] w fun e w'=>e=.returned (.string ⟨(aG s.data.toList ts).toArray⟩)∧Below w.heap.size w w':=by
 have HR:=zh hR;have HE:=zh hE;have HT:=zh hT;obtain ⟨R,hRR⟩:∃R,aG s.data.toList ts=R:=⟨_,rfl⟩
 have hRl:R.length <= 1000001000000:=by
  have h:=kw 1000000 ts hT (s.data.toList.length+1) s.data.toList;rw [<- hRR];have h2:=Nat.mul_le_mul_right (1000000+1) (show s.data.toList.length <= 1000000 by rw [<- Lib.size_eq];exact hs);unfold aG;omega
 rw [hRR];have HRR:=zh hRR;clear hR hE hT hRR;go_enter Tryz.func103,Tryz.ntmps103
 go_wp2_with fail;go_loopw [6] (fun u6 wr=>∃(i:Nat) (acc:List UInt8),i <= s.size∧u6=.int .i64 i∧Lib.IsBuilderF 112 5 w.heap.size w.heap.size (Lib.byteCells acc) wr∧Below w.heap.size w wr∧acc++aG (s.data.toList.drop i) ts=R) (fun u6 _=>s.size - (intOf u6).toNat)
 case atStart=>exact ⟨0,[],Nat.zero_le _,rfl,Lib.IsBuilderF.of (Lib.fresh_isBuilder 112 5 w),(Below.refl _ _).alloc (Nat.le_refl _) _,by rw [List.drop_zero,List.nil_append];exact HRR.out⟩
 case round=>
  obtain ⟨i,acc,hi,rfl,hI,hB,hacc⟩:=hrel;have hal:acc.length <= 1000001000000:=by
   rw [<- hacc,List.length_append]at hRl;omega
  by_cases hlt:i<s.size
  ·have hg:=Lib.data_getElem? s i hlt;obtain ⟨c,hc⟩:∃c,s[i]=c:=⟨_,rfl⟩
   rw [hc]at hg;have hdr:s.data.toList.drop i=c::s.data.toList.drop (i+1):=by
    obtain ⟨h1,h2⟩:=List.getElem?_eq_some_iff.1 hg;rw [<- h2,List.getElem_cons_drop]
   clear hg;by_cases h0:c=0
   ·have k0:((c.toNat:Int)==0)=true:=(by rw [h0];rfl);have hnt:=B5 s i wr hlt (fun h=>hc.trans h0) hs;have hdl:(s.data.toList.drop i).length=s.size - i:=(by rw [List.length_drop,<- Lib.size_eq]);rw [hdr,h0]at hnt hacc hdl;rcases zP (s.data.toList.drop (i+1))with ⟨n,m,hn,hm0,hml⟩|⟨x,m,hn⟩
    ·rw [hn]at hnt;rw [tm hn,<- h0,<- hdr,List.drop_drop]at hacc;simp only [o9.val]at hnt;have him:i+m <= s.size:=(by omega);have HNT:=zh hnt;have HACC:=zh hacc;have q:=tz;clear hnt hacc hn hdr h0 hdl hml;go_wp2_with fail;refine HNT.out.mono ?_;rintro e w2 ⟨rfl,b2⟩;have hB2:=aa hB b2;have hI2:=aU hI b2;have b3:Below w2.heap.size w2 (w2.alloc (.cells #[.int .i64 n] 197)):=(Below.refl _ _).alloc (Nat.le_refl _) _;have hB3:=aa hB2 b3;have hI3:=aU hI2 b3;clear hI hI2 hB b2 b3 HNT;by_cases hnl:n<ts.length
     ·obtain ⟨a,ha⟩:=bG ts n hnl;obtain ⟨g,o,rfl⟩:=(HR.out (by omega)).addr (by omega);obtain ⟨a0,a1⟩:=((HR.out (by omega)).below hB3).atm n a ha;have hnI:(n:Int)<(ts.length:Int):=(by omega);have hat:iB ts n=a.text:=(by unfold iB;rw [ha]);have hatl:=HT.out a (List.mem_of_getElem? ha);have HN:=zh (show (acc++a.text)++aG (s.data.toList.drop (i+m)) ts=R by rw [<- HACC.out,hat,List.append_assoc]);clear HACC hat ha a0;go_wp2_with fail;refine (dH w.heap.size w.heap.size _ ⟨a.text.toArray⟩ _ hI3 (by rw [Lib.byteCells_length,Lib.size_eq];simp only;omega) hB3.size).mono ?_;rintro e w3 ⟨rfl,h3,hb3,k3⟩;have hB4:=hB3.trans hb3;have HA:=zh (show Lib.IsBuilderF 112 5 w.heap.size w.heap.size (Lib.byteCells (acc++a.text)) w3 by rw [Lib.byteCells_append];exact Or.inr h3);go_wp2_with fail;go_roundw;case rel=>exact ⟨i+m,acc++a.text,by omega,by go_num,HA.out,hB4,HN.out⟩
      case measure=>simp [intOf];omega
     ·have hnI:¬(n:Int)<(ts.length:Int):=(by omega);have hat:iB ts n=[]:=(by unfold iB;rw [List.getElem?_eq_none (by omega)]);have HN:=zh (show acc++aG (s.data.toList.drop (i+m)) ts=R by rw [<- HACC.out,hat,List.nil_append]);have HA:=zh hI3;clear HACC hat;go_wp2_with fail;go_roundw;case rel=>exact ⟨i+m,acc,by omega,by go_num,HA.out,hB3,HN.out⟩
      case measure=>simp [intOf];omega
    ·rw [hn]at hnt;rw [tp hn]at hacc;simp only [o9.val]at hnt;have HNT:=zh hnt;have HN:=zh (show (acc++[c])++aG (s.data.toList.drop (i+1)) ts=R by rw [h0,<- hacc];simp);have q:=tA;clear hnt hacc hn hdr h0 hdl;go_wp2_with fail;refine HNT.out.mono ?_;rintro e w2 ⟨rfl,b2⟩;have hB2:=aa hB b2;have hI2:=aU hI b2;have b3:Below w2.heap.size w2 (w2.alloc (.cells #[.int .i64 0] 197)):=(Below.refl _ _).alloc (Nat.le_refl _) _;have hB3:=aa hB2 b3;have hI3:=aU hI2 b3;clear hI hI2 hB b2 b3 HNT;go_wp2_with fail;refine (fq w.heap.size w.heap.size _ (c.toNat:Int) _ hI3 (by rw [Lib.byteCells_length];omega) (hB3).size).mono ?_;rintro e w3 ⟨rfl,h3,hb3,k3⟩;have hB3:=(hB3).trans hb3;have HA:=zh (show Lib.IsBuilderF 112 5 w.heap.size w.heap.size (Lib.byteCells (acc++[c])) w3 by rw [Lib.byteCells_append];exact Or.inr h3);go_wp2_with fail;go_roundw;case rel=>exact ⟨i+1,acc++[c],by omega,by go_num,HA.out,hB3,HN.out⟩
     case measure=>simp [intOf];omega
   ·have k0:((c.toNat:Int)==0)=false:=by
     have:c.toNat≠0:=fun h=>h0 (UInt8.toNat_inj.1 h);simp;omega
    rw [hdr,tn h0]at hacc;have HN:=zh (show (acc++[c])++aG (s.data.toList.drop (i+1)) ts=R by rw [<- hacc];simp);clear hacc hdr h0;go_wp2_with fail;refine (fq w.heap.size w.heap.size _ (c.toNat:Int) _ hI (by rw [Lib.byteCells_length];omega) (hB).size).mono ?_;rintro e w3 ⟨rfl,h3,hb3,k3⟩;have hB3:=(hB).trans hb3;have HA:=zh (show Lib.IsBuilderF 112 5 w.heap.size w.heap.size (Lib.byteCells (acc++[c])) w3 by rw [Lib.byteCells_append];exact Or.inr h3);go_wp2_with fail;go_roundw;case rel=>exact ⟨i+1,acc++[c],by omega,by go_num,HA.out,hB3,HN.out⟩
    case measure=>simp [intOf];omega
  ·obtain rfl:i=s.size:=(by omega);have hd0:s.data.toList.drop s.size=[]:=(by rw [Lib.size_eq,List.drop_length]);rw [hd0,uZ,List.append_nil]at hacc;subst hacc;have HI:=zh hI;clear hI hd0;go_wp2_with fail;refine (Tryz.Builder_String_any_k w.heap.size w.heap.size _ wr HI.out hB.size).mono ?_;rintro e w2 ⟨rfl,_,hb2,_⟩;go_wp2_with fail;go_ret;exact ⟨rfl,hB.trans hb2⟩
end Go.Proofs.YtcannffahjbjnaaGreatDoor
