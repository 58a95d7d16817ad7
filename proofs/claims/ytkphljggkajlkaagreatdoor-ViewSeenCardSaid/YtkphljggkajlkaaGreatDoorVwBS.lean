import Derived.Test.YtkphljggkajlkaaGreatDoorVwBR
set_option linter.unusedVariables false
set_option linter.unusedSimpArgs false
namespace Go.Proofs.YtkphljggkajlkaaGreatDoor
open Go.RowKit
set_option linter.unusedVariables false
set_option linter.unusedSimpArgs false
def cont (k:Nat):Bool:=k==3||k==4||k==5||k==12
def okAfter (w x:Inl):Prop:=x.depth≤w.depth+1∧(w.depth<x.depth→cont w.kind=true)
def Chained:List Inl→Prop
 |[]=>True
 |[_]=>True
 |w::x::l=>okAfter w x∧Chained (x::l)
def kindOk (x:Inl):Prop:=1≤x.kind∧x.kind≤12
theorem chained_cons (w:Inl) (l:List Inl):Chained (w::l)↔(∀x,l.head? =some x→okAfter w x)∧Chained l:=by
 cases l with
 |nil=>simp [Chained]
 |cons x l=>simp [Chained]
theorem chained_append:∀(a b:List Inl),Chained (a++b)↔Chained a∧Chained b∧∀w x,a.getLast? =some w→b.head? =some x→okAfter w x
 |[],b=>by simp [Chained]
 |w::a,b=>by
  rw [List.cons_append,chained_cons,chained_cons,chained_append a b];cases a with
  |nil=>
   simp only [List.nil_append,List.head?_nil,List.getLast?_nil,List.getLast?_singleton,Option.some.injEq];constructor
   ·rintro ⟨h1,h2,h3,h4⟩;exact ⟨⟨fun x h=>by simp at h,h2⟩,h3,fun w' x hw hx=>by subst hw;exact h1 x hx⟩
   ·rintro ⟨⟨h1,h2⟩,h3,h4⟩;exact ⟨fun x hx=>h4 w x rfl hx,h2,h3,fun w' x hw=>by simp at hw⟩
  |cons y a=>
   simp only [List.cons_append,List.head?_cons,Option.some.injEq,List.getLast?_cons_cons];constructor
   ·rintro ⟨h1,h2,h3,h4⟩;exact ⟨⟨h1,h2⟩,h3,h4⟩
   ·rintro ⟨⟨h1,h2⟩,h3,h4⟩;exact ⟨h1,h2,h3,h4⟩
structure Nest (l:List Inl):Prop where
 head:∀x,l.head? =some x→x.depth=0
 chain:Chained l
 kinds:∀x∈l,kindOk x
theorem Nest.nil:Nest []:=⟨fun x h=>by simp at h,trivial,fun x h=>by simp at h⟩
theorem Nest.one {x:Inl} (hd:x.depth=0) (hk:kindOk x):Nest [x]:=⟨fun y h=>by simp at h;rw [←h];exact hd,trivial,fun y h=>by simp at h;rw [h];exact hk⟩
theorem Nest.append {a b:List Inl} (ha:Nest a) (hb:Nest b):Nest (a++b):=by
 refine ⟨?_,(chained_append a b).2 ⟨ha.chain,hb.chain,fun w x _ hx=>?_⟩,fun x hx=>?_⟩
 ·intro x hx;cases a with
  |nil=>exact hb.head x hx
  |cons y a=>exact ha.head x hx
 ·have:=hb.head x hx;exact ⟨by omega,fun h=>by omega⟩
 ·rcases List.mem_append.1 hx with h|h
  ·exact ha.kinds x h
  ·exact hb.kinds x h
theorem chained_deeper:∀(l:List Inl),Chained l→Chained (deeperL l)
 |[],_=>trivial
 |[x],_=>trivial
 |w::x::l,h=>by
  obtain ⟨h1,h2⟩:=h;exact ⟨⟨Nat.succ_le_succ h1.1,fun hd=>h1.2 (Nat.lt_of_succ_lt_succ hd)⟩,chained_deeper (x::l) h2⟩
theorem Nest.within {x:Inl} {l:List Inl} (hd:x.depth=0) (hc:cont x.kind=true) (hk:kindOk x) (h:Nest l):Nest (x::deeperL l):=by
 refine ⟨fun y hy=>by simp at hy;rw [←hy];exact hd,(chained_cons _ _).2 ⟨fun y hy=>?_,chained_deeper l h.chain⟩,fun y hy=>?_⟩
 ·cases l with
  |nil=>simp [deeperL]at hy
  |cons z l=>
   simp [deeperL]at hy;have:=h.head z rfl;rw [←hy];exact ⟨by show z.depth+1≤x.depth+1;omega,fun _=>hc⟩
 ·rcases List.mem_cons.1 hy with rfl|hy
  ·exact hk
  ·obtain ⟨z,hz,rfl⟩:=List.mem_map.1 hy;exact h.kinds z hz
def AllNest (p:List Piece):Prop:=∀x∈p,Nest x.it.l
theorem AllNest.sub {p q:List Piece} (h:AllNest p) (hs:∀x∈q,x∈p):AllNest q:=fun x hx=>h x (hs x hx)
def ItemsNest (l:List IItem):Prop:=∀x∈l,Nest x.l
theorem put_nest {st:PSt} {l:List Inl} (h:ItemsNest st.items) (hl:Nest l):ItemsNest (st.put l).items:=fun x hx=>by
 rcases List.mem_append.1 hx with hx|hx
 ·exact h x hx
 ·simp at hx;rw [hx];exact hl
theorem ItemsNest.take {l:List IItem} (h:ItemsNest l) (n:Nat):ItemsNest (l.take n):=fun x hx=>h x (List.mem_of_mem_take hx)
theorem ItemsNest.drop {l:List IItem} (h:ItemsNest l) (n:Nat):ItemsNest (l.drop n):=fun x hx=>h x (List.mem_of_mem_drop hx)
theorem ItemsNest.append {a b:List IItem} (ha:ItemsNest a) (hb:ItemsNest b):ItemsNest (a++b):=fun x hx=>by
 rcases List.mem_append.1 hx with hx|hx
 ·exact ha x hx
 ·exact hb x hx
def wtL (l:List Inl):Nat:=(l.map fun x=>x.text.length+1).sum
def wtP (q:Piece):Nat:=if q.it.sign=0 then wtL q.it.l else 2*q.left
def totW (p:List Piece):Nat:=(p.map wtP).sum
structure GB (D:Nat) (p:List Piece):Prop where
 len:p.length+signsOf p≤D
 wt:totW p≤D
 dep:∀q∈p,∀x∈q.it.l,x.depth+signsOf p≤D
 num:∀q∈p,q.it.n≤D
end Go.Proofs.YtkphljggkajlkaaGreatDoor
namespace Go.Proofs.YtkphljggkajlkaaGreatDoor
open Go.RowKit
set_option maxRecDepth 100000
set_option linter.unusedVariables false
set_option linter.unusedSimpArgs false
def itW (x:IItem):Nat:=if x.sign=0 then wtL x.l else 2*x.n
def itsW (l:List IItem):Nat:=(l.map itW).sum
theorem itsW_append (a b:List IItem):itsW (a++b)=itsW a+itsW b:=by unfold itsW;simp
theorem itsW_one (x:IItem):itsW [x]=itW x:=by simp [itsW]
theorem itsW_cut (l:List IItem) (k:Nat):itsW (l.take k)+itsW (l.drop k)=itsW l:=by
 rw [←itsW_append,List.take_append_drop]
def Zero (l:List IItem):Prop:=∀x∈l,(x.sign=0→x.n=0)∧(x.sign≠0→x.l=[])
theorem Zero.append {a b:List IItem} (ha:Zero a) (hb:Zero b):Zero (a++b):=fun x hx=>by
 rcases List.mem_append.1 hx with hx|hx
 ·exact ha x hx
 ·exact hb x hx
theorem Zero.take {l:List IItem} (h:Zero l) (n:Nat):Zero (l.take n):=fun x hx=>h x (List.mem_of_mem_take hx)
theorem Zero.drop {l:List IItem} (h:Zero l) (n:Nat):Zero (l.drop n):=fun x hx=>h x (List.mem_of_mem_drop hx)
structure PInv (W k i:Nat) (st:PSt):Prop where
 wt:itsW st.items≤k*W
 len:st.items.length≤k
 olen:st.opens.length≤k
 nest:ItemsNest st.items
 zero:Zero st.items
 srt:st.opens.Pairwise (fun a b=>a.at'<b.at')
 opn:∀o∈st.opens,o.at'<st.items.length∧o.fin≤i
theorem PInv.start (W:Nat):PInv W 0 0 ⟨[],[]⟩:=⟨by simp [itsW],Nat.le_refl _,Nat.le_refl _,fun x hx=>by simp at hx,fun x hx=>by simp at hx,List.Pairwise.nil,fun o ho=>by simp at ho⟩
theorem PInv.later {W k i j:Nat} {st:PSt} (h:PInv W k i st) (hij:i≤j):PInv W k j st:={h with opn:=fun o ho=>⟨(h.opn o ho).1,Nat.le_trans (h.opn o ho).2 hij⟩}
theorem PInv.more {W k i:Nat} {st:PSt} (h:PInv W k i st):PInv W (k+1) i st:={h with wt:=Nat.le_trans h.wt (Nat.mul_le_mul_right _ (Nat.le_succ _)),len:=Nat.le_succ_of_le h.len,olen:=Nat.le_succ_of_le h.olen}
theorem zero_put (l:List Inl):Zero [⟨0,0,false,false,l⟩]:=fun x hx=>by simp at hx;rw [hx];exact ⟨fun _=>rfl,fun h=>absurd rfl h⟩
theorem PInv.put {W k i:Nat} {st:PSt} (h:PInv W k i st) {l:List Inl} (hl:Nest l) (hw:wtL l≤W):PInv W (k+1) i (st.put l):=by
 have e:(st.put l).items=st.items++[⟨0,0,false,false,l⟩]:=rfl;refine ⟨?_,by rw [e];simp;exact h.len,Nat.le_succ_of_le h.olen,put_nest h.nest hl,?_,h.srt,fun o ho=>⟨?_,(h.opn o ho).2⟩⟩
 ·rw [e,itsW_append,itsW_one,Nat.add_mul];have:=h.wt;have h2:itW ⟨0,0,false,false,l⟩=wtL l:=rfl;omega
 ·rw [e];exact h.zero.append (zero_put l)
 ·have:=(h.opn o ho).1;rw [e];simp;omega
theorem PInv.cut {W k i:Nat} {st:PSt} (h:PInv W k i st) (a:Nat) (ha:a≤st.items.length) (hop:∀o∈st.opens,o.at'<a) {l:List Inl} (hl:Nest l) (hw:wtL l≤itsW (st.items.drop (a+1))+W):PInv W (k+1) i (PSt.put {st with items:=st.items.take a} l):=by
 have e:(PSt.put {st with items:=st.items.take a} l).items=st.items.take a++[⟨0,0,false,false,l⟩]:=rfl;have hz:(st.items.take a).length=a:=(by simp;omega);refine ⟨?_,by rw [e,List.length_append,hz];have:=h.len;simp;omega,Nat.le_succ_of_le h.olen,?_,?_,h.srt,fun o ho=>⟨?_,(h.opn o ho).2⟩⟩
 ·rw [e,itsW_append,itsW_one,Nat.add_mul];have:=h.wt;have h1:=itsW_cut st.items a;have h3:itsW (st.items.drop (a+1))≤itsW (st.items.drop a):=by
   have:=itsW_cut (st.items.drop a) 1;rw [List.drop_drop]at this;omega
  have h2:itW ⟨0,0,false,false,l⟩=wtL l:=rfl;omega
 ·exact put_nest (st:={st with items:=st.items.take a}) (h.nest.take a) hl
 ·rw [e];exact (h.zero.take a).append (zero_put l)
 ·have:=hop o ho;rw [e,List.length_append,hz];simp;omega
theorem PInv.opens {W k i:Nat} {st:PSt} (h:PInv W k i st) {f:Opn→Opn} (hf:∀o,(f o).at'=o.at'∧(f o).fin=o.fin):PInv W k i {st with opens:=st.opens.map f}:=by
 refine {h with olen:=by show (st.opens.map f).length≤k;rw [List.length_map];exact h.olen,srt:=?_,opn:=?_}
 ·refine List.Pairwise.map f (fun a b hab=>?_) h.srt;rw [(hf a).1,(hf b).1];exact hab
 ·intro o ho;obtain ⟨x,hx,rfl⟩:=List.mem_map.1 ho;rw [(hf x).1,(hf x).2];exact h.opn x hx
theorem restore_len (T:Nat) (ts:List AtomT) (hts:∀a∈ts,a.text.length≤T):∀(f:Nat) (l:List UInt8),(restoreGo f l ts).length≤l.length*(T+1)
 |0,l=>by simp [restoreGo]
 |f+1,[]=>by simp [restoreGo]
 |f+1,c::l=>by
  have h1:=restore_len T ts hts f l;have e:(c::l).length*(T+1)=l.length*(T+1)+(T+1):=(by rw [List.length_cons,Nat.add_mul];omega);unfold restoreGo;split
  ·split
   ·rename_i n m hn;have hm:=(next_le (c::l) (by simp)).1;rw [hn]at hm;simp only at hm;have h2:=restore_len T ts hts f ((c::l).drop m);have h3:((c::l).drop m).length≤l.length:=(by rw [List.length_drop,List.length_cons];omega);have h4:=Nat.mul_le_mul_right (T+1) h3;rw [List.length_append];split
    ·rename_i a ha;have:=hts a (List.mem_of_getElem? ha);omega
    ·simp only [List.length_nil];omega
   ·rw [List.length_cons];omega
  ·rw [List.length_cons];omega
theorem next_zero (l:List UInt8):(∃n m,nextL (0::l)=(.atom n,m)∧0<m∧m≤(0::l).length)∨(∃x m,nextL (0::l)=(.word x,m)):=by
 have hb:beginsL (0::l)=atomL (0::l):=(by unfold beginsL;rfl);unfold nextL;rw [hb];cases ha:atomL (0::l)with
 |none=>exact Or.inr ⟨_,_,rfl⟩
 |some r=>
  obtain ⟨t,m⟩:=r;have hm:=atom_le ha;left;unfold atomL at ha;split at ha
  ·cases ha
  ·split at ha
   ·injection ha with ha;injection ha with h1 h2;exact ⟨_,m,by rw [←h1],hm⟩
   ·cases ha
theorem restore_fuel (ts:List AtomT):∀(f g:Nat) (l:List UInt8),l.length<f→l.length<g→restoreGo f l ts=restoreGo g l ts
 |0,g,l,h,_=>by omega
 |f+1,0,l,_,h=>by omega
 |f+1,g+1,[],_,_=>by simp [restoreGo]
 |f+1,g+1,c::l,hf,hg=>by
  have h1:=restore_fuel ts f g l (by simp at hf;omega) (by simp at hg;omega);unfold restoreGo;split
  ·split
   ·rename_i n m hn;have hm:=(next_le (c::l) (by simp)).1;rw [hn]at hm;simp only at hm;have h3:((c::l).drop m).length≤l.length:=(by rw [List.length_drop,List.length_cons];omega);rw [restore_fuel ts f g ((c::l).drop m) (by simp at hf;omega) (by simp at hg;omega)]
   ·rw [h1]
  ·rw [h1]
theorem restore_nil (ts:List AtomT):restoreL [] ts=[]:=rfl
theorem restore_cons {c:UInt8} {l:List UInt8} {ts:List AtomT} (hc:c≠0):restoreL (c::l) ts=c::restoreL l ts:=by
 unfold restoreL;rw [restoreGo,if_neg hc];rfl
theorem restore_word {l x:List UInt8} {m:Nat} {ts:List AtomT} (h:nextL (0::l)=(.word x,m)):restoreL (0::l) ts=0::restoreL l ts:=by
 unfold restoreL;rw [restoreGo,if_pos rfl,h];rfl
def atomText (ts:List AtomT) (n:Nat):List UInt8:=match ts[n]? with|some a=>a.text|none=>[]
theorem restore_atom {l:List UInt8} {n m:Nat} {ts:List AtomT} (h:nextL (0::l)=(.atom n,m)):restoreL (0::l) ts=atomText ts n++restoreL ((0::l).drop m) ts:=by
 have hm:=(next_le (0::l) (by simp)).1;rw [h]at hm;simp only at hm;unfold restoreL atomText;rw [restoreGo,if_pos rfl,h];simp only;rw [restore_fuel ts (0::l).length (((0::l).drop m).length+1) ((0::l).drop m) (by rw [List.length_drop,List.length_cons];omega) (by omega)];rfl
theorem pre_two (s:ByteArray) (w:World):
  Calls Tryz.prog 109 #[.string s,.string ⟨#[33,91]⟩] w fun e w'=>e=.returned (.bool (Lib.hasPrefix s.data.toList [33,91]))∧w'=w:=
 Tryz.strings_HasPrefix s ⟨#[33,91]⟩ w
theorem ret_same {a b:Option (Tok×Nat)} (h:a=b):Ending.returned (.tuple #[tokVal a,.int .i64 (tokLen a)])=.returned (.tuple #[tokVal b,.int .i64 (tokLen b)]):=by rw [h]
theorem ret_brk {o:Option (Tok×Nat)} {b c:Bool} {m:Nat} {n:Int} (h:o=some (.brk b,m)) (hb:c=b) (hn:n=m):Ending.returned (.tuple #[.iface 222 (.agg #[.bool c]),.int .i64 n])=.returned (.tuple #[tokVal o,.int .i64 (tokLen o)]):=by
 rw [hb];exact ret_tok h rfl hn
theorem ret_codeL {o:Option (Tok×Nat)} {r:Tok×Nat} (h:o=some r):Ending.returned (.tuple #[r.1.val,.int .i64 r.2])=.returned (.tuple #[tokVal o,.int .i64 (tokLen o)]):=by rw [h];rfl
set_option maxHeartbeats 8000000 in
theorem begins_sub (s:ByteArray) (c:UInt8) (r:List UInt8) (w:World) (hE:Env w) (hl:s.data.toList=c::r) (hs:s.size≤1000000000) (h:c=0∨c=92∨c=96∨c=60):
  Calls Tryz.prog 154 #[.string s] w fun e w'=>e=.returned (.tuple #[tokVal (beginsL s.data.toList),.int .i64 (tokLen (beginsL s.data.toList))])∧Below w.heap.size w w':=by
 have hsz:1≤s.size:=(by rw [Lib.size_eq,hl];simp);have hc:∀h,s[0]'h=c:=fun h=>by
  have:=Lib.data_getElem? s 0 h;rw [hl]at this;simpa using this.symm
 rcases h with rfl|rfl|rfl|rfl
 ·have HB:=Lib.hid (show beginsL s.data.toList=atomL s.data.toList by rw [hl];rfl);clear hl;go_enter Tryz.func154,Tryz.ntmps154
  go_wp2_with fail;refine (atom_tok s _ hsz hs).mono ?_;rintro e w2 ⟨rfl,b2⟩;go_wp2_with fail
  go_ret2
  exact ⟨ret_same HB.out.symm,b2⟩
 ·have HB:=Lib.hid (show beginsL s.data.toList=escapedL s.data.toList by rw [hl];rfl);clear hl;go_enter Tryz.func154,Tryz.ntmps154
  go_wp2_with fail;refine (escaped_tok s _ hsz hs).mono ?_;rintro e w2 ⟨rfl,b2⟩;go_wp2_with fail
  go_ret2
  exact ⟨ret_same HB.out.symm,b2⟩
 ·have HB:=Lib.hid (show beginsL s.data.toList=some (codeL s.data.toList) by rw [hl];rfl);clear hl;go_enter Tryz.func154,Tryz.ntmps154
  go_wp2_with fail;refine (code_tok s _ hE hs).mono ?_;rintro e w2 ⟨rfl,b2⟩;go_wp2_with fail
  go_ret2
  exact ⟨ret_codeL HB.out,b2⟩
 ·have HB:=Lib.hid (show beginsL s.data.toList=angleL s.data.toList by rw [hl];rfl);clear hl;go_enter Tryz.func154,Tryz.ntmps154
  go_wp2_with fail;refine (angle_tok s _ hsz hs).mono ?_;rintro e w2 ⟨rfl,b2⟩;go_wp2_with fail
  go_ret2
  exact ⟨ret_same HB.out.symm,b2⟩
set_option maxHeartbeats 8000000 in
theorem begins_amp (s:ByteArray) (r:List UInt8) (w:World) (hE:Env w) (hl:s.data.toList=38::r) (hs:s.size≤1000000000):
  Calls Tryz.prog 154 #[.string s] w fun e w'=>e=.returned (.tuple #[tokVal (beginsL s.data.toList),.int .i64 (tokLen (beginsL s.data.toList))])∧Below w.heap.size w w':=by
 have hsz:1≤s.size:=(by rw [Lib.size_eq,hl];simp);have hc:∀h,s[0]'h=38:=fun h=>by
  have:=Lib.data_getElem? s 0 h;rw [hl]at this;simpa using this.symm
 have hB:beginsL s.data.toList=if 0<(entAt s.data.toList).2 then some (.word (entAt s.data.toList).1,(entAt s.data.toList).2)else none:=(by rw [hl];rfl);have ha:=fun W hW=>at_any s W hW hs;obtain ⟨T,hT,_⟩:=ba_ex (entAt s.data.toList).1;obtain ⟨n,hn⟩:∃n,(entAt s.data.toList).2=n:=⟨_,rfl⟩
 rw [←hT,hn]at ha hB;simp only [Lib.mk_data]at ha;have HA:=Lib.hid ha;have HE:=Lib.hid hE;clear ha hE;by_cases h0:0<n
 ·have h0':(0:Int)<(n:Int):=(by omega);rw [if_pos h0]at hB;have HB:=Lib.hid hB;clear hB hT hn;go_enter Tryz.func154,Tryz.ntmps154
  go_wp2_with fail;refine (HA.out _ HE.out).mono ?_;rintro e w2 ⟨rfl,b2⟩;go_wp2_with fail
  go_ret2
  exact ⟨ret_word HB.out rfl rfl,b2⟩
 ·have h0':¬(0:Int)<(n:Int):=(by omega);rw [if_neg h0]at hB;have HB:=Lib.hid hB;clear hB hT hn;go_enter Tryz.func154,Tryz.ntmps154
  go_wp2_with fail;refine (HA.out _ HE.out).mono ?_;rintro e w2 ⟨rfl,b2⟩;go_wp2_with fail
  go_ret2
  exact ⟨ret_nil HB.out,b2⟩
set_option maxHeartbeats 8000000 in
theorem begins_run (s:ByteArray) (c:UInt8) (r:List UInt8) (w:World) (hl:s.data.toList=c::r) (hs:s.size≤1000000000) (h:c=42∨c=95):
  Calls Tryz.prog 154 #[.string s] w fun e w'=>e=.returned (.tuple #[tokVal (beginsL s.data.toList),.int .i64 (tokLen (beginsL s.data.toList))])∧Below w.heap.size w w':=by
 have hsz:1≤s.size:=(by rw [Lib.size_eq,hl];simp);have hc:∀h,s[0]'h=c:=fun h=>by
  have:=Lib.data_getElem? s 0 h;rw [hl]at this;simpa using this.symm
 have hx:s.extract 0 1=⟨#[c]⟩:=ba_eq (by rw [Lib.extract_data,hl];rfl);have hm:=fun W=>among_tok s ⟨#[c]⟩ W (by show 1<_;omega) (fun j b hj=>by
  have:b=c:=by
   rw [show (ByteArray.mk #[c]).data.toList=[c]from rfl]at hj;cases j with
   |zero=>simpa using hj.symm
   |succ j=>simp at hj
  rw [this];rcases h with rfl|rfl<;>decide) hs
 rw [show (ByteArray.mk #[c]).data.toList=[c]from rfl]at hm;have hB:beginsL s.data.toList=some (.run c (amongL s.data.toList [c]),amongL s.data.toList [c]):=by
  rw [hl];rcases h with rfl|rfl<;>rfl
 obtain ⟨n,hn⟩:∃n,amongL s.data.toList [c]=n:=⟨_,rfl⟩
 rw [hn]at hm hB;have HM:=Lib.hid hm;have HB:=Lib.hid hB;clear hm hB hn;rcases h with rfl|rfl
 all_goals
  go_enter Tryz.func154,Tryz.ntmps154
  go_wp2_with fail;refine (HM.out _).mono ?_;rintro e w2 ⟨rfl,b2⟩;go_wp2_with fail
  go_ret2
  exact ⟨ret_tok HB.out rfl rfl,b2⟩
set_option maxHeartbeats 8000000 in
theorem begins_mark (s:ByteArray) (c:UInt8) (r:List UInt8) (w:World) (hl:s.data.toList=c::r) (hs:s.size≤1000000000) (h:c=33∨c=91∨c=93):
  Calls Tryz.prog 154 #[.string s] w fun e w'=>e=.returned (.tuple #[tokVal (beginsL s.data.toList),.int .i64 (tokLen (beginsL s.data.toList))])∧Below w.heap.size w w':=by
 have hsz:1≤s.size:=(by rw [Lib.size_eq,hl];simp);have hc:∀h,s[0]'h=c:=fun h=>by
  have:=Lib.data_getElem? s 0 h;rw [hl]at this;simpa using this.symm
 have hx:s.extract 0 1=⟨#[c]⟩:=ba_eq (by rw [Lib.extract_data,hl];rfl);rcases h with rfl|rfl|rfl
 ·have hp:=fun W=>pre_two s W;have hq:Lib.hasPrefix s.data.toList [33,91]=decide (r.head? =some 91):=by
   rw [hl];unfold Lib.hasPrefix;cases r with
   |nil=>rfl
   |cons d r=>
    by_cases e:d=91
    ·simp [List.isPrefixOf,e]
    ·simp [List.isPrefixOf,e,Ne.symm e]
  rw [hq]at hp;have hB:beginsL s.data.toList=if r.head? =some 91 then some (.mark [33,91],2)else none:=(by rw [hl];rfl);by_cases hd:r.head? =some 91
  ·rw [decide_eq_true hd]at hp;rw [if_pos hd]at hB;have HP:=Lib.hid hp;have HB:=Lib.hid hB;clear hp hB hq hd;go_enter Tryz.func154,Tryz.ntmps154
   go_wp2_with fail;refine (HP.out _).mono ?_;rintro e w' ⟨rfl,hw'⟩;obtain rfl:=hw'.symm;go_wp2_with fail
   go_ret2
   exact ⟨ret_tok HB.out rfl rfl,Below.refl _ _⟩
  ·rw [decide_eq_false hd]at hp;rw [if_neg hd]at hB;have HP:=Lib.hid hp;have HB:=Lib.hid hB;clear hp hB hq hd;go_enter Tryz.func154,Tryz.ntmps154
   go_wp2_with fail;refine (HP.out _).mono ?_;rintro e w' ⟨rfl,hw'⟩;obtain rfl:=hw'.symm;go_wp2_with fail
   go_ret2
   exact ⟨ret_nil HB.out,Below.refl _ _⟩
 ·have HB:=Lib.hid (show beginsL s.data.toList=some (.mark [91],1) by rw [hl];rfl);go_enter Tryz.func154,Tryz.ntmps154
  go_wp2_with fail
  go_ret2
  exact ⟨ret_tok HB.out rfl rfl,Below.refl _ _⟩
 ·have HB:=Lib.hid (show beginsL s.data.toList=some (.mark [93],1) by rw [hl];rfl);go_enter Tryz.func154,Tryz.ntmps154
  go_wp2_with fail
  go_ret2
  exact ⟨ret_tok HB.out rfl rfl,Below.refl _ _⟩
set_option maxHeartbeats 8000000 in
theorem begins_blank (s:ByteArray) (c:UInt8) (r:List UInt8) (w:World) (hl:s.data.toList=c::r) (hs:s.size≤1000000000) (h:c=32∨c=10):
  Calls Tryz.prog 154 #[.string s] w fun e w'=>e=.returned (.tuple #[tokVal (beginsL s.data.toList),.int .i64 (tokLen (beginsL s.data.toList))])∧Below w.heap.size w w':=by
 have hsz:1≤s.size:=(by rw [Lib.size_eq,hl];simp);have hc:∀h,s[0]'h=c:=fun h=>by
  have:=Lib.data_getElem? s 0 h;rw [hl]at this;simpa using this.symm
 have hm:=fun W=>among_small [32] (by decide) (by decide) s W hs;have hle:=among_le s.data.toList [32];rw [←Lib.size_eq]at hle
 have hB:beginsL s.data.toList=if (s.data.toList.drop (amongL s.data.toList [32])).head? =some 10 then some (.brk (decide (2≤amongL s.data.toList [32])),amongL s.data.toList [32]+behindT (s.data.toList.drop (amongL s.data.toList [32])))
   else some (.word (s.data.toList.take (amongL s.data.toList [32])),amongL s.data.toList [32]):=by
  rw [hl];rcases h with rfl|rfl<;>rfl
 obtain ⟨n,hn⟩:∃n,amongL s.data.toList [32]=n:=⟨_,rfl⟩
 rw [hn]at hm hB hle;have hp:=fun W=>pre_at 10 (s.extract n s.size) W;rw [tail_list]at hp;have HM:=Lib.hid hm;clear hm hn;by_cases hd:(s.data.toList.drop n).head? =some 10
 ·have hlt:=head_lt hd;rw [←Lib.size_eq]at hlt;rw [decide_eq_true hd]at hp;rw [if_pos hd]at hB;have hb:=fun W=>behind_tok (s.extract n s.size) W (by rw [tail_size];omega) (by rw [tail_size];omega);rw [tail_list]at hb;have hbl:behindT (s.data.toList.drop n)≤1000000000:=by
   unfold behindT;have:=among_le ((s.data.toList.drop n).drop 1) [32,9];simp only [List.length_drop]at this;rw [←Lib.size_eq]at this;omega
  obtain ⟨k,hk⟩:∃k,behindT (s.data.toList.drop n)=k:=⟨_,rfl⟩
  rw [hk]at hb hB hbl;have HP:=Lib.hid hp;have HB:=Lib.hid hB;have HBB:=Lib.hid hb;clear hp hB hb hk hd hl;rcases h with rfl|rfl
  all_goals
   go_enter Tryz.func154,Tryz.ntmps154
   go_wp2_with fail;refine (HM.out _).mono ?_;rintro e w2 ⟨rfl,b2⟩;go_wp2_with fail;refine (HP.out _).mono ?_;rintro e w' ⟨rfl,hw'⟩;obtain rfl:=hw'.symm;go_wp2_with fail;refine (HBB.out _).mono ?_;rintro e w3 ⟨rfl,b3⟩;have B3:=below_step b2 b3;go_wp2_with fail
   go_ret2
   exact ⟨ret_brk HB.out (by rw [decide_eq_decide];omega) (by omega),B3⟩
 ·rw [decide_eq_false hd]at hp;rw [if_neg hd]at hB;have HP:=Lib.hid hp;have HB:=Lib.hid hB;clear hp hB hd hl;rcases h with rfl|rfl
  all_goals
   go_enter Tryz.func154,Tryz.ntmps154
   go_wp2_with fail;refine (HM.out _).mono ?_;rintro e w2 ⟨rfl,b2⟩;go_wp2_with fail;refine (HP.out _).mono ?_;rintro e w' ⟨rfl,hw'⟩;obtain rfl:=hw'.symm;go_wp2_with fail
   go_ret2
   exact ⟨ret_word HB.out (by rw [Lib.extract_data];simp) rfl,b2⟩
def headBytes:List UInt8:=[0,92,38,96,60,42,95,33,91,93,32,10]
set_option maxHeartbeats 8000000 in
theorem begins_other (s:ByteArray) (c:UInt8) (r:List UInt8) (w:World) (hl:s.data.toList=c::r) (h:headBytes.contains c=false):
  Calls Tryz.prog 154 #[.string s] w fun e w'=>e=.returned (.tuple #[tokVal (beginsL s.data.toList),.int .i64 (tokLen (beginsL s.data.toList))])∧Below w.heap.size w w':=by
 have hsz:1≤s.size:=(by rw [Lib.size_eq,hl];simp);have hc:∀h,s[0]'h=c:=fun h=>by
  have:=Lib.data_getElem? s 0 h;rw [hl]at this;simpa using this.symm
 have ne:∀k:UInt8,headBytes.contains k=true→((c.toNat:Int)==(k.toNat:Int))=false:=fun k hk=>by
  rw [beq_eq_false_iff_ne];intro e
  have:c=k:=by have h1:c.toNat=k.toNat:=by omega
               rw [←UInt8.ofNat_toNat (x:=c),h1,UInt8.ofNat_toNat]
  rw [this,hk]at h;cases h
 have HB:=Lib.hid (show beginsL s.data.toList=none by
  have n:∀k:UInt8,headBytes.contains k=true→c≠k:=fun k hk e=>by rw [e,hk]at h;cases h
  rw [hl,beginsL,if_neg (n 0 rfl),if_neg (n 92 rfl),if_neg (n 38 rfl),if_neg (n 96 rfl),if_neg (n 60 rfl),if_neg (by rintro (e|e);exact n 42 rfl e;exact n 95 rfl e),if_neg (n 33 rfl),if_neg (by rintro (e|e);exact n 91 rfl e;exact n 93 rfl e),if_neg (by rintro (e|e);exact n 32 rfl e;exact n 10 rfl e)])
 have n0:((c.toNat:Int)==0)=false:=ne 0 rfl;have n1:((c.toNat:Int)==92)=false:=ne 92 rfl;have n2:((c.toNat:Int)==38)=false:=ne 38 rfl;have n3:((c.toNat:Int)==96)=false:=ne 96 rfl;have n4:((c.toNat:Int)==60)=false:=ne 60 rfl;have n5:((c.toNat:Int)==42)=false:=ne 42 rfl;have n6:((c.toNat:Int)==95)=false:=ne 95 rfl;have n7:((c.toNat:Int)==33)=false:=ne 33 rfl;have n8:((c.toNat:Int)==91)=false:=ne 91 rfl;have n9:((c.toNat:Int)==93)=false:=ne 93 rfl;have n10:((c.toNat:Int)==32)=false:=ne 32 rfl;have n11:((c.toNat:Int)==10)=false:=ne 10 rfl;clear ne h hl;go_enter Tryz.func154,Tryz.ntmps154
 go_wp2_with fail
 go_ret2
 exact ⟨ret_nil HB.out,Below.refl _ _⟩
theorem begins_tok (s:ByteArray) (w:World) (hE:Env w) (h0:1≤s.size) (hs:s.size≤1000000000):
  Calls Tryz.prog 154 #[.string s] w fun e w'=>e=.returned (.tuple #[tokVal (beginsL s.data.toList),.int .i64 (tokLen (beginsL s.data.toList))])∧Below w.heap.size w w':=by
 obtain ⟨c,r,hl⟩:∃c r,s.data.toList=c::r:=by
  cases h:s.data.toList with
  |nil=>rw [Lib.size_eq,h]at h0;simp at h0
  |cons c r=>exact ⟨c,r,rfl⟩
 cases h:headBytes.contains c with
 |false=>exact begins_other s c r w hl h
 |true=>
  have hm:c=0∨c=92∨c=38∨c=96∨c=60∨c=42∨c=95∨c=33∨c=91∨c=93∨c=32∨c=10:=by
   simpa [headBytes]using h
  rcases hm with h|h|h|h|h|h|h|h|h|h|h|h
  ·exact begins_sub s c r w hE hl hs (Or.inl h)
  ·exact begins_sub s c r w hE hl hs (Or.inr (Or.inl h))
  ·subst h;exact begins_amp s r w hE hl hs
  ·exact begins_sub s c r w hE hl hs (Or.inr (Or.inr (Or.inl h)))
  ·exact begins_sub s c r w hE hl hs (Or.inr (Or.inr (Or.inr h)))
  ·exact begins_run s c r w hl hs (Or.inl h)
  ·exact begins_run s c r w hl hs (Or.inr h)
  ·exact begins_mark s c r w hl hs (Or.inl h)
  ·exact begins_mark s c r w hl hs (Or.inr (Or.inl h))
  ·exact begins_mark s c r w hl hs (Or.inr (Or.inr h))
  ·exact begins_blank s c r w hl hs (Or.inl h)
  ·exact begins_blank s c r w hl hs (Or.inr h)
theorem ret_next {r:Tok×Nat} {t:Tok} {m i:Nat} {v:Value} {n:Int} (h:r=(t,m)) (hv:v=t.val) (hn:n=((i+m:Nat):Int)):Ending.returned (.tuple #[v,.int .i64 n])=.returned (.tuple #[r.1.val,.int .i64 ((i+r.2:Nat):Int)]):=by
 rw [h,hv,hn]
theorem ret_nextw {r:Tok×Nat} {l:List UInt8} {X:ByteArray} {m i:Nat} {n:Int} (h:r=(.word l,m)) (hX:X.data.toList=l) (hn:n=((i+m:Nat):Int)):Ending.returned (.tuple #[.iface 198 (.string X),.int .i64 n])=.returned (.tuple #[r.1.val,.int .i64 ((i+r.2:Nat):Int)]):=by
 refine ret_next h ?_ hn;rw [ba_of hX];rfl
set_option maxHeartbeats 2000000 in
theorem next_tok (s:ByteArray) (i:Nat) (w:World) (hE:Env w) (hi:i<s.size) (hs:s.size≤1000000):
  Calls Tryz.prog 119 #[.string s,.int .i64 i] w fun e w'=>e=.returned (.tuple #[(nextL (s.data.toList.drop i)).1.val,.int .i64 ((i+(nextL (s.data.toList.drop i)).2:Nat):Int)])∧Below w.heap.size w w':=by
 have hi':(i:Int)<(s.size:Int):=(by omega);have hi2:¬(s.size:Int)≤(i:Int):=(by omega);obtain ⟨S,hS⟩:∃S,s.extract i s.size=S:=⟨_,rfl⟩
 have hSl:S.data.toList=s.data.toList.drop i:=(by rw [←hS,tail_list]);have hSz:S.size=s.size - i:=(by rw [←hS,tail_size]);have hS1:1≤S.size:=(by omega);have hS2:S.size+i≤s.size:=(by omega);have hS3:s.size≤S.size+i:=(by omega);clear hSz;have hb:=fun W hW=>begins_tok S W hW (by omega) (by omega);rw [hSl]at hb
 have hN:nextL (s.data.toList.drop i)=match beginsL (s.data.toList.drop i)with
  |some r=>r
  |none=>(.word ((s.data.toList.drop i).take (plainTo (s.data.toList.drop i))),plainTo (s.data.toList.drop i)):=rfl
 cases hbo:beginsL (s.data.toList.drop i)with
 |none=>
  rw [hbo]at hb hN;simp only at hN;simp only [tokVal,tokLen]at hb;have hx:=fun W=>indexAny_any (S.extract 1 S.size) W (by rw [tail_size];omega);rw [tail_list,hSl]at hx;have hlt:=indexAny_lt specialL ((s.data.toList.drop i).drop 1);have hP:plainTo (s.data.toList.drop i)=if 0≤Lib.indexAny ((s.data.toList.drop i).drop 1) specialL then 1+(Lib.indexAny ((s.data.toList.drop i).drop 1) specialL).toNat else (s.data.toList.drop i).length:=rfl;obtain ⟨k,hk⟩:∃k,Lib.indexAny ((s.data.toList.drop i).drop 1) specialL=k:=⟨_,rfl⟩
  rw [hk]at hx hlt hP;rw [←hSl,←Lib.size_eq]at hP;have HB:=Lib.hid hb;have HX:=Lib.hid hx;have HE:=Lib.hid hE;have HSL:=Lib.hid hSl;clear hb hx hE hk hbo;by_cases hk0:0≤k
  ·rw [if_pos hk0]at hP;obtain ⟨K,rfl⟩:∃K:Nat,k=K:=⟨k.toNat,by omega⟩
   have hlt:=hlt hk0;rw [List.length_drop,←hSl,←Lib.size_eq,Int.toNat_natCast]at hlt;rw [Int.toNat_natCast,hSl]at hP;rw [hP]at hN;have HN:=Lib.hid hN;have hK1:(1:Int)+(K:Int)≤(S.size:Int):=(by omega);clear hN hP hSl;go_enter Tryz.func119,Tryz.ntmps119
   go_wp2_with fail;refine (HB.out _ HE.out).mono ?_;rintro e w2 ⟨rfl,b2⟩;go_wp2_with fail;refine (HX.out _).mono ?_;rintro e w3 ⟨rfl,b3⟩;have B3:=below_step b2 b3;go_wp2_with fail
   go_ret2
   exact ⟨ret_nextw HN.out (by rw [Lib.extract_data,HSL.out];simp) (by omega),B3⟩
  ·rw [if_neg hk0,hSl]at hP;rw [hP,←hSl]at hN;have HN:=Lib.hid hN;clear hN hP hSl hlt;go_enter Tryz.func119,Tryz.ntmps119
   go_wp2_with fail;refine (HB.out _ HE.out).mono ?_;rintro e w2 ⟨rfl,b2⟩;go_wp2_with fail;refine (HX.out _).mono ?_;rintro e w3 ⟨rfl,b3⟩;have B3:=below_step b2 b3;go_wp2_with fail
   go_ret2
   exact ⟨ret_nextw (l:=S.data.toList.take S.size) (m:=S.size) (X:=S) (by rw [←HSL.out];exact HN.out) (take_all S).symm (by omega),B3⟩
 |some r=>
  obtain ⟨t,n⟩:=r;rw [hbo]at hb hN;simp only at hN;simp only [tokVal,tokLen]at hb;obtain ⟨hpos,hsafe⟩:=begins_le hbo;rw [List.length_drop,←Lib.size_eq]at hsafe;have HB:=Lib.hid hb;have HN:=Lib.hid hN;have HE:=Lib.hid hE;have hn0:(0:Int)<(n:Int):=(by omega);clear hb hN hE hbo hSl;go_enter Tryz.func119,Tryz.ntmps119
  go_wp2_with fail;refine (HB.out _ HE.out).mono ?_;rintro e w2 ⟨rfl,b2⟩;go_wp2_with fail
  go_ret2
  exact ⟨ret_next HN.out rfl (by omega),b2⟩
end Go.Proofs.YtkphljggkajlkaaGreatDoor
namespace Go.Proofs.YtkphljggkajlkaaGreatDoor
open Go.RowKit
set_option maxRecDepth 100000
theorem tb_Word_Atom (v:Value) (W:World):(Instr.typeAssert (.iface 198 v) 20 186 true).run Tryz.prog W=.ok (.tuple #[.agg #[.int .i64 0],.bool false]) W:=by kernel_rfl
theorem tb_Atom_Atom (v:Value) (W:World):(Instr.typeAssert (.iface 186 v) 20 186 true).run Tryz.prog W=.ok (.tuple #[v,.bool true]) W:=by kernel_rfl
end Go.Proofs.YtkphljggkajlkaaGreatDoor
namespace Go.Proofs.YtkphljggkajlkaaGreatDoor
open Go.RowKit
set_option maxRecDepth 100000
set_option linter.unusedVariables false
set_option linter.unusedSimpArgs false
theorem getElem?_ex {α:Type} (l:List α) (k:Nat) (h:k<l.length):∃x,l[k]? =some x:=⟨l[k],by simp [h]⟩
def atomCells (x:AtomT):List Value:=[.string ⟨x.label.toArray⟩,.string ⟨x.text.toArray⟩]
theorem atom_len (x:AtomT):(atomCells x).length=2:=rfl
theorem RowR.atm {w:World} {g o n:Nat} {l:List AtomT} (h:RowR w 2 (some ⟨g,o,none⟩) n (l.flatMap atomCells)) (k:Nat) (x:AtomT) (hk:l[k]? =some x):
  w.cell? ⟨g,o+k*2,none⟩=some (.string ⟨x.label.toArray⟩)∧w.cell? ⟨g,o+k*2+1,none⟩=some (.string ⟨x.text.toArray⟩):=
 ⟨h.cell atom_len k 0 x _ hk (by omega) rfl,h.cell atom_len k 1 x _ hk (by omega) rfl⟩
set_option maxHeartbeats 4000000 in
theorem restore_any (s:ByteArray) (ao:Option Addr) (cap:Nat) (ts:List AtomT) (w:World) (hE:Env w) (hR:0<ts.length→RowR w 2 ao ts.length (ts.flatMap atomCells)) (hs:s.size≤1000000) (hT:∀a∈ts,a.text.length≤1000000):
  Calls Tryz.prog 93 #[.string s,.slice ao ts.length cap] w fun e w'=>e=.returned (.string ⟨(restoreL s.data.toList ts).toArray⟩)∧Below w.heap.size w w':=by
 have HR:=Lib.hid hR;have HE:=Lib.hid hE;have HT:=Lib.hid hT;obtain ⟨R,hRR⟩:∃R,restoreL s.data.toList ts=R:=⟨_,rfl⟩
 have hRl:R.length≤1000001000000:=by
  have h:=restore_len 1000000 ts hT (s.data.toList.length+1) s.data.toList;rw [←hRR];have h2:=Nat.mul_le_mul_right (1000000+1) (show s.data.toList.length≤1000000 by rw [←Lib.size_eq];exact hs);unfold restoreL;omega
 rw [hRR];have HRR:=Lib.hid hRR;clear hR hE hT hRR;go_enter Tryz.func93,Tryz.ntmps93
 go_wp2_with fail;go_loopw [6] (fun u6 wr=>∃(i:Nat) (acc:List UInt8),i≤s.size∧u6=.int .i64 i∧Lib.IsBuilderF 115 5 w.heap.size w.heap.size (Lib.byteCells acc) wr∧Below w.heap.size w wr∧acc++restoreL (s.data.toList.drop i) ts=R) (fun u6 _=>s.size - (intOf u6).toNat)
 case atStart=>exact ⟨0,[],Nat.zero_le _,rfl,Lib.IsBuilderF.of (Lib.fresh_isBuilder 115 5 w),(Below.refl _ _).alloc (Nat.le_refl _) _,by rw [List.drop_zero,List.nil_append];exact HRR.out⟩
 case round=>
  obtain ⟨i,acc,hi,rfl,hI,hB,hacc⟩:=hrel;have hal:acc.length≤1000001000000:=by
   rw [←hacc,List.length_append]at hRl;omega
  by_cases hlt:i<s.size
  ·have hg:=Lib.data_getElem? s i hlt;obtain ⟨c,hc⟩:∃c,s[i]=c:=⟨_,rfl⟩
   rw [hc]at hg;have hdr:s.data.toList.drop i=c::s.data.toList.drop (i+1):=by
    obtain ⟨h1,h2⟩:=List.getElem?_eq_some_iff.1 hg;rw [←h2,List.getElem_cons_drop]
   clear hg;by_cases h0:c=0
   ·have k0:((c.toNat:Int)==0)=true:=(by rw [h0];rfl);have hnt:=next_tok s i wr (HE.out.below hB) hlt hs;have hdl:(s.data.toList.drop i).length=s.size - i:=(by rw [List.length_drop,←Lib.size_eq]);rw [hdr,h0]at hnt hacc hdl;rcases next_zero (s.data.toList.drop (i+1))with ⟨n,m,hn,hm0,hml⟩|⟨x,m,hn⟩
    ·rw [hn]at hnt;rw [restore_atom hn,←h0,←hdr,List.drop_drop]at hacc;simp only [Tok.val]at hnt;have him:i+m≤s.size:=(by omega);have HNT:=Lib.hid hnt;have HACC:=Lib.hid hacc;have q:=tb_Atom_Atom;clear hnt hacc hn hdr h0 hdl hml;go_wp2_with fail;refine HNT.out.mono ?_;rintro e w2 ⟨rfl,b2⟩;have hB2:=below_step hB b2;have hI2:=bld_below hI b2;have b3:Below w2.heap.size w2 (w2.alloc (.cells #[.int .i64 n] 186)):=(Below.refl _ _).alloc (Nat.le_refl _) _;have hB3:=below_step hB2 b3;have hI3:=bld_below hI2 b3;clear hI hI2 hB b2 b3 HNT;by_cases hnl:n<ts.length
     ·obtain ⟨a,ha⟩:=getElem?_ex ts n hnl;obtain ⟨g,o,rfl⟩:=(HR.out (by omega)).addr (by omega);obtain ⟨a0,a1⟩:=((HR.out (by omega)).below hB3).atm n a ha;have hnI:(n:Int)<(ts.length:Int):=(by omega);have hat:atomText ts n=a.text:=(by unfold atomText;rw [ha]);have hatl:=HT.out a (List.mem_of_getElem? ha);have HN:=Lib.hid (show (acc++a.text)++restoreL (s.data.toList.drop (i+m)) ts=R by rw [←HACC.out,hat,List.append_assoc]);clear HACC hat ha a0;go_wp2_with fail;refine (bld_string w.heap.size w.heap.size _ ⟨a.text.toArray⟩ _ hI3 (by rw [Lib.byteCells_length,Lib.size_eq];simp only;omega) hB3.size).mono ?_;rintro e w3 ⟨rfl,h3,hb3,k3⟩;have hB4:=hB3.trans hb3;have HA:=Lib.hid (show Lib.IsBuilderF 115 5 w.heap.size w.heap.size (Lib.byteCells (acc++a.text)) w3 by rw [Lib.byteCells_append];exact Or.inr h3);go_wp2_with fail;go_roundw;case rel=>exact ⟨i+m,acc++a.text,by omega,by go_num,HA.out,hB4,HN.out⟩
      case measure=>simp [intOf];omega
     ·have hnI:¬(n:Int)<(ts.length:Int):=(by omega);have hat:atomText ts n=[]:=(by unfold atomText;rw [List.getElem?_eq_none (by omega)]);have HN:=Lib.hid (show acc++restoreL (s.data.toList.drop (i+m)) ts=R by rw [←HACC.out,hat,List.nil_append]);have HA:=Lib.hid hI3;clear HACC hat;go_wp2_with fail;go_roundw;case rel=>exact ⟨i+m,acc,by omega,by go_num,HA.out,hB3,HN.out⟩
      case measure=>simp [intOf];omega
    ·rw [hn]at hnt;rw [restore_word hn]at hacc;simp only [Tok.val]at hnt;have HNT:=Lib.hid hnt;have HN:=Lib.hid (show (acc++[c])++restoreL (s.data.toList.drop (i+1)) ts=R by rw [h0,←hacc];simp);have q:=tb_Word_Atom;clear hnt hacc hn hdr h0 hdl;go_wp2_with fail;refine HNT.out.mono ?_;rintro e w2 ⟨rfl,b2⟩;have hB2:=below_step hB b2;have hI2:=bld_below hI b2;have b3:Below w2.heap.size w2 (w2.alloc (.cells #[.int .i64 0] 186)):=(Below.refl _ _).alloc (Nat.le_refl _) _;have hB3:=below_step hB2 b3;have hI3:=bld_below hI2 b3;clear hI hI2 hB b2 b3 HNT;go_wp2_with fail;refine (bld_byte w.heap.size w.heap.size _ (c.toNat:Int) _ hI3 (by rw [Lib.byteCells_length];omega) (hB3).size).mono ?_;rintro e w3 ⟨rfl,h3,hb3,k3⟩;have hB3:=(hB3).trans hb3;have HA:=Lib.hid (show Lib.IsBuilderF 115 5 w.heap.size w.heap.size (Lib.byteCells (acc++[c])) w3 by rw [Lib.byteCells_append];exact Or.inr h3);go_wp2_with fail;go_roundw;case rel=>exact ⟨i+1,acc++[c],by omega,by go_num,HA.out,hB3,HN.out⟩
     case measure=>simp [intOf];omega
   ·have k0:((c.toNat:Int)==0)=false:=by
     have:c.toNat≠0:=fun h=>h0 (UInt8.toNat_inj.1 h);simp;omega
    rw [hdr,restore_cons h0]at hacc;have HN:=Lib.hid (show (acc++[c])++restoreL (s.data.toList.drop (i+1)) ts=R by rw [←hacc];simp);clear hacc hdr h0;go_wp2_with fail;refine (bld_byte w.heap.size w.heap.size _ (c.toNat:Int) _ hI (by rw [Lib.byteCells_length];omega) (hB).size).mono ?_;rintro e w3 ⟨rfl,h3,hb3,k3⟩;have hB3:=(hB).trans hb3;have HA:=Lib.hid (show Lib.IsBuilderF 115 5 w.heap.size w.heap.size (Lib.byteCells (acc++[c])) w3 by rw [Lib.byteCells_append];exact Or.inr h3);go_wp2_with fail;go_roundw;case rel=>exact ⟨i+1,acc++[c],by omega,by go_num,HA.out,hB3,HN.out⟩
    case measure=>simp [intOf];omega
  ·obtain rfl:i=s.size:=(by omega);have hd0:s.data.toList.drop s.size=[]:=(by rw [Lib.size_eq,List.drop_length]);rw [hd0,restore_nil,List.append_nil]at hacc;subst hacc;have HI:=Lib.hid hI;clear hI hd0;go_wp2_with fail;refine (Tryz.Builder_String_any_k w.heap.size w.heap.size _ wr HI.out hB.size).mono ?_;rintro e w2 ⟨rfl,_,hb2,_⟩;go_wp2_with fail;go_ret;exact ⟨rfl,hB.trans hb2⟩
end Go.Proofs.YtkphljggkajlkaaGreatDoor
