import Derived.Test.YtoccgnleiekomaaGreatDoorVwBZ
set_option linter.unusedVariables false
set_option linter.unusedSimpArgs false
namespace Go.Proofs.YtoccgnleiekomaaGreatDoor
open Go.RowKit
set_option maxRecDepth 100000
set_option linter.unusedVariables false
set_option linter.unusedSimpArgs false
theorem among_run (set:List UInt8):∀(a b:List UInt8),(∀x∈a,set.contains x=true)→amongL (a++b) set=a.length+amongL b set
 |[],b,_=>by simp
 |c::a,b,h=>by
  rw [List.cons_append,among_cons,if_pos (h c (List.mem_cons_self ..)),among_run set a b (fun x hx=>h x (List.mem_cons_of_mem _ hx)),List.length_cons];omega
theorem among_stop (set:List UInt8) (c:UInt8) (b:List UInt8) (h:set.contains c=false):amongL (c::b) set=0:=by rw [among_cons,h];rfl
theorem among_to (set a:List UInt8) (c:UInt8) (b:List UInt8) (ha:∀x∈a,set.contains x=true) (hc:set.contains c=false):amongL (a++c::b) set=a.length:=by
 rw [among_run set a _ ha,among_stop set c b hc];omega
theorem all_cons (f:Nat) (s:List UInt8) (t:Tok) (n:Nat) (hs:s≠[]) (h:nextL s=(t,n)):allL (f+1) s=t::allL f (s.drop n):=by
 rw [allL,if_neg hs,h]
end Go.Proofs.YtoccgnleiekomaaGreatDoor
namespace Go.Proofs.YtoccgnleiekomaaGreatDoor
open Go.RowKit
set_option linter.unusedVariables false
set_option linter.unusedSimpArgs false
def W (x:List UInt8):IItem:=⟨0,0,false,false,[wordsI x]⟩
def lineB (b:UInt8):Bool:=(97≤b&&b≤122)||b==46
def Lined (l:List UInt8):Prop:=l≠[]∧∀b∈l,lineB b=true
theorem lineB_no:∀b:UInt8,lineB b=true→specialL.contains b=false∧([32,9]:List UInt8).contains b=false:=
 fun b=>allB (p:=fun b=>lineB b=true→specialL.contains b=false∧([32,9]:List UInt8).contains b=false) (by unfold AllB;decide+kernel) b
theorem Lined.word {l:List UInt8} (h:Lined l):∀b∈l,specialL.contains b=false:=fun b hb=>(lineB_no b (h.2 b hb)).1
def N (x:Inl):IItem:=⟨0,0,false,false,[x]⟩
def NoSpan (l:List Inl):Prop:=∀x∈l,x.kind≠12
theorem NoSpan.nil:NoSpan []:=fun x h=>by cases h
theorem NoSpan.append {a b:List Inl} (ha:NoSpan a) (hb:NoSpan b):NoSpan (a++b):=fun x h=>by
 rcases List.mem_append.1 h with h|h
 ·exact ha x h
 ·exact hb x h
theorem NoSpan.cons {x:Inl} {l:List Inl} (hx:x.kind≠12) (hl:NoSpan l):NoSpan (x::l):=fun y h=>by
 rcases List.mem_cons.1 h with rfl|h
 ·exact hx
 ·exact hl y h
theorem NoSpan.deeper {l:List Inl} (h:NoSpan l):NoSpan (deeperL l):=fun x hx=>by
 obtain ⟨y,hy,rfl⟩:=List.mem_map.1 hx;exact h y hy
theorem NoSpan.words (l:List UInt8):NoSpan [wordsI l]:=fun x h=>by rw [List.mem_singleton.1 h];simp [wordsI]
def shiftL (d:Nat) (l:List Inl):List Inl:=l.map fun x=>{x with depth:=x.depth+d}
theorem shift_deeper (d:Nat) (l:List Inl):deeperL (shiftL d l)=shiftL (d+1) l:=by
 unfold deeperL shiftL;rw [List.map_map];rfl
theorem deeper_append (a b:List Inl):deeperL (a++b)=deeperL a++deeperL b:=List.map_append ..
def InAt (blk:List Inl) (d:Nat) (L:List Inl):Prop:=∃A B,L=A++(shiftL d blk++B)∧NoSpan A∧NoSpan B∧∀x,B.head? =some x→x.depth≤d
def Lies (blk:List Inl) (L:List Inl):Prop:=∃d,InAt blk d L
theorem Lies.deeper {blk L:List Inl} (h:Lies blk L) {x:Inl} (hx:x.kind≠12):Lies blk (x::deeperL L):=by
 obtain ⟨d,A,B,rfl,hA,hB,hh⟩:=h;refine ⟨d+1,x::deeperL A,deeperL B,?_,NoSpan.cons hx hA.deeper,hB.deeper,fun y hy=>?_⟩
 ·rw [deeper_append,deeper_append,shift_deeper];rfl
 ·cases B with
  |nil=>cases hy
  |cons z B=>
   have:=hh z rfl;simp [deeperL]at hy;rw [←hy];exact Nat.succ_le_succ this
theorem Lies.behind {blk L M:List Inl} (h:Lies blk L) (hM:NoSpan M) (hN:Nest M):Lies blk (L++M):=by
 obtain ⟨d,A,B,rfl,hA,hB,hh⟩:=h;refine ⟨d,A,B++M,by simp,hA,hB.append hM,fun y hy=>?_⟩;cases B with
 |nil=>have:=hN.head y hy;omega
 |cons z B=>exact hh y hy
theorem Lies.ahead {blk L M:List Inl} (h:Lies blk L) (hM:NoSpan M):Lies blk (M++L):=by
 obtain ⟨d,A,B,rfl,hA,hB,hh⟩:=h;exact ⟨d,M++A,B,by simp,hM.append hA,hB,hh⟩
def NS (l:List Piece):Prop:=∀y∈l,NoSpan y.it.l
def One (blk:List Inl):List Piece→Prop
 |[]=>False
 |x::l=>(x.it.sign=0∧Lies blk x.it.l∧NS l)∨(NoSpan x.it.l∧One blk l)
theorem NS.append {a b:List Piece}:NS (a++b)↔NS a∧NS b:=by
 constructor
 ·intro h;exact ⟨fun y hy=>h y (List.mem_append_left _ hy),fun y hy=>h y (List.mem_append_right _ hy)⟩
 ·rintro ⟨h1,h2⟩ y hy;rcases List.mem_append.1 hy with hy|hy
  ·exact h1 y hy
  ·exact h2 y hy
theorem NS.cons {x:Piece} {l:List Piece}:NS (x::l)↔NoSpan x.it.l∧NS l:=by
 constructor
 ·intro h;exact ⟨h x (List.mem_cons_self ..),fun y hy=>h y (List.mem_cons_of_mem _ hy)⟩
 ·rintro ⟨h1,h2⟩ y hy;rcases List.mem_cons.1 hy with rfl|hy
  ·exact h1
  ·exact h2 y hy
theorem One.append {blk:List Inl}:∀{a b:List Piece},One blk (a++b)↔(One blk a∧NS b)∨(NS a∧One blk b)
 |[],b=>by simp [One,NS]
 |x::a,b=>by
  rw [List.cons_append,One,One,One.append (a:=a) (b:=b),NS.append,NS.cons];constructor
  ·rintro (⟨h1,h2,h3,h4⟩|⟨h1,⟨h2,h3⟩|⟨h2,h3⟩⟩)
   ·exact Or.inl ⟨Or.inl ⟨h1,h2,h3⟩,h4⟩
   ·exact Or.inl ⟨Or.inr ⟨h1,h2⟩,h3⟩
   ·exact Or.inr ⟨⟨h1,h2⟩,h3⟩
  ·rintro (⟨⟨h1,h2,h3⟩|⟨h1,h2⟩,h4⟩|⟨⟨h1,h2⟩,h3⟩)
   ·exact Or.inl ⟨h1,h2,h3,h4⟩
   ·exact Or.inr ⟨h1,Or.inl ⟨h2,h4⟩⟩
   ·exact Or.inr ⟨h1,Or.inr ⟨h2,h3⟩⟩
theorem One.sign {blk:List Inl} {x:Piece} {l:List Piece} (h:x.it.sign≠0):One blk (x::l)↔NoSpan x.it.l∧One blk l:=by
 rw [One];constructor
 ·rintro (⟨h1,_⟩|h1)
  ·exact absurd h1 h
  ·exact h1
 ·exact Or.inr
end Go.Proofs.YtoccgnleiekomaaGreatDoor
namespace Go.Proofs.YtoccgnleiekomaaGreatDoor
set_option linter.unusedVariables false
set_option linter.unusedSimpArgs false
theorem restore_app (ts:List AtomT) (y:List UInt8):∀(a:List UInt8),(0:UInt8)∉a→restoreL (a++y) ts=a++restoreL y ts
 |[],_=>rfl
 |c::a,h=>by
  rw [List.cons_append,restore_cons (fun e=>h (by rw [e];exact List.mem_cons_self ..)),restore_app ts y a (fun e=>h (List.mem_cons_of_mem _ e))];rfl
theorem next_digit (k:Fin 10) (c:List UInt8):nextL (0::UInt8.ofNat (48+k.val)::0::c)=(.atom k.val,3):=by
 have hd:∀k:Fin 10,∀x∈[UInt8.ofNat (48+k.val)],digitsL.contains x=true:=(by decide);have hv:∀k:Fin 10,numOf [UInt8.ofNat (48+k.val)]=k.val:=(by decide);have ha:amongL (UInt8.ofNat (48+k.val)::0::c) digitsL=1:=among_to digitsL [UInt8.ofNat (48+k.val)] 0 c (hd k) (by decide);have hb:beginsL (0::UInt8.ofNat (48+k.val)::0::c)=some (.atom k.val,3):=by
  show atomL (0::UInt8.ofNat (48+k.val)::0::c)=_;unfold atomL;rw [List.drop_succ_cons,List.drop_zero,ha,if_neg (by decide)];have h9:=hv k;simp at h9⊢;exact h9
 unfold nextL;rw [hb]
theorem restore_digit (k:Fin 10) (c:List UInt8) (ts:List AtomT):restoreL (0::UInt8.ofNat (48+k.val)::0::c) ts=atomText ts k.val++restoreL c ts:=by
 rw [restore_atom (next_digit k c)];rfl
def zeroT:List UInt8:=[122,101,114,111]
theorem restores_law (a b inn:List UInt8) (ha:(0:UInt8)∉a) (hb:(0:UInt8)∉b):
  restoreL (a++b) [⟨[],zeroT⟩,⟨[],inn⟩]=a++b∧
  restoreL (a++0::49::0::b) [⟨[],zeroT⟩,⟨[],inn⟩]=a++(inn++b)∧
  restoreL (a++0::55::0::b) [⟨[],zeroT⟩,⟨[],inn⟩]=a++b∧
  restoreL (a++0::48::0::0::49::0::[]) [⟨[],zeroT⟩,⟨[],inn⟩]=a++(zeroT++inn):=by
 have e1:=fun c ts=>restore_digit 1 c ts;have e7:=fun c ts=>restore_digit 7 c ts;have e0:=fun c ts=>restore_digit 0 c ts;have v1:UInt8.ofNat (48+(1:Fin 10).val)=49:=(by decide);have v7:UInt8.ofNat (48+(7:Fin 10).val)=55:=(by decide);have v0:UInt8.ofNat (48+(0:Fin 10).val)=48:=(by decide);rw [v1]at e1;rw [v7]at e7;rw [v0]at e0;refine ⟨?_,?_,?_,?_⟩
 ·rw [restore_app _ _ _ ha,restore_zero _ _ hb]
 ·rw [restore_app _ _ _ ha,e1,restore_zero _ _ hb];rfl
 ·rw [restore_app _ _ _ ha,e7,restore_zero _ _ hb];rfl
 ·rw [restore_app _ _ _ ha,e0,e1,restore_nil];simp [atomText]
end Go.Proofs.YtoccgnleiekomaaGreatDoor
