import Derived.Test.YtcannffahjbjnaaGreatDoorVwBV
set_option linter.unusedVariables false
set_option linter.unusedSimpArgs false
set_option maxRecDepth 100000
set_option maxHeartbeats 64000000
namespace Go.Proofs.YtcannffahjbjnaaGreatDoor
open Go.RowKit
theorem de.heap' {B b sb:Nat} {w w':World} {V:dY} {st:am} (h:de B b sb w V st) (hk:∀k,k=b∨V.owns k ->w'.heap[k]? =w.heap[k]?):de B b sb w' V st:=
 ⟨(hk b (Or.inl rfl)).trans h.heap,eh h.bl fun g hg=>hk g (Or.inr (Or.inl hg.symm)),eh h.at' fun g hg=>hk g (Or.inr (Or.inr (Or.inl hg.symm))),eh h.df fun g hg=>hk g (Or.inr (Or.inr (Or.inr (Or.inl hg.symm)))),
  eh h.dg fun g hg=>hk g (Or.inr (Or.inr (Or.inr (Or.inr (Or.inl hg.symm))))),eh h.tb fun g hg=>hk g (Or.inr (Or.inr (Or.inr (Or.inr (Or.inr hg.symm))))),h.ap,h.base⟩
structure jM (B b sb:Nat) (w:World) (V:dY) (ov:Value) (m:Nat) (old:List aI) (wr:World) (V':dY) (st':am):Prop where
 bd:de B b sb wr V' st'
 bk:BK B b V w wr
 nw:V.newer V' w.heap.size
 ow:wr.ownsRow 0 45 6 ov m (old.flatMap bS)
 off:DW V' b ov
theorem jM.below {B b sb:Nat} {w:World} {V:dY} {ov:Value} {m:Nat} {old:List aI} {wr w2:World} {V':dY} {st':am} (h:jM B b sb w V ov m old wr V' st') (hb:Below wr.heap.size wr w2) (hB:B <= w.heap.size):jM B b sb w V ov m old w2 V' st':=
 ⟨h.bd.below hb,h.bk.step (hb.mono h.bk.below.size) hB,h.nw,ae h.ow hb,h.off⟩
theorem jM.told {B b sb:Nat} {w:World} {V:dY} {ov:Value} {m:Nat} {old:List aI} {wr w2:World} {V':dY} {st' st2:am} (h:jM B b sb w V ov m old wr V' st') (hp:d7 B b sb wr V' st2 w2):∃V2,jM B b sb w V ov m old w2 V2 st2∧V'.newer V2 wr.heap.size∧BK B b V' wr w2:=by
 obtain ⟨V2,q1,q2,q3⟩:=hp;refine ⟨V2,⟨q1,h.bk.trans h.nw q2,fun k hk=>?_,B9 h.ow h.off q2,h.off.step h.ow q3⟩,q3,q2⟩;rcases q3 k hk with e|e
 ·exact h.nw k e
 ·exact Or.inr (Nat.le_trans h.bk.below.size e)
theorem jM.store {B b sb:Nat} {w:World} {V:dY} {ov:Value} {m:Nat} {old:List aI} {wr:World} {V':dY} {st':am} (h:jM B b sb w V ov m old wr V' st') (hB:B <= w.heap.size) {K:Nat} (hK:w.heap.size <= K) (hb:K≠b) (ho:¬V'.owns K) (hv:some K≠ov.ownBlock) (j:Nat) (u:Value):jM B b sb w V ov m old (wr.setCell ⟨K,j,none⟩ u) V' st':=by
 have hk:∀k,k≠K ->(wr.setCell ⟨K,j,none⟩ u).heap[k]? =wr.heap[k]? :=fun k hk=>Below.heap_setCell _ ⟨K,j,none⟩ _ _ hk;refine ⟨h.bd.heap' fun k hk2=>hk k (fun e=>?_),h.bk.step ((Below.refl w.heap.size wr).setCell (p:=⟨K,j,none⟩) hK u) hB,h.nw,eh h.ow fun g hg=>hk g (fun e=>?_),h.off⟩
 ·subst e;rcases hk2 with e|e
  ·exact hb e
  ·exact ho e
 ·subst e;exact hv hg.symm
structure vP (M Z Tx m:Nat) (old:List aI) (R:am) (i:Nat) (st':am):Prop where
 fo:(old.drop i).foldl cK st'=R
 nb:st'.blocks.length <= i
 mt:∀a∈st'.atoms,a.text.length <= M
 na:st'.atoms.length <= 1000000000
 nd:st'.defs.length+(m - i)*Tx <= 1000000000000
 nt:st'.tab.length+(m - i)*Tx <= 1000000000000
 ng:st'.diags.length+(m - i)*Tx <= 1000000000000
theorem yA (b:am) (x:aI):nK {b with blocks:=(cK b x).blocks} (cK b x) x.text.length∧(cK b x).blocks.length <= b.blocks.length+1:=by
 unfold cK;split
 ·have h:=(pu (x.text.length+1) b x.text).1
  dsimp only
  split
  ·exact ⟨⟨rfl,h.at',h.nd,h.nt,h.ng⟩,by rw [h.bl];omega⟩
  ·exact ⟨⟨rfl,h.at',h.nd,h.nt,h.ng⟩,by simp [h.bl]⟩
 ·split
  ·exact ⟨⟨rfl,rfl,by simp,by simp,by simp⟩,by simp⟩
  ·exact ⟨⟨rfl,rfl,by simp,by simp,by simp⟩,by simp⟩
theorem vP.next {M Z Tx m:Nat} {old:List aI} {R:am} {i:Nat} {st':am} (h:vP M Z Tx m old R i st') (x:aI) (hx:old[i]? =some x) (hm:old.length=m) (ht:x.text.length <= Tx):vP M Z Tx m old R (i+1) (cK st' x)∧st'.defs.length+Tx <= 1000000000000∧st'.tab.length+Tx <= 1000000000000∧st'.diags.length+Tx <= 1000000000000:=by
 obtain ⟨h1,h2,h3,h4,h5,h6,h7⟩:=h;obtain ⟨s,s2⟩:=yA st' x;have hi:i<m:=(by rw [<- hm];exact (List.getElem?_eq_some_iff.1 hx).1);have hmi:(m - i)*Tx=(m - (i+1))*Tx+Tx:=(by rw [show m - i=(m - (i+1))+1 by omega,Nat.succ_mul]);have e1:=s.at';have e2:=s.nd;have e3:=s.nt;have e4:=s.ng;simp only at e1 e2 e3 e4;exact ⟨⟨by rw [<- h1,kN cK old i x st' hx],by omega,by rw [e1];exact h3,by rw [e1];exact h4,by omega,by omega,by omega⟩,by omega,by omega,by omega⟩
theorem Ap {b:am} {x:aI} (h:x.kind=1):cK b x=if (d6 (x.text.length+1) b x.text).1=[]then (d6 (x.text.length+1) b x.text).2 else {(d6 (x.text.length+1) b x.text).2 with blocks:=(d6 (x.text.length+1) b x.text).2.blocks++[{x with text:=(d6 (x.text.length+1) b x.text).1}]}:=by
 unfold cK;rw [if_pos h]
theorem Ao {b:am} {x:aI} (h:x.kind≠1) (h2:x.kind=6∨x.kind=8):cK b x={b with blocks:=b.blocks++[{x with text:=aG x.text b.atoms,info:=aG x.info b.atoms}]}:=by
 unfold cK;rw [if_neg h,if_pos h2]
theorem xB {b:am} {x:aI} (h:x.kind≠1) (h2:¬(x.kind=6∨x.kind=8)):cK b x={b with blocks:=b.blocks++[x]}:=by
 unfold cK;rw [if_neg h,if_neg h2]
end Go.Proofs.YtcannffahjbjnaaGreatDoor
namespace Go.Proofs.YtcannffahjbjnaaGreatDoor
def aS.le (z z':aS):Prop:=∀x,z.see1 x=true ->z'.see1 x=true
def gg (p:af):Nat:=p.depth+if p.div then 1 else 0
def fE:Nat ->List af ->Prop
 |_,[]=>True
 |T,p::l=>p.depth <= T∧fE (gg p) l
def eW (T:Nat) (l:List af):Nat:=(l.getLast?.map gg).getD T
theorem lS:∀(l:List af) (T:Nat) (p:af),fE T (l++[p])↔fE T l∧p.depth <= eW T l
 |[],T,p=>by simp [fE,eW]
 |a::l,T,p=>by
  rw [List.cons_append,fE,fE,lS l (gg a) p];have:eW (gg a) l=eW T (a::l):=by
   unfold eW;cases l with
   |nil=>rfl
   |cons b l=>
    rw [List.getLast?_cons_cons];cases h:(b::l).getLast? with
    |none=>simp at h
    |some c=>rfl
  rw [this,and_assoc]
theorem iZ (f:af ->af) (hf:∀p,(f p).depth=p.depth∧(f p).div=p.div):∀(l:List af) (i T:Nat),(fE T (l.modify i f)↔fE T l)∧eW T (l.modify i f)=eW T l
 |[],i,T=>by simp
 |a::l,0,T=>by
  have ht:gg (f a)=gg a:=(by unfold gg;rw [(hf a).1,(hf a).2]);constructor
  ·simp [fE,(hf a).1,ht]
  ·unfold eW;cases l with
   |nil=>simp [ht]
   |cons b l=>simp
 |a::l,i+1,T=>by
  obtain ⟨h1,h2⟩:=iZ f hf l i (gg a);constructor
  ·simp [fE,h1]
  ·unfold eW at h2⊢;cases l with
   |nil=>simp
   |cons b l=>
    have hm:∃c m,(b::l).modify i f=c::m:=(by cases i<;>simp);obtain ⟨c,m,hm⟩:=hm;simp only [List.modify_succ_cons,hm,List.getLast?_cons_cons]at h2⊢;cases hx:(c::m).getLast? with
    |none=>simp at hx
    |some x=>
     cases hy:(b::l).getLast? with
     |none=>simp at hy
     |some y=>rw [hx,hy]at h2;exact h2
structure C1 (st:eM):Prop where
 chain:fE 0 st.out
 top:st.inn.length <= eW 0 st.out
theorem m7 (T:Nat) (l:List af) (p:af):eW T (l++[p])=gg p:=by unfold eW;rw [List.getLast?_concat];rfl
theorem zn (st:eM) (s:List UInt8) (h:C1 st):C1 (ag st s):=by
 unfold ag;split
 ·refine ⟨(lS _ _ _).2 ⟨h.chain,h.top⟩,?_⟩;simp only;rw [m7];simp [gg]
 ·split
  ·obtain ⟨h1,h2⟩:=iZ (fun p=>{p with opn:=false}) (fun p=>⟨rfl,rfl⟩) st.out (st.inn.getLast?.getD 0) 0;refine ⟨h1.2 h.chain,?_⟩;simp only [h2,List.length_dropLast];have:=h.top;omega
  ·split
   ·obtain ⟨h1,h2⟩:=iZ (fun p=>{p with lines:=p.lines++[s]}) (fun p=>⟨rfl,rfl⟩) st.out (st.out.length - 1) 0;refine ⟨h1.2 h.chain,?_⟩;simp only [h2];exact h.top
   ·refine ⟨(lS _ _ _).2 ⟨h.chain,h.top⟩,?_⟩;simp only;rw [m7];simp [gg]
theorem uc (l:List (List UInt8)):fE 0 (bF l):=by
 have key:∀(l:List (List UInt8)) (st:eM),C1 st ->C1 (l.foldl ag st):=by
  intro l;induction l with
  |nil=>intro st h;exact h
  |cons s l ih=>intro st h;rw [List.foldl_cons];exact ih _ (zn st s h)
 exact (key l ⟨[],[],false⟩ ⟨trivial,Nat.le_refl _⟩).chain
end Go.Proofs.YtcannffahjbjnaaGreatDoor
namespace Go.Proofs.YtcannffahjbjnaaGreatDoor
open Go.RowKit
theorem tl:∀(f:Nat) (s:List UInt8) (i:Nat),s.length <= i ->bQ f s i=[]
 |0,_,_,_=>rfl
 |f+1,s,i,h=>by rw [bQ,if_pos h]
theorem rh {f:Nat} {s:List UInt8} {i r n:Nat} (h:i<s.length) (hd:Lib.decodeL (s.drop i)=(r,n)) (x:List UInt8)
  (hx:(if r=0∨r=65533 then iW else if r=13 then [10]else if r=10∧0<i∧s[i - 1]? =some 13 then []else Lib.encodeRune (r:Int))=x):bQ (f+1) s i=x++bQ f s (i+n):=by
 rw [bQ,if_neg (by omega),hd];simp only;rw [hx]
def D2 (s:ByteArray) (R:List UInt8) (w:World) (pos:Nat) (wr:World):Prop:=
 ∃(f:Nat) (acc:List UInt8),Lib.IsBuilderF 112 5 w.heap.size w.heap.size (Lib.byteCells acc) wr∧wr.heap[w.heap.size+1]? =some (.stringIter s pos)∧Below w.heap.size w wr∧acc++bQ f s.data.toList pos=R∧s.size <= pos+f∧acc.length <= 4*pos
theorem qA (s:ByteArray) (w:World) (hs:s.size <= 1000000000):
  Calls Tryz.prog 18 #[.string s] w fun e w'=>e=.returned (.string ⟨(aR s.data.toList).toArray⟩)∧Below w.heap.size w w':=by
 obtain ⟨R,hR⟩:∃R,aR s.data.toList=R:=⟨_,rfl⟩
 rw [hR];have HR:=zh hR;clear hR;go_enter Tryz.func18,Tryz.ntmps18
 go_wp2_with fail;go_loopw [] (fun wr=>∃pos,D2 s R w pos wr) (fun wr=>s.size - wr.iterPos (w.heap.size+1))
 case atStart=>
  refine ⟨0,s.size,[],(Lib.IsBuilderF.of (Lib.fresh_isBuilder 112 5 w)).alloc _,?_,((Below.refl _ w).alloc (Nat.le_refl _) _).alloc (by simp) _,by rw [<- HR.out];unfold aR;rw [<- Lib.size_eq];rfl,by omega,by simp⟩;have:=World.iter_heap (w.alloc (.cells #[.pointer none,.slice none 0 0] 112)) s 0;simpa using this
 case round=>
  obtain ⟨pos,f,acc,hI,hit,hbw,hacc,hfu,hal⟩:=hrel;have hsz:w.heap.size+1<wr.heap.size:=(Array.getElem?_eq_some_iff.1 hit).1;by_cases hp:pos<s.size
  ·have hnx:∀ty,(Instr.next (.pointer (some ⟨w.heap.size+1,0,none⟩)) true ty).run Tryz.prog wr=_:=fun ty=>Lib.run_next_any_at wr (w.heap.size+1) s pos ty hit hp;have hI2:=hI.iterAt hit (pos+(Utf8.decode s pos).2);have hit2:=Lib.iterAt_heap wr (w.heap.size+1) s pos (pos+(Utf8.decode s pos).2) hit;have hbw2:=Lib.below_iterAt hbw (k:=w.heap.size+1) (by omega) s (pos+(Utf8.decode s pos).2);obtain ⟨f,rfl⟩:∃g,f=g+1:=⟨f - 1,by omega⟩
   have hdl:=Lib.decodeL_drop s pos;have hwd:=Lib.decodeL_width (s.data.toList.drop pos);have hrl:=Lib.decodeL_rune (s.data.toList.drop pos);have hne:s.data.toList.drop pos≠[]:=(by intro h0;have:=congrArg List.length h0;simp at this;omega);have hwl:=Lib.decodeL_le _ hne;rw [<- hdl]at hnx hI2 hit2 hbw2;obtain ⟨r,n,hrn⟩:∃r n,Lib.decodeL (s.data.toList.drop pos)=(r,n):=⟨_,_,rfl⟩
   have hst:=fun x hx=>rh (f:=f) (show pos<s.data.toList.length by rw [<- Lib.size_eq];exact hp) hrn x hx;rw [hrn]at hnx hI2 hit2 hbw2 hwd hrl hwl;simp only at hnx hI2 hit2 hbw2 hwd hrl hwl;have hpn:pos+n <= s.size:=(by simp at hwl;omega);have HST:=zh (fun x hx=>(hst x hx).symm▸hacc);have HRL:=zh hrl;clear hst hacc hrn hdl hI hbw hrl hne;obtain ⟨wi,hwi⟩:∃wi,wr.iterAt (w.heap.size+1) s (pos+n)=wi:=⟨_,rfl⟩
   rw [hwi]at hI2 hit2 hbw2;by_cases hbad:r=0∨r=65533
   ·have HN:=zh (show (acc++iW)++bQ f s.data.toList (pos+n)=R by rw [List.append_assoc];exact HST.out iW (if_pos hbad));have hcl:((r:Int)==0)=true∨((r:Int)==0)=false∧((r:Int)==65533)=true:=by
     rcases hbad with h|h
     ·left;rw [h];rfl
     ·right;rw [h];exact ⟨rfl,rfl⟩
    clear hbad;rcases hcl with k0|⟨k0,k1⟩
    all_goals
     go_wp2_with fail;refine (dH w.heap.size w.heap.size _ ⟨iW.toArray⟩ _ hI2 (by rw [Lib.byteCells_length];have:(⟨iW.toArray⟩:ByteArray).size=3:=rfl;omega) hbw2.size).mono ?_;rintro e w6 ⟨rfl,h6,b6,k6⟩;go_wp2_with fail;go_roundw;case rel=>exact ⟨pos+n,f,acc++iW,by rw [Lib.byteCells_append];first|exact Or.inr h6|(rw [Lib.byteCells_encodeRune];exact Or.inr h6),k6.iter hit2 (by omega),hbw2.trans b6,HN.out,by omega,(by rw [List.length_append];have:iW.length=3:=rfl;omega)⟩
     case measure=>simp only [World.iterPos,k6.iter hit2 (by omega),hit];omega
   ·have k0:((r:Int)==0)=false:=(by simp;omega);have k1:((r:Int)==65533)=false:=(by simp;omega);by_cases h13:r=13
    ·have HN:=zh (show (acc++[10])++bQ f s.data.toList (pos+n)=R by rw [List.append_assoc];exact HST.out [10] (by rw [if_neg hbad,if_pos h13]));have k2:((r:Int)==13)=true:=(by rw [h13];rfl);clear hbad h13;go_wp2_with fail;refine (fq w.heap.size w.heap.size _ 10 _ hI2 (by rw [Lib.byteCells_length];omega) hbw2.size).mono ?_;rintro e w6 ⟨rfl,h6,b6,k6⟩;go_wp2_with fail;go_roundw;case rel=>exact ⟨pos+n,f,acc++[10],by rw [Lib.byteCells_append];first|exact Or.inr h6|(rw [Lib.byteCells_encodeRune];exact Or.inr h6),k6.iter hit2 (by omega),hbw2.trans b6,HN.out,by omega,(by rw [List.length_append];simp;omega)⟩
     case measure=>simp only [World.iterPos,k6.iter hit2 (by omega),hit];omega
    ·have k2:((r:Int)==13)=false:=(by simp;omega);by_cases h10:r=10∧0<pos∧s.data.toList[pos - 1]? =some 13
     ·have HN:=zh (show acc++bQ f s.data.toList (pos+n)=R from HST.out [] (by rw [if_neg hbad,if_neg h13,if_pos h10]));have k3:((r:Int)==10)=true:=(by rw [h10.1];rfl);have k4:(0:Int)<(pos:Int):=(by omega);have hd:∀h,s[pos - 1]'h=13:=fun h=>by
       have:=h10.2.2;rw [Lib.data_getElem? s (pos - 1) h]at this;exact Option.some.inj this
      clear hbad h13 h10;go_wp2_with fail;go_roundw;case rel=>exact ⟨pos+n,f,acc,hI2,hit2,hbw2,HN.out,by omega,by omega⟩
      case measure=>simp only [World.iterPos,hit2,hit];omega
     ·have HN:=zh (show (acc++Lib.encodeRune (r:Int))++bQ f s.data.toList (pos+n)=R by rw [List.append_assoc];exact HST.out _ (by rw [if_neg hbad,if_neg h13,if_neg h10]));have hcl:((r:Int)==10)=false∨((r:Int)==10)=true∧¬(0:Int)<(pos:Int)∨((r:Int)==10)=true∧(0:Int)<(pos:Int)∧∃d:UInt8,(∀h,s[pos - 1]'h=d)∧((d.toNat:Int)==13)=false:=by
       by_cases h1:r=10
       ·right;have e1:((r:Int)==10)=true:=(by rw [h1];rfl);by_cases h2:0<pos
        ·right;have hlt:pos - 1<s.size:=(by omega);refine ⟨e1,by omega,s[pos - 1]'hlt,fun _=>rfl,?_⟩;have hn:s[pos - 1]'hlt≠13:=fun e=>h10 ⟨h1,h2,by rw [Lib.data_getElem? s (pos - 1) hlt,e]⟩;have:(s[pos - 1]'hlt).toNat≠13:=fun e=>hn (UInt8.toNat.inj e);simp;omega
        ·left;exact ⟨e1,by omega⟩
       ·left;simp;omega
      have hl4:=Lib.runeCells_le (r:Int);rw [Lib.runeCells_length]at hl4;have HL4:=zh hl4;clear hbad h13 h10 hl4;rcases hcl with k3|⟨k3,k4⟩|⟨k3,k4,d,hd,k5⟩
      all_goals
       go_wp2_with fail;refine (mD w.heap.size w.heap.size _ (r:Int) (by omega) (by have:=HRL.out;omega) _ hI2 (by rw [Lib.byteCells_length];omega) hbw2.size).mono ?_;rintro e w6 ⟨rfl,h6,b6,k6⟩;go_wp2_with fail;go_roundw;case rel=>exact ⟨pos+n,f,acc++Lib.encodeRune (r:Int),by rw [Lib.byteCells_append];first|exact Or.inr h6|(rw [Lib.byteCells_encodeRune];exact Or.inr h6),k6.iter hit2 (by omega),hbw2.trans b6,HN.out,by omega,(by rw [List.length_append];have:=HL4.out;omega)⟩
       case measure=>simp only [World.iterPos,k6.iter hit2 (by omega),hit];omega
  ·have hnx:∀ty,(Instr.next (.pointer (some ⟨w.heap.size+1,0,none⟩)) true ty).run Tryz.prog wr=_:=fun ty=>Lib.run_next_end_at wr (w.heap.size+1) s pos ty hit hp;rw [tl _ _ _ (by rw [<- Lib.size_eq];omega),List.append_nil]at hacc;subst hacc;have HI:=zh hI;clear hI;go_wp2_with fail;refine (Tryz.Builder_String_any_k w.heap.size w.heap.size _ wr HI.out hbw.size).mono ?_;rintro e w2 ⟨rfl,_,hb2,_⟩;go_wp2_with fail;go_ret;exact ⟨rfl,hbw.trans hb2⟩
def yX (_:UInt8):Nat:=28
theorem qI {g:af ->Nat} {p:af} {l:List af} (h:p∈l):g p <= ec g l:=by
 induction l with
 |nil=>cases h
 |cons q l ih=>
  rw [cW];rcases List.mem_cons.1 h with rfl|h
  ·omega
  ·have:=ih h;omega
theorem tB (l:List (List UInt8)):el yX l=28*el cF l:=by
 have hm:∀s:List UInt8,ms yX s=28*ms cF s:=fun s=>by
  induction s with
  |nil=>rfl
  |cons c s ih=>rw [bR,bR,ih];simp only [yX,cF];omega
 induction l with
 |nil=>rfl
 |cons x l ih=>rw [aB,aB,ih,hm];simp only [yX,cF];omega
structure pm (l:List af):Prop where
 ch:fE 0 l
 s28:ec (wP yX 3) l <= 1000000
 sW:∀p∈l,el hW p.lines <= 500000
 s1:∀p∈l,el cF p.lines <= 24001
 lab:∀p∈l,p.div=true ->p.label.length <= 40
 len:l.length <= 30000
theorem qu (doc:List UInt8) (h:doc.length <= 6000):pm (bF (aO (aR doc)))∧(aO (aR doc)).length <= 24001∧∀x∈aO (aR doc),x.length <= 24001:=by
 have h1:=mj doc;have h2:=kX cF (aR doc);rw [di,show cF 10=1 from rfl]at h2;have h3:=xC (f:=hW) (h:=cF) (k:=20) (fun c=>by have:=(lY c).2;unfold hW cF;omega) (aO (aR doc));have h4:=jj (aO (aR doc));have h5:=kQ yX 3 (aO (aR doc));rw [tB]at h5;have h6:=kQ hW 0 (aO (aR doc));have h7:=kQ cF 0 (aO (aR doc));have h8:=kQ (fun _=>0) 1 (aO (aR doc));have h0:∀l:List (List UInt8),el (fun _=>0) l=0:=fun l=>by
  induction l with
  |nil=>rfl
  |cons x l ih=>rw [aB,ih,ym]
 have h9:∀l:List af,ec (wP (fun _=>0) 1) l=l.length:=fun l=>by
  induction l with
  |nil=>rfl
  |cons x l ih=>rw [cW,ih,List.length_cons];unfold wP;rw [h0];omega
 rw [h0,h9]at h8;refine ⟨⟨uc _,by omega,fun p hp=>?_,fun p hp=>?_,fun p hp hd=>?_,by omega⟩,by omega,fun x hx=>?_⟩
 ·have:=qI (g:=wP hW 0) hp;unfold wP at this h6;omega
 ·have:=qI (g:=wP cF 0) hp;unfold wP at this h7;omega
 ·exact (kh ((ud _ p hp).2.1 hd)).2
 ·have:=kY hx;omega
abbrev qX:=am×List (List UInt8)×Option Nat
def wH (o:Option Nat):Int:=match o with|some h=>(h:Int)|none=> -1
structure jG (z:aS) (l:List af) (R:qX) (i:Nat) (q:qX):Prop where
 fo:(l.drop i).foldl (cO z) q=R
 ch:∃T,fE T (l.drop i)∧(q.2.2=none ->q.2.1.length=T)∧(∀h,q.2.2=some h ->q.2.1.length=h+1)
 na:q.1.atoms.length+ec (wP yX 3) (l.drop i) <= 1000000
 ng:q.1.diags.length+ec (wP yX 3) (l.drop i) <= 1000000
 nb:q.1.blocks.length+ec (wP yX 3) (l.drop i) <= 1000000
 df:q.1.defs=[]
 tb:q.1.tab=[]
 mt:∀a∈q.1.atoms,a.text.length <= 24001
 bt:∀x∈q.1.blocks,x.text.length <= 500000∧x.info.length <= 500000∧ms fZ x.text <= 24001
 ul:q.2.1.length <= i
theorem jG.start (z:aS) {l:List af} (h:pm l) {R:qX} (hR:l.foldl (cO z) (am.none,[],none)=R):jG z l R 0 (am.none,[],none):=
 ⟨by rw [List.drop_zero];exact hR,⟨0,by rw [List.drop_zero];exact h.ch,fun _=>rfl,fun h e=>(by cases e)⟩,by rw [List.drop_zero];simpa [am.none]using h.s28,by rw [List.drop_zero];simpa [am.none]using h.s28,by rw [List.drop_zero];simpa [am.none]using h.s28,rfl,rfl,fun a ha=>(by cases ha),fun x hx=>(by cases hx),Nat.le_refl _⟩
theorem Ep (z:aS) (b:am) (p:af) (under:List (List UInt8)) (hp:el hW p.lines <= 500000) (h1:el cF p.lines <= 24001) (hna:b.atoms.length <= 1000000) (hmt:∀a∈b.atoms,a.text.length <= 24001) (hbt:∀x∈b.blocks,x.text.length <= 500000∧x.info.length <= 500000∧ms fZ x.text <= 24001):
  (kx z b p under).defs=b.defs∧(kx z b p under).tab=b.tab∧(kx z b p under).atoms.length <= b.atoms.length+el cF p.lines∧(kx z b p under).diags.length <= b.diags.length+el cF p.lines∧(kx z b p under).blocks.length <= b.blocks.length+28*el cF p.lines∧
   (∀a∈(kx z b p under).atoms,a.text.length <= 24001)∧(∀x∈(kx z b p under).blocks,x.text.length <= 500000∧x.info.length <= 500000∧ms fZ x.text <= 24001):=by
 have hl:=qp 24001 z under p.lines b (fun s hs=>by have:=kY hs;omega);have hw:=kW CV z under p.lines b (fun s _ c _=>by unfold hW;omega) (by omega);have hz:=kW EX z under p.lines b (fun s _ c _=>by unfold fZ cF;split<;>omega) (by omega);have hb:=dE 12 0 rfl (db z under p.lines b).1;rw [nX]at hb;have hb2:=pP Dk (db z under p.lines b).1;have hb3:=pP Dl (db z under p.lines b).1;have hlen:=jj p.lines;rw [yt];refine ⟨hl.df,hl.tb,hl.na,hl.ng,?_,hl.tx hmt,fun x hx=>?_⟩
 ·simp only [List.length_append,List.length_map];rw [hl.bl];have:(gh (db z under p.lines b).1).length <= 28*p.lines.length:=hb;omega
 ·rcases List.mem_append.1 hx with hx|hx
  ·rw [hl.bl]at hx;exact hbt x hx
  ·obtain ⟨y,hy,rfl⟩:=List.mem_map.1 hx;have g1:=hb2 y hy;have g2:=hb3 y hy;have g3:=wO (f:=fW) (fun c=>(lY c).1) y.text;have g4:=wO (f:=fW) (fun c=>(lY c).1) y.info;simp only [Cw];exact ⟨by omega,by omega,by omega⟩
theorem rC (g:af ->Nat) (l:List af) (i:Nat) (p:af) (hp:l[i]? =some p):ec g (l.drop i)=g p+ec g (l.drop (i+1)):=by
 obtain ⟨h,rfl⟩:=List.getElem?_eq_some_iff.1 hp;rw [List.drop_eq_getElem_cons h,cW]
theorem iY {l:List af} {i T:Nat} {p:af} (hp:l[i]? =some p) (h:fE T (l.drop i)):p.depth <= T∧fE (gg p) (l.drop (i+1)):=by
 obtain ⟨hi,rfl⟩:=List.getElem?_eq_some_iff.1 hp;rw [List.drop_eq_getElem_cons hi]at h;exact h
theorem zG (z:aS) (b:am) (x:List UInt8) (o:Bool):∃b',(if o=true then (b.label z x).diag 2 x else b.label z x)=b'∧b'.atoms=b.atoms∧b'.blocks=b.blocks∧b'.defs=b.defs∧b'.tab=b.tab∧b'.diags.length <= b.diags.length+2:=by
 obtain ⟨h1,h2,h3,h4,h5⟩:=fS z b x;refine ⟨_,rfl,?_⟩;cases o
 ·exact ⟨h1,h2,h3,h4,by simp only [Bool.false_eq_true,if_false];omega⟩
 ·exact ⟨h1,h2,h3,h4,by simp only [if_true,am.diag,List.length_append,List.length_cons,List.length_nil];omega⟩
theorem jG.depth {z:aS} {l:List af} {R:qX} {i:Nat} {q:qX} (h:jG z l R i q) {p:af} (hp:l[i]? =some p) (hs:(q.2.2.any fun h=>decide (h<p.depth))=false):p.depth <= q.2.1.length:=by
 obtain ⟨T,h1,h2,h3⟩:=h.ch;have:=(iY hp h1).1;cases ho:q.2.2 with
 |none=>rw [h2 ho];exact this
 |some d=>
  rw [ho]at hs;have:=h3 d ho;simp at hs;omega
theorem jG.next {z:aS} {l:List af} {R:qX} {i:Nat} {q:qX} (h:jG z l R i q) (ok:pm l) {p:af} (hp:l[i]? =some p):jG z l R (i+1) (cO z q p):=by
 obtain ⟨st,under,hd⟩:=q;obtain ⟨T,h1,h2,h3⟩:=h.ch;have hc:=iY hp h1;have hpm:=List.mem_of_getElem? hp;have hsum:=rC (wP yX 3) l i p hp;have hwp:wP yX 3 p=28*el cF p.lines+3:=(by unfold wP;rw [tB]);have hfo:(l.drop (i+1)).foldl (cO z) (cO z (st,under,hd) p)=R:=(by rw [<- h.fo,kN (cO z) l i p (st,under,hd) hp]);obtain ⟨q1,q2,q3,q4,q5,q6,q7,q8,q9,q10⟩:=h;simp only at q3 q4 q5 q6 q7 q8 q9 q10 h2 h3;by_cases hs:(hd.any fun h=>decide (h<p.depth))=true
 ·have e:cO z (st,under,hd) p=(st,under,hd):=(by unfold cO;rw [if_pos hs]);rw [e]at hfo⊢;refine ⟨hfo,⟨_,hc.2,fun hn=>?_,h3⟩,by simp only;omega,by simp only;omega,by simp only;omega,q6,q7,q8,q9,by simp only;omega⟩;simp only at hn;rw [hn]at hs;cases hs
 ·have hs':(hd.any fun h=>decide (h<p.depth))=false:=(by simpa using hs);have hdep:p.depth <= under.length:=by
   cases ho:hd with
   |none=>rw [h2 ho];exact hc.1
   |some d=>
    rw [ho]at hs';have:=h3 d ho;simp at hs';omega
  have htl:(under.take p.depth).length=p.depth:=(by rw [List.length_take];omega);by_cases hdv:p.div=false
  ·have e:cO z (st,under,hd) p=(kx z st p (under.take p.depth),under.take p.depth,none):=by
    unfold cO;rw [if_neg hs];simp only;rw [if_pos hdv]
   rw [e]at hfo⊢;obtain ⟨r1,r2,r3,r4,r5,r6,r7⟩:=Ep z st p (under.take p.depth) (ok.sW p hpm) (ok.s1 p hpm) (by omega) q8 q9;exact ⟨hfo,⟨_,hc.2,fun _=>by simp only;rw [htl];unfold gg;rw [hdv];simp,fun h e=>(by cases e)⟩,by simp only;omega,by simp only;omega,by simp only;omega,by simp only;rw [r1];exact q6,by simp only;rw [r2];exact q7,r6,r7,by simp only;omega⟩
  ·have hdv':p.div=true:=(by simpa using hdv);have hul:(under.take p.depth++[p.label]).length=p.depth+1:=(by rw [List.length_append,htl];rfl);by_cases hse:z.sees (under.take p.depth++[p.label])=false
   ·have e:cO z (st,under,hd) p=(st,under.take p.depth++[p.label],some p.depth):=by
     unfold cO;rw [if_neg hs];simp only;rw [if_neg hdv,if_pos hse]
    rw [e]at hfo⊢;exact ⟨hfo,⟨_,hc.2,fun hn=>(by cases hn),fun h e=>by simp only at e⊢;obtain rfl:=Option.some.inj e;exact hul⟩,by simp only;omega,by simp only;omega,by simp only;omega,q6,q7,q8,q9,by simp only;omega⟩
   ·obtain ⟨b',hb',l1,l2,l3,l4,l5⟩:=zG z st p.label p.opn;have e:cO z (st,under,hd) p=({b' with blocks:=b'.blocks++[⟨9,p.depth,0,false,[],p.label⟩]},under.take p.depth++[p.label],none):=by
     unfold cO;rw [if_neg hs];simp only;rw [if_neg hdv,if_neg hse,hb']
    rw [e]at hfo⊢;have hlab:=ok.lab p hpm hdv';refine ⟨hfo,⟨_,hc.2,fun _=>by simp only;rw [hul];unfold gg;rw [hdv'];simp,fun h e=>(by cases e)⟩,by simp only;rw [l1];omega,by simp only;omega,by simp only [List.length_append,List.length_cons,List.length_nil];rw [l2];omega,by simp only;rw [l3];exact q6,by simp only;rw [l4];exact q7,by simp only;rw [l1];exact q8,fun x hx=>?_,by simp only;omega⟩;simp only at hx;rcases List.mem_append.1 hx with hx|hx
    ·rw [l2]at hx;exact q9 x hx
    ·rw [List.mem_singleton.1 hx];exact ⟨Nat.zero_le _,by simp only;omega,Nat.zero_le _⟩
end Go.Proofs.YtcannffahjbjnaaGreatDoor
