import Derived.Test.YtcannffahjbjnaaGreatDoorVwBV
set_option linter.unusedVariables false
set_option linter.unusedSimpArgs false
set_option maxRecDepth 100000
set_option maxHeartbeats 64000000
namespace Go.Proofs.YtcannffahjbjnaaGreatDoor
open Go.RowKit
theorem cW.heap' {B b sb:Nat} {w w':World} {V:dJ} {st:aq} (h:cW B b sb w V st) (hk:∀k,k=b∨V.owns k ->w'.heap[k]? =w.heap[k]?):cW B b sb w' V st:=
 ⟨(hk b (Or.inl rfl)).trans h.heap,dZ h.bl fun g hg=>hk g (Or.inr (Or.inl hg.symm)),dZ h.at' fun g hg=>hk g (Or.inr (Or.inr (Or.inl hg.symm))),dZ h.df fun g hg=>hk g (Or.inr (Or.inr (Or.inr (Or.inl hg.symm)))),
  dZ h.dg fun g hg=>hk g (Or.inr (Or.inr (Or.inr (Or.inr (Or.inl hg.symm))))),dZ h.tb fun g hg=>hk g (Or.inr (Or.inr (Or.inr (Or.inr (Or.inr hg.symm))))),h.ap,h.base⟩
structure ju (B b sb:Nat) (w:World) (V:dJ) (ov:Value) (m:Nat) (old:List ak) (wr:World) (V':dJ) (st':aq):Prop where
 bd:cW B b sb wr V' st'
 bk:BK B b V w wr
 nw:V.newer V' w.heap.size
 ow:wr.ownsRow 0 45 6 ov m (old.flatMap aL)
 off:CO V' b ov
theorem ju.below {B b sb:Nat} {w:World} {V:dJ} {ov:Value} {m:Nat} {old:List ak} {wr w2:World} {V':dJ} {st':aq} (h:ju B b sb w V ov m old wr V' st') (hb:Below wr.heap.size wr w2) (hB:B <= w.heap.size):ju B b sb w V ov m old w2 V' st':=
 ⟨h.bd.below hb,h.bk.step (hb.mono h.bk.below.size) hB,h.nw,ah h.ow hb,h.off⟩
theorem ju.told {B b sb:Nat} {w:World} {V:dJ} {ov:Value} {m:Nat} {old:List ak} {wr w2:World} {V':dJ} {st' st2:aq} (h:ju B b sb w V ov m old wr V' st') (hp:dP B b sb wr V' st2 w2):∃V2,ju B b sb w V ov m old w2 V2 st2∧V'.newer V2 wr.heap.size∧BK B b V' wr w2:=by
 obtain ⟨V2,q1,q2,q3⟩:=hp;refine ⟨V2,⟨q1,h.bk.trans h.nw q2,fun k hk=>?_,A6 h.ow h.off q2,h.off.step h.ow q3⟩,q3,q2⟩;rcases q3 k hk with e|e
 ·exact h.nw k e
 ·exact Or.inr (Nat.le_trans h.bk.below.size e)
theorem ju.store {B b sb:Nat} {w:World} {V:dJ} {ov:Value} {m:Nat} {old:List ak} {wr:World} {V':dJ} {st':aq} (h:ju B b sb w V ov m old wr V' st') (hB:B <= w.heap.size) {K:Nat} (hK:w.heap.size <= K) (hb:K≠b) (ho:¬V'.owns K) (hv:some K≠ov.ownBlock) (j:Nat) (u:Value):ju B b sb w V ov m old (wr.setCell ⟨K,j,none⟩ u) V' st':=by
 have hk:∀k,k≠K ->(wr.setCell ⟨K,j,none⟩ u).heap[k]? =wr.heap[k]? :=fun k hk=>Below.heap_setCell _ ⟨K,j,none⟩ _ _ hk;refine ⟨h.bd.heap' fun k hk2=>hk k (fun e=>?_),h.bk.step ((Below.refl w.heap.size wr).setCell (p:=⟨K,j,none⟩) hK u) hB,h.nw,dZ h.ow fun g hg=>hk g (fun e=>?_),h.off⟩
 ·subst e;rcases hk2 with e|e
  ·exact hb e
  ·exact ho e
 ·subst e;exact hv hg.symm
structure vv (M Z Tx m:Nat) (old:List ak) (R:aq) (i:Nat) (st':aq):Prop where
 fo:(old.drop i).foldl cV st'=R
 nb:st'.blocks.length <= i
 mt:∀a∈st'.atoms,a.text.length <= M
 na:st'.atoms.length <= 1000000000
 nd:st'.defs.length+(m - i)*Tx <= 1000000000000
 nt:st'.tab.length+(m - i)*Tx <= 1000000000000
 ng:st'.diags.length+(m - i)*Tx <= 1000000000000
theorem CL (b:aq) (x:ak):mW {b with blocks:=(cV b x).blocks} (cV b x) x.text.length∧(cV b x).blocks.length <= b.blocks.length+1:=by
 unfold cV;split
 ·have h:=(oJ (x.text.length+1) b x.text).1
  dsimp only
  split
  ·exact ⟨⟨rfl,h.at',h.nd,h.nt,h.ng⟩,by rw [h.bl];omega⟩
  ·exact ⟨⟨rfl,h.at',h.nd,h.nt,h.ng⟩,by simp [h.bl]⟩
 ·split
  ·exact ⟨⟨rfl,rfl,by simp,by simp,by simp⟩,by simp⟩
  ·exact ⟨⟨rfl,rfl,by simp,by simp,by simp⟩,by simp⟩
theorem vv.next {M Z Tx m:Nat} {old:List ak} {R:aq} {i:Nat} {st':aq} (h:vv M Z Tx m old R i st') (x:ak) (hx:old[i]? =some x) (hm:old.length=m) (ht:x.text.length <= Tx):vv M Z Tx m old R (i+1) (cV st' x)∧st'.defs.length+Tx <= 1000000000000∧st'.tab.length+Tx <= 1000000000000∧st'.diags.length+Tx <= 1000000000000:=by
 obtain ⟨h1,h2,h3,h4,h5,h6,h7⟩:=h;obtain ⟨s,s2⟩:=CL st' x;have hi:i<m:=(by rw [<- hm];exact (List.getElem?_eq_some_iff.1 hx).1);have hmi:(m - i)*Tx=(m - (i+1))*Tx+Tx:=(by rw [show m - i=(m - (i+1))+1 by omega,Nat.succ_mul]);have e1:=s.at';have e2:=s.nd;have e3:=s.nt;have e4:=s.ng;simp only at e1 e2 e3 e4;exact ⟨⟨by rw [<- h1,ni cV old i x st' hx],by omega,by rw [e1];exact h3,by rw [e1];exact h4,by omega,by omega,by omega⟩,by omega,by omega,by omega⟩
theorem zw {b:aq} {x:ak} (h:x.kind=1):cV b x=if (dD (x.text.length+1) b x.text).1=[]then (dD (x.text.length+1) b x.text).2 else {(dD (x.text.length+1) b x.text).2 with blocks:=(dD (x.text.length+1) b x.text).2.blocks++[{x with text:=(dD (x.text.length+1) b x.text).1}]}:=by
 unfold cV;rw [if_pos h]
theorem zv {b:aq} {x:ak} (h:x.kind≠1) (h2:x.kind=6∨x.kind=8):cV b x={b with blocks:=b.blocks++[{x with text:=aA x.text b.atoms,info:=aA x.info b.atoms}]}:=by
 unfold cV;rw [if_neg h,if_pos h2]
theorem wO {b:aq} {x:ak} (h:x.kind≠1) (h2:¬(x.kind=6∨x.kind=8)):cV b x={b with blocks:=b.blocks++[x]}:=by
 unfold cV;rw [if_neg h,if_neg h2]
end Go.Proofs.YtcannffahjbjnaaGreatDoor
namespace Go.Proofs.YtcannffahjbjnaaGreatDoor
def gM (p:a8):Nat:=p.depth+if p.div then 1 else 0
def fK:Nat ->List a8 ->Prop
 |_,[]=>True
 |T,p::l=>p.depth <= T∧fK (gM p) l
def eI (T:Nat) (l:List a8):Nat:=(l.getLast?.map gM).getD T
theorem lq:∀(l:List a8) (T:Nat) (p:a8),fK T (l++[p])↔fK T l∧p.depth <= eI T l
 |[],T,p=>by simp [fK,eI]
 |a::l,T,p=>by
  rw [List.cons_append,fK,fK,lq l (gM a) p];have:eI (gM a) l=eI T (a::l):=by
   unfold eI;cases l with
   |nil=>rfl
   |cons b l=>
    rw [List.getLast?_cons_cons];cases h:(b::l).getLast? with
    |none=>simp at h
    |some c=>rfl
  rw [this,and_assoc]
theorem iN (f:a8 ->a8) (hf:∀p,(f p).depth=p.depth∧(f p).div=p.div):∀(l:List a8) (i T:Nat),(fK T (l.modify i f)↔fK T l)∧eI T (l.modify i f)=eI T l
 |[],i,T=>by simp
 |a::l,0,T=>by
  have ht:gM (f a)=gM a:=(by unfold gM;rw [(hf a).1,(hf a).2]);constructor
  ·simp [fK,(hf a).1,ht]
  ·unfold eI;cases l with
   |nil=>simp [ht]
   |cons b l=>simp
 |a::l,i+1,T=>by
  obtain ⟨h1,h2⟩:=iN f hf l i (gM a);constructor
  ·simp [fK,h1]
  ·unfold eI at h2⊢;cases l with
   |nil=>simp
   |cons b l=>
    have hm:∃c m,(b::l).modify i f=c::m:=(by cases i<;>simp);obtain ⟨c,m,hm⟩:=hm;simp only [List.modify_succ_cons,hm,List.getLast?_cons_cons]at h2⊢;cases hx:(c::m).getLast? with
    |none=>simp at hx
    |some x=>
     cases hy:(b::l).getLast? with
     |none=>simp at hy
     |some y=>rw [hx,hy]at h2;exact h2
structure BQ (st:kQ):Prop where
 chain:fK 0 st.out
 top:st.inn.length <= eI 0 st.out
theorem mu (T:Nat) (l:List a8) (p:a8):eI T (l++[p])=gM p:=by unfold eI;rw [List.getLast?_concat];rfl
theorem yA (st:kQ) (s:List UInt8) (h:BQ st):BQ (aE st s):=by
 unfold aE;split
 ·refine ⟨(lq _ _ _).2 ⟨h.chain,h.top⟩,?_⟩;simp only;rw [mu];simp [gM]
 ·split
  ·obtain ⟨h1,h2⟩:=iN (fun p=>{p with opn:=false}) (fun p=>⟨rfl,rfl⟩) st.out (st.inn.getLast?.getD 0) 0;refine ⟨h1.2 h.chain,?_⟩;simp only [h2,List.length_dropLast];have:=h.top;omega
  ·split
   ·obtain ⟨h1,h2⟩:=iN (fun p=>{p with lines:=p.lines++[s]}) (fun p=>⟨rfl,rfl⟩) st.out (st.out.length - 1) 0;refine ⟨h1.2 h.chain,?_⟩;simp only [h2];exact h.top
   ·refine ⟨(lq _ _ _).2 ⟨h.chain,h.top⟩,?_⟩;simp only;rw [mu];simp [gM]
theorem tE (l:List (List UInt8)):fK 0 (fj l):=by
 have key:∀(l:List (List UInt8)) (st:kQ),BQ st ->BQ (l.foldl aE st):=by
  intro l;induction l with
  |nil=>intro st h;exact h
  |cons s l ih=>intro st h;rw [List.foldl_cons];exact ih _ (yA st s h)
 exact (key l ⟨[],[],false⟩ ⟨trivial,Nat.le_refl _⟩).chain
end Go.Proofs.YtcannffahjbjnaaGreatDoor
namespace Go.Proofs.YtcannffahjbjnaaGreatDoor
open Go.RowKit
theorem sJ:∀(f:Nat) (s:List UInt8) (i:Nat),s.length <= i ->cU f s i=[]
 |0,_,_,_=>rfl
 |f+1,s,i,h=>by rw [cU,if_pos h]
theorem qv {f:Nat} {s:List UInt8} {i r n:Nat} (h:i<s.length) (hd:Lib.decodeL (s.drop i)=(r,n)) (x:List UInt8)
  (hx:(if r=0∨r=65533 then sc else if r=13 then [10]else if r=10∧0<i∧s[i - 1]? =some 13 then []else Lib.encodeRune (r:Int))=x):cU (f+1) s i=x++cU f s (i+n):=by
 rw [cU,if_neg (by omega),hd];simp only;rw [hx]
def CW (s:ByteArray) (R:List UInt8) (w:World) (pos:Nat) (wr:World):Prop:=
 ∃(f:Nat) (acc:List UInt8),Lib.IsBuilderF 112 5 w.heap.size w.heap.size (Lib.byteCells acc) wr∧wr.heap[w.heap.size+1]? =some (.stringIter s pos)∧Below w.heap.size w wr∧acc++cU f s.data.toList pos=R∧s.size <= pos+f∧acc.length <= 4*pos
theorem wG (s:ByteArray) (w:World) (hs:s.size <= 1000000000):
  Calls Tryz.prog 18 #[.string s] w fun e w'=>e=.returned (.string ⟨(cK s.data.toList).toArray⟩)∧Below w.heap.size w w':=by
 obtain ⟨R,hR⟩:∃R,cK s.data.toList=R:=⟨_,rfl⟩
 rw [hR];have HR:=zh hR;clear hR;go_enter Tryz.func18,Tryz.ntmps18
 go_wp2_with fail;go_loopw [] (fun wr=>∃pos,CW s R w pos wr) (fun wr=>s.size - wr.iterPos (w.heap.size+1))
 case atStart=>
  refine ⟨0,s.size,[],(Lib.IsBuilderF.of (Lib.fresh_isBuilder 112 5 w)).alloc _,?_,((Below.refl _ w).alloc (Nat.le_refl _) _).alloc (by simp) _,by rw [<- HR.out];unfold cK;rw [<- Lib.size_eq];rfl,by omega,by simp⟩;have:=World.iter_heap (w.alloc (.cells #[.pointer none,.slice none 0 0] 112)) s 0;simpa using this
 case round=>
  obtain ⟨pos,f,acc,hI,hit,hbw,hacc,hfu,hal⟩:=hrel;have hsz:w.heap.size+1<wr.heap.size:=(Array.getElem?_eq_some_iff.1 hit).1;by_cases hp:pos<s.size
  ·have hnx:∀ty,(Instr.next (.pointer (some ⟨w.heap.size+1,0,none⟩)) true ty).run Tryz.prog wr=_:=fun ty=>Lib.run_next_any_at wr (w.heap.size+1) s pos ty hit hp;have hI2:=hI.iterAt hit (pos+(Utf8.decode s pos).2);have hit2:=Lib.iterAt_heap wr (w.heap.size+1) s pos (pos+(Utf8.decode s pos).2) hit;have hbw2:=Lib.below_iterAt hbw (k:=w.heap.size+1) (by omega) s (pos+(Utf8.decode s pos).2);obtain ⟨f,rfl⟩:∃g,f=g+1:=⟨f - 1,by omega⟩
   have hdl:=Lib.decodeL_drop s pos;have hwd:=Lib.decodeL_width (s.data.toList.drop pos);have hrl:=Lib.decodeL_rune (s.data.toList.drop pos);have hne:s.data.toList.drop pos≠[]:=(by intro h0;have:=congrArg List.length h0;simp at this;omega);have hwl:=Lib.decodeL_le _ hne;rw [<- hdl]at hnx hI2 hit2 hbw2;obtain ⟨r,n,hrn⟩:∃r n,Lib.decodeL (s.data.toList.drop pos)=(r,n):=⟨_,_,rfl⟩
   have hst:=fun x hx=>qv (f:=f) (show pos<s.data.toList.length by rw [<- Lib.size_eq];exact hp) hrn x hx;rw [hrn]at hnx hI2 hit2 hbw2 hwd hrl hwl;simp only at hnx hI2 hit2 hbw2 hwd hrl hwl;have hpn:pos+n <= s.size:=(by simp at hwl;omega);have HST:=zh (fun x hx=>(hst x hx).symm▸hacc);have HRL:=zh hrl;clear hst hacc hrn hdl hI hbw hrl hne;obtain ⟨wi,hwi⟩:∃wi,wr.iterAt (w.heap.size+1) s (pos+n)=wi:=⟨_,rfl⟩
   rw [hwi]at hI2 hit2 hbw2;by_cases hbad:r=0∨r=65533
   ·have HN:=zh (show (acc++sc)++cU f s.data.toList (pos+n)=R by rw [List.append_assoc];exact HST.out sc (if_pos hbad));have hcl:((r:Int)==0)=true∨((r:Int)==0)=false∧((r:Int)==65533)=true:=by
     rcases hbad with h|h
     ·left;rw [h];rfl
     ·right;rw [h];exact ⟨rfl,rfl⟩
    clear hbad;rcases hcl with k0|⟨k0,k1⟩
    all_goals
     go_wp2_with fail;refine (dT w.heap.size w.heap.size _ ⟨sc.toArray⟩ _ hI2 (by rw [Lib.byteCells_length];have:(⟨sc.toArray⟩:ByteArray).size=3:=rfl;omega) hbw2.size).mono ?_;rintro e w6 ⟨rfl,h6,b6,k6⟩;go_wp2_with fail;go_roundw;case rel=>exact ⟨pos+n,f,acc++sc,by rw [Lib.byteCells_append];first|exact Or.inr h6|(rw [Lib.byteCells_encodeRune];exact Or.inr h6),k6.iter hit2 (by omega),hbw2.trans b6,HN.out,by omega,(by rw [List.length_append];have:sc.length=3:=rfl;omega)⟩
     case measure=>simp only [World.iterPos,k6.iter hit2 (by omega),hit];omega
   ·have k0:((r:Int)==0)=false:=(by simp;omega);have k1:((r:Int)==65533)=false:=(by simp;omega);by_cases h13:r=13
    ·have HN:=zh (show (acc++[10])++cU f s.data.toList (pos+n)=R by rw [List.append_assoc];exact HST.out [10] (by rw [if_neg hbad,if_pos h13]));have k2:((r:Int)==13)=true:=(by rw [h13];rfl);clear hbad h13;go_wp2_with fail;refine (eX w.heap.size w.heap.size _ 10 _ hI2 (by rw [Lib.byteCells_length];omega) hbw2.size).mono ?_;rintro e w6 ⟨rfl,h6,b6,k6⟩;go_wp2_with fail;go_roundw;case rel=>exact ⟨pos+n,f,acc++[10],by rw [Lib.byteCells_append];first|exact Or.inr h6|(rw [Lib.byteCells_encodeRune];exact Or.inr h6),k6.iter hit2 (by omega),hbw2.trans b6,HN.out,by omega,(by rw [List.length_append];simp;omega)⟩
     case measure=>simp only [World.iterPos,k6.iter hit2 (by omega),hit];omega
    ·have k2:((r:Int)==13)=false:=(by simp;omega);by_cases h10:r=10∧0<pos∧s.data.toList[pos - 1]? =some 13
     ·have HN:=zh (show acc++cU f s.data.toList (pos+n)=R from HST.out [] (by rw [if_neg hbad,if_neg h13,if_pos h10]));have k3:((r:Int)==10)=true:=(by rw [h10.1];rfl);have k4:(0:Int)<(pos:Int):=(by omega);have hd:∀h,s[pos - 1]'h=13:=fun h=>by
       have:=h10.2.2;rw [Lib.data_getElem? s (pos - 1) h]at this;exact Option.some.inj this
      clear hbad h13 h10;go_wp2_with fail;go_roundw;case rel=>exact ⟨pos+n,f,acc,hI2,hit2,hbw2,HN.out,by omega,by omega⟩
      case measure=>simp only [World.iterPos,hit2,hit];omega
     ·have HN:=zh (show (acc++Lib.encodeRune (r:Int))++cU f s.data.toList (pos+n)=R by rw [List.append_assoc];exact HST.out _ (by rw [if_neg hbad,if_neg h13,if_neg h10]));have hcl:((r:Int)==10)=false∨((r:Int)==10)=true∧¬(0:Int)<(pos:Int)∨((r:Int)==10)=true∧(0:Int)<(pos:Int)∧∃d:UInt8,(∀h,s[pos - 1]'h=d)∧((d.toNat:Int)==13)=false:=by
       by_cases h1:r=10
       ·right;have e1:((r:Int)==10)=true:=(by rw [h1];rfl);by_cases h2:0<pos
        ·right;have hlt:pos - 1<s.size:=(by omega);refine ⟨e1,by omega,s[pos - 1]'hlt,fun _=>rfl,?_⟩;have hn:s[pos - 1]'hlt≠13:=fun e=>h10 ⟨h1,h2,by rw [Lib.data_getElem? s (pos - 1) hlt,e]⟩;have:(s[pos - 1]'hlt).toNat≠13:=fun e=>hn (UInt8.toNat.inj e);simp;omega
        ·left;exact ⟨e1,by omega⟩
       ·left;simp;omega
      have hl4:=Lib.runeCells_le (r:Int);rw [Lib.runeCells_length]at hl4;have HL4:=zh hl4;clear hbad h13 h10 hl4;rcases hcl with k3|⟨k3,k4⟩|⟨k3,k4,d,hd,k5⟩
      all_goals
       go_wp2_with fail;refine (ma w.heap.size w.heap.size _ (r:Int) (by omega) (by have:=HRL.out;omega) _ hI2 (by rw [Lib.byteCells_length];omega) hbw2.size).mono ?_;rintro e w6 ⟨rfl,h6,b6,k6⟩;go_wp2_with fail;go_roundw;case rel=>exact ⟨pos+n,f,acc++Lib.encodeRune (r:Int),by rw [Lib.byteCells_append];first|exact Or.inr h6|(rw [Lib.byteCells_encodeRune];exact Or.inr h6),k6.iter hit2 (by omega),hbw2.trans b6,HN.out,by omega,(by rw [List.length_append];have:=HL4.out;omega)⟩
       case measure=>simp only [World.iterPos,k6.iter hit2 (by omega),hit];omega
  ·have hnx:∀ty,(Instr.next (.pointer (some ⟨w.heap.size+1,0,none⟩)) true ty).run Tryz.prog wr=_:=fun ty=>Lib.run_next_end_at wr (w.heap.size+1) s pos ty hit hp;rw [sJ _ _ _ (by rw [<- Lib.size_eq];omega),List.append_nil]at hacc;subst hacc;have HI:=zh hI;clear hI;go_wp2_with fail;refine (Tryz.Builder_String_any_k w.heap.size w.heap.size _ wr HI.out hbw.size).mono ?_;rintro e w2 ⟨rfl,_,hb2,_⟩;go_wp2_with fail;go_ret;exact ⟨rfl,hbw.trans hb2⟩
def yf (_:UInt8):Nat:=28
theorem uU {g:a8 ->Nat} {p:a8} {l:List a8} (h:p∈l):g p <= fF g l:=by
 induction l with
 |nil=>cases h
 |cons q l ih=>
  rw [eu];rcases List.mem_cons.1 h with rfl|h
  ·omega
  ·have:=ih h;omega
theorem sV (l:List (List UInt8)):ey yf l=28*ey dH l:=by
 have hm:∀s:List UInt8,ms yf s=28*ms dH s:=fun s=>by
  induction s with
  |nil=>rfl
  |cons c s ih=>rw [bM,bM,ih];simp only [yf,dH];omega
 induction l with
 |nil=>rfl
 |cons x l ih=>rw [aP,aP,ih,hm];simp only [yf,dH];omega
structure rX (l:List a8):Prop where
 ch:fK 0 l
 s28:fF (wP yf 3) l <= 1000000
 sW:∀p∈l,ey hW p.lines <= 500000
 s1:∀p∈l,ey dH p.lines <= 24001
 lab:∀p∈l,p.div=true ->p.label.length <= 40
 len:l.length <= 30000
theorem A9 (doc:List UInt8) (h:doc.length <= 6000):rX (fj (bW (cK doc)))∧(bW (cK doc)).length <= 24001∧∀x∈bW (cK doc),x.length <= 24001:=by
 have h1:=pQ doc;have h2:=rq dH (cK doc);rw [i6,show dH 10=1 from rfl]at h2;have h3:=wQ (f:=hW) (h:=dH) (k:=20) (fun c=>by have:=(ly c).2;unfold hW dH;omega) (bW (cK doc));have h4:=oH (bW (cK doc));have h5:=kx yf 3 (bW (cK doc));rw [sV]at h5;have h6:=kx hW 0 (bW (cK doc));have h7:=kx dH 0 (bW (cK doc));have h8:=kx (fun _=>0) 1 (bW (cK doc));have h0:∀l:List (List UInt8),ey (fun _=>0) l=0:=fun l=>by
  induction l with
  |nil=>rfl
  |cons x l ih=>rw [aP,ih,xD]
 have h9:∀l:List a8,fF (wP (fun _=>0) 1) l=l.length:=fun l=>by
  induction l with
  |nil=>rfl
  |cons x l ih=>rw [eu,ih,List.length_cons];unfold wP;rw [h0];omega
 rw [h0,h9]at h8;refine ⟨⟨tE _,by omega,fun p hp=>?_,fun p hp=>?_,fun p hp hd=>?_,by omega⟩,by omega,fun x hx=>?_⟩
 ·have:=uU (g:=wP hW 0) hp;unfold wP at this h6;omega
 ·have:=uU (g:=wP dH 0) hp;unfold wP at this h7;omega
 ·exact (tT ((tF _ p hp).2.1 hd)).2
 ·have:=oI hx;omega
abbrev s7:=aq×List (List UInt8)×Option Nat
def C8 (o:Option Nat):Int:=match o with|some h=>(h:Int)|none=> -1
structure lY (z:bT) (l:List a8) (R:s7) (i:Nat) (q:s7):Prop where
 fo:(l.drop i).foldl (dM z) q=R
 ch:∃T,fK T (l.drop i)∧(q.2.2=none ->q.2.1.length=T)∧(∀h,q.2.2=some h ->q.2.1.length=h+1)
 na:q.1.atoms.length+fF (wP yf 3) (l.drop i) <= 1000000
 ng:q.1.diags.length+fF (wP yf 3) (l.drop i) <= 1000000
 nb:q.1.blocks.length+fF (wP yf 3) (l.drop i) <= 1000000
 df:q.1.defs=[]
 tb:q.1.tab=[]
 mt:∀a∈q.1.atoms,a.text.length <= 24001
 bt:∀x∈q.1.blocks,x.text.length <= 500000∧x.info.length <= 500000∧ms fZ x.text <= 24001
 ul:q.2.1.length <= i
theorem lY.start (z:bT) {l:List a8} (h:rX l) {R:s7} (hR:l.foldl (dM z) (aq.none,[],none)=R):lY z l R 0 (aq.none,[],none):=
 ⟨by rw [List.drop_zero];exact hR,⟨0,by rw [List.drop_zero];exact h.ch,fun _=>rfl,fun h e=>(by cases e)⟩,by rw [List.drop_zero];simpa [aq.none]using h.s28,by rw [List.drop_zero];simpa [aq.none]using h.s28,by rw [List.drop_zero];simpa [aq.none]using h.s28,rfl,rfl,fun a ha=>(by cases ha),fun x hx=>(by cases hx),Nat.le_refl _⟩
theorem Dj (z:bT) (b:aq) (p:a8) (under:List (List UInt8)) (hp:ey hW p.lines <= 500000) (h1:ey dH p.lines <= 24001) (hna:b.atoms.length <= 1000000) (hmt:∀a∈b.atoms,a.text.length <= 24001) (hbt:∀x∈b.blocks,x.text.length <= 500000∧x.info.length <= 500000∧ms fZ x.text <= 24001):
  (lN z b p under).defs=b.defs∧(lN z b p under).tab=b.tab∧(lN z b p under).atoms.length <= b.atoms.length+ey dH p.lines∧(lN z b p under).diags.length <= b.diags.length+ey dH p.lines∧(lN z b p under).blocks.length <= b.blocks.length+28*ey dH p.lines∧
   (∀a∈(lN z b p under).atoms,a.text.length <= 24001)∧(∀x∈(lN z b p under).blocks,x.text.length <= 500000∧x.info.length <= 500000∧ms fZ x.text <= 24001):=by
 have hl:=pB 24001 z under p.lines b (fun s hs=>by have:=oI hs;omega);have hw:=kC BI z under p.lines b (fun s _ c _=>by unfold hW;omega) (by omega);have hz:=kC DQ z under p.lines b (fun s _ c _=>by unfold fZ dH;split<;>omega) (by omega);have hb:=bQ 12 0 rfl (dh z under p.lines b).1;rw [np]at hb;have hb2:=li Ce (dh z under p.lines b).1;have hb3:=li Cf (dh z under p.lines b).1;have hlen:=oH p.lines;rw [xK];refine ⟨hl.df,hl.tb,hl.na,hl.ng,?_,hl.tx hmt,fun x hx=>?_⟩
 ·simp only [List.length_append,List.length_map];rw [hl.bl];have:(dU (dh z under p.lines b).1).length <= 28*p.lines.length:=hb;omega
 ·rcases List.mem_append.1 hx with hx|hx
  ·rw [hl.bl]at hx;exact hbt x hx
  ·obtain ⟨y,hy,rfl⟩:=List.mem_map.1 hx;have g1:=hb2 y hy;have g2:=hb3 y hy;have g3:=vZ (f:=fW) (fun c=>(ly c).1) y.text;have g4:=vZ (f:=fW) (fun c=>(ly c).1) y.info;simp only [Bm];exact ⟨by omega,by omega,by omega⟩
theorem qM (g:a8 ->Nat) (l:List a8) (i:Nat) (p:a8) (hp:l[i]? =some p):fF g (l.drop i)=g p+fF g (l.drop (i+1)):=by
 obtain ⟨h,rfl⟩:=List.getElem?_eq_some_iff.1 hp;rw [List.drop_eq_getElem_cons h,eu]
theorem oY {l:List a8} {i T:Nat} {p:a8} (hp:l[i]? =some p) (h:fK T (l.drop i)):p.depth <= T∧fK (gM p) (l.drop (i+1)):=by
 obtain ⟨hi,rfl⟩:=List.getElem?_eq_some_iff.1 hp;rw [List.drop_eq_getElem_cons hi]at h;exact h
theorem yK (z:bT) (b:aq) (x:List UInt8) (o:Bool):∃b',(if o=true then (b.label z x).diag 2 x else b.label z x)=b'∧b'.atoms=b.atoms∧b'.blocks=b.blocks∧b'.defs=b.defs∧b'.tab=b.tab∧b'.diags.length <= b.diags.length+2:=by
 obtain ⟨h1,h2,h3,h4,h5⟩:=fx z b x;refine ⟨_,rfl,?_⟩;cases o
 ·exact ⟨h1,h2,h3,h4,by simp only [Bool.false_eq_true,if_false];omega⟩
 ·exact ⟨h1,h2,h3,h4,by simp only [if_true,aq.diag,List.length_append,List.length_cons,List.length_nil];omega⟩
theorem lY.depth {z:bT} {l:List a8} {R:s7} {i:Nat} {q:s7} (h:lY z l R i q) {p:a8} (hp:l[i]? =some p) (hs:(q.2.2.any fun h=>decide (h<p.depth))=false):p.depth <= q.2.1.length:=by
 obtain ⟨T,h1,h2,h3⟩:=h.ch;have:=(oY hp h1).1;cases ho:q.2.2 with
 |none=>rw [h2 ho];exact this
 |some d=>
  rw [ho]at hs;have:=h3 d ho;simp at hs;omega
theorem lY.next {z:bT} {l:List a8} {R:s7} {i:Nat} {q:s7} (h:lY z l R i q) (ok:rX l) {p:a8} (hp:l[i]? =some p):lY z l R (i+1) (dM z q p):=by
 obtain ⟨st,under,hd⟩:=q;obtain ⟨T,h1,h2,h3⟩:=h.ch;have hc:=oY hp h1;have hpm:=List.mem_of_getElem? hp;have hsum:=qM (wP yf 3) l i p hp;have hwp:wP yf 3 p=28*ey dH p.lines+3:=(by unfold wP;rw [sV]);have hfo:(l.drop (i+1)).foldl (dM z) (dM z (st,under,hd) p)=R:=(by rw [<- h.fo,ni (dM z) l i p (st,under,hd) hp]);obtain ⟨q1,q2,q3,q4,q5,q6,q7,q8,q9,q10⟩:=h;simp only at q3 q4 q5 q6 q7 q8 q9 q10 h2 h3;by_cases hs:(hd.any fun h=>decide (h<p.depth))=true
 ·have e:dM z (st,under,hd) p=(st,under,hd):=(by unfold dM;rw [if_pos hs]);rw [e]at hfo⊢;refine ⟨hfo,⟨_,hc.2,fun hn=>?_,h3⟩,by simp only;omega,by simp only;omega,by simp only;omega,q6,q7,q8,q9,by simp only;omega⟩;simp only at hn;rw [hn]at hs;cases hs
 ·have hs':(hd.any fun h=>decide (h<p.depth))=false:=(by simpa using hs);have hdep:p.depth <= under.length:=by
   cases ho:hd with
   |none=>rw [h2 ho];exact hc.1
   |some d=>
    rw [ho]at hs';have:=h3 d ho;simp at hs';omega
  have htl:(under.take p.depth).length=p.depth:=(by rw [List.length_take];omega);by_cases hdv:p.div=false
  ·have e:dM z (st,under,hd) p=(lN z st p (under.take p.depth),under.take p.depth,none):=by
    unfold dM;rw [if_neg hs];simp only;rw [if_pos hdv]
   rw [e]at hfo⊢;obtain ⟨r1,r2,r3,r4,r5,r6,r7⟩:=Dj z st p (under.take p.depth) (ok.sW p hpm) (ok.s1 p hpm) (by omega) q8 q9;exact ⟨hfo,⟨_,hc.2,fun _=>by simp only;rw [htl];unfold gM;rw [hdv];simp,fun h e=>(by cases e)⟩,by simp only;omega,by simp only;omega,by simp only;omega,by simp only;rw [r1];exact q6,by simp only;rw [r2];exact q7,r6,r7,by simp only;omega⟩
  ·have hdv':p.div=true:=(by simpa using hdv);have hul:(under.take p.depth++[p.label]).length=p.depth+1:=(by rw [List.length_append,htl];rfl);by_cases hse:z.sees (under.take p.depth++[p.label])=false
   ·have e:dM z (st,under,hd) p=(st,under.take p.depth++[p.label],some p.depth):=by
     unfold dM;rw [if_neg hs];simp only;rw [if_neg hdv,if_pos hse]
    rw [e]at hfo⊢;exact ⟨hfo,⟨_,hc.2,fun hn=>(by cases hn),fun h e=>by simp only at e⊢;obtain rfl:=Option.some.inj e;exact hul⟩,by simp only;omega,by simp only;omega,by simp only;omega,q6,q7,q8,q9,by simp only;omega⟩
   ·obtain ⟨b',hb',l1,l2,l3,l4,l5⟩:=yK z st p.label p.opn;have e:dM z (st,under,hd) p=({b' with blocks:=b'.blocks++[⟨9,p.depth,0,false,[],p.label⟩]},under.take p.depth++[p.label],none):=by
     unfold dM;rw [if_neg hs];simp only;rw [if_neg hdv,if_neg hse,hb']
    rw [e]at hfo⊢;have hlab:=ok.lab p hpm hdv';refine ⟨hfo,⟨_,hc.2,fun _=>by simp only;rw [hul];unfold gM;rw [hdv'];simp,fun h e=>(by cases e)⟩,by simp only;rw [l1];omega,by simp only;omega,by simp only [List.length_append,List.length_cons,List.length_nil];rw [l2];omega,by simp only;rw [l3];exact q6,by simp only;rw [l4];exact q7,by simp only;rw [l1];exact q8,fun x hx=>?_,by simp only;omega⟩;simp only at hx;rcases List.mem_append.1 hx with hx|hx
    ·rw [l2]at hx;exact q9 x hx
    ·rw [List.mem_singleton.1 hx];exact ⟨Nat.zero_le _,by simp only;omega,Nat.zero_le _⟩
end Go.Proofs.YtcannffahjbjnaaGreatDoor
