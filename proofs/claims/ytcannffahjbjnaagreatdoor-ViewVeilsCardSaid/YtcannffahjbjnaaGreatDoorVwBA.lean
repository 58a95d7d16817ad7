import Derived.WalkKit
import Derived.Lib.Builder
import Derived.Lib.Strings
import Derived.Lib.IndexBytes
import Derived.Lib.Hide
import Derived.OrdersHeld
import Derived.RegionTactic
import Derived.Tactics
set_option linter.unusedVariables false
set_option linter.unusedSimpArgs false
set_option maxRecDepth 100000
set_option maxHeartbeats 64000000
namespace Go.Proofs.YtcannffahjbjnaaGreatDoor
open Go.RowKit
theorem zh {p:Prop} (h:p):Hid p:=Lib.hid h
theorem eB {a b:Bool} (h:a=b):Ending.returned (.bool a)=.returned (.bool b):=by rw [h]
theorem py {k:IntKind} {a b:Int} (h:a=b):Ending.returned (.int k a)=.returned (.int k b):=by rw [h]
def tI (p:UInt8 ->Prop):Prop:=∀n:Fin 256,p (UInt8.ofNat n.val)
theorem vS {p:UInt8 ->Prop} (h:tI p) (c:UInt8):p c:=by
 have:=h ⟨c.toNat,c.toNat_lt⟩;simpa using this
theorem sF (s:ByteArray) (k:Nat) (hk:k<s.size):s.data.toList.take (k+1)=s.data.toList.take k++[s[k]]:=by
 rw [List.take_succ_eq_append_getElem (by simpa using hk)];rfl
theorem vv (s:ByteArray):s.data.toList.take s.size=s.data.toList:=List.take_of_length_le (by simp)
theorem xX (c:UInt8):(0:Int) <= (c.toNat:Int)∧(c.toNat:Int)<256:=by have:=c.toNat_lt;omega
theorem A7 {p s:ByteArray} (h:(p.toList==s.toList)=true):p.data.toList=s.data.toList:=by
 rw [Lib.toList_data,Lib.toList_data]at h;exact eq_of_beq h
theorem A8 {p s:ByteArray} (h:(p.toList==s.toList)=false):p.data.toList≠s.data.toList:=by
 rw [Lib.toList_data,Lib.toList_data]at h;intro e;rw [e]at h;simp at h
theorem cZ (s:ByteArray) (i:Nat) (h:i<s.size):s.data.toList.drop i=s[i]::s.data.toList.drop (i+1):=by
 rw [List.drop_eq_getElem_cons (by simpa using h)];rfl
theorem ee (s:ByteArray) (i:Nat) (h:s.size <= i):s.data.toList.drop i=[]:=List.drop_eq_nil_of_le (by simpa using h)
theorem Cp {x:ByteArray} {l:List UInt8} (h:x.data.toList=l):Ending.returned (.string x)=.returned (.string ⟨l.toArray⟩):=by rw [<- h,Lib.mk_data]
theorem A0 {x:ByteArray} {l:List UInt8} (h:x.data.toList=l):x=⟨l.toArray⟩:=by rw [<- h,Lib.mk_data]
theorem iw {p:List UInt8×Bool} {x:ByteArray} {b:Bool} (h:p=(x.data.toList,b)):Ending.returned (.tuple #[.string x,.bool b])=.returned (.tuple #[.string ⟨p.1.toArray⟩,.bool p.2]):=by rw [h,Lib.mk_data]
theorem bY {p:List UInt8×Nat×Bool} {x:ByteArray} {n:Int} {m:Nat} {b:Bool} (h:p=(x.data.toList,m,b)) (hn:n=m):Ending.returned (.tuple #[.string x,.int .i64 n,.bool b])=.returned (.tuple #[.string ⟨p.1.toArray⟩,.int .i64 p.2.1,.bool p.2.2]):=by rw [h,hn,Lib.mk_data]
theorem iC {a b:ByteArray} (h:a.data.toList=b.data.toList):a=b:=by rw [A0 h,Lib.mk_data]
theorem cS {s:ByteArray} (h:0<s.size):s.toList.isEmpty=false:=by
 rw [Lib.toList_data];cases hl:s.data.toList with
 |nil=>rw [Lib.size_eq,hl]at h;exact absurd h (by simp)
 |cons _ _=>rfl
theorem cE {s:ByteArray} (h:s.size=0):s.toList.isEmpty=true:=by
 rw [Lib.toList_data];have:s.data.toList=[]:=List.eq_nil_of_length_eq_zero (by rw [<- Lib.size_eq];exact h);rw [this];rfl
end Go.Proofs.YtcannffahjbjnaaGreatDoor
namespace Go.Proofs.YtcannffahjbjnaaGreatDoor
open Go
section
variable {P:Program} {ops:Array Oper} {Q:Exit ->Act ->World ->Prop} {md:Region.Mode} {S:Nat ->World ->Prop}
def eP (P:Program) (md:Region.Mode) (ops:Array Oper) (Q:Exit ->Act ->World ->Prop) (S:Nat ->World ->Prop):Nat ->Array Bool ->Act ->World ->Prop
 |0,listed,a,w=>Region.ready md ops listed=[]∧Q .normal a w
 |fuel+1,listed,a,w=>
  (Region.ready md ops listed=[] ->Q .normal a w)∧
  ∀i∈Region.ready md ops listed,wpOp P ops Q i (fun a' w'=>S i w'∧eP P md ops Q S fuel (listed.setIfInBounds i true) a' w') a w
theorem qS:∀(fuel:Nat) (listed:Array Bool) (a:Act) (w:World),eP P md ops Q S fuel listed a w ->wpAny P md ops Q fuel listed a w
 |0,_,_,_,h=>h
 |fuel+1,_,_,_,h=>⟨h.1,fun i hi=>wpOp_mono (fun a' w' h'=>qS fuel _ a' w' h'.2) (h.2 i hi)⟩
def ij (md:Region.Mode) (ops:Array Oper) (listed:Array Bool):Prop:=listed.size=ops.size∧∀j oj,ops[j]? =some oj ->listed.getD j false=true ->∀e∈oj.after,Region.binds md e=true ->listed.getD e.on false=true
theorem zo {l:Array Bool} {i:Nat} (h:l.getD i true=false):l.getD i false=false:=by
 rcases Nat.lt_or_ge i l.size with h'|h'
 ·simp [h']at h⊢;exact h
 ·simp [Array.getElem?_eq_none h']at h
theorem ij.set {listed:Array Bool} (h:ij md ops listed) {i:Nat} (hi:i∈Region.ready md ops listed):ij md ops (listed.setIfInBounds i true):=by
 obtain ⟨_,oi,hoi,hall⟩:=mem_ready.1 hi;refine ⟨by simp [h.1],fun j oj hj hl e he hb=>?_⟩;by_cases hij:i=j
 ·subst hij;obtain rfl:oj=oi:=Option.some.inj (hj.symm.trans hoi);exact getD_set_true (hall e he hb)
 ·rw [getD_set_ne false hij]at hl;exact getD_set_true (h.2 j oj hj hl e he hb)
theorem zp {l:Array Bool} {i k:Nat} (h:l.getD k true=true):(l.setIfInBounds i true).getD k true=true:=by
 by_cases hik:i=k
 ·subst hik;rcases Nat.lt_or_ge i l.size with h'|h'
  ·simp [h']
  ·simp [Array.getElem?_eq_none h']
 ·rw [getD_set_ne true hik];exact h
def ki (md:Region.Mode) (ops:Array Oper):Nat ->Nat ->Nat ->Bool
 |0,_,_=>false
 |n+1,t,i=>match ops[t]? with
  |some o=>o.after.any fun e=>Region.binds md e&&(e.on==i||ki md ops n e.on i)
  |none=>false
theorem nh {l:Array Bool} {i:Nat} (hsh:ij md ops l):∀n t,ki md ops n t i=true ->l.getD t false=true ->l.getD i false=true
 |0,_,h,_=>by simp [ki]at h
 |n+1,t,h,ht=>by
  unfold ki at h;cases ho:ops[t]? with
  |none=>rw [ho]at h;cases h
  |some o=>
   rw [ho]at h;obtain ⟨e,he,hb⟩:=Array.any_eq_true'.1 h;simp only [Bool.and_eq_true,Bool.or_eq_true,beq_iff_eq]at hb;have h1:=hsh.2 t o ho ht e he hb.1;rcases hb.2 with h2|h2
   ·rw [<- h2];exact h1
   ·exact nh hsh n e.on h2 h1
theorem uU {l:Array Bool} {i t n:Nat} (hsh:ij md ops l) (h:ki md ops n t i=true) (hr:t∈Region.ready md ops l):l.getD i false=true:=by
 obtain ⟨_,o,ho,hall⟩:=mem_ready.1 hr;cases n with
 |zero=>simp [ki]at h
 |succ n=>
  unfold ki at h;rw [ho]at h;obtain ⟨e,he,hb⟩:=Array.any_eq_true'.1 h;simp only [Bool.and_eq_true,Bool.or_eq_true,beq_iff_eq]at hb;have h1:=hall e he hb.1;rcases hb.2 with h2|h2
  ·rw [<- h2];exact h1
  ·exact nh hsh n e.on h2 h1
def AU (md:Region.Mode) (ops:Array Oper) (listed:Array Bool) (i:Nat) (G:List Nat):Bool:=
 (List.range ops.size).all fun j=>listed.getD j true||j==i||ki md ops ops.size j i||G.contains j
theorem tD {S0:World ->Prop} {i:Nat} {oi:Oper} {v:Value} (hi:ops[i]? =some oi) (hsel:∀(j:Nat) (o:Oper) cs b,ops[j]? =some o ->o.op≠ .select cs b)
  (hQ:∀c a w,Q (.panic c) (a.put oi.dst v) w ->Q (.panic c) a w) (hSi:∀w,S0 w ->S i w)
  (l0:Array Bool) (hS0:∀(j:Nat) (l:Array Bool),ij md ops l ->(∀k,l0.getD k true=true ->l.getD k true=true) ->l.getD i true=false ->j∈Region.ready md ops l ->j≠i ->∀w,S j w ->S0 w):
  ∀(fuel:Nat) (listed:Array Bool) (a:Act) (w:World),ij md ops listed ->(∀k,l0.getD k true=true ->listed.getD k true=true) ->
   (∀j oj,ops[j]? =some oj ->j≠i ->listed.getD j true=false ->(∀e∈oj.after,Region.binds md e=true ->e.on≠i) ->oi.apart ops oj=true) ->
   i∈Region.ready md ops listed ->YieldsIf P ops S0 oi v a ->S0 w ->
   eP P md ops Q S fuel (listed.setIfInBounds i true) (a.put oi.dst v) w ->eP P md ops Q S (fuel+1) listed a w:=by
 intro fuel;induction fuel with
 |zero=>
  intro listed a w _ _ _ hr hy hS H;refine ⟨fun h=>(by rw [h]at hr;cases hr),fun j hj=>?_⟩;by_cases hji:j=i
  ·subst hji;exact hy.wpOp hi hS ⟨hSi w hS,H⟩
  ·have:=ready_mono hj hji;rw [H.1]at this;cases this
 |succ fuel ih=>
  intro listed a w hsh hext hfree hr hy hS H;refine ⟨fun h=>(by rw [h]at hr;cases hr),fun j hj=>?_⟩;by_cases hji:j=i
  ·subst hji;exact hy.wpOp hi hS ⟨hSi w hS,H⟩
  ·have h1:=H.2 j (ready_mono hj hji);obtain ⟨hjun,oj,hoj,hall⟩:=mem_ready.1 hj;have hnot:∀e∈oj.after,Region.binds md e=true ->e.on≠i:=fun e he hb heq=>by
    have h1:=hall e he hb;have h0:=(mem_ready.1 hr).1;rw [heq]at h1;rcases Nat.lt_or_ge i listed.size with h'|h'
    ·simp [h']at h0 h1;rw [h0]at h1;cases h1
    ·simp [Array.getElem?_eq_none h']at h1
   have h2:=wpOp_putIf hoj (hfree j oj hoj hji hjun hnot) (fun cs b=>hsel i oi cs b hi) (fun cs b=>hsel j oj cs b hoj) hQ hy h1
   have hfree':∀k ok,ops[k]? =some ok ->k≠i ->(listed.setIfInBounds j true).getD k true=false ->
     (∀e∈ok.after,Region.binds md e=true ->e.on≠i) ->oi.apart ops ok=true:=fun k ok hk hki hun hno=>by
    refine hfree k ok hk hki ?_ hno;by_cases hjk:j=k
    ·subst hjk;exact hjun
    ·rw [getD_set_ne true hjk]at hun;exact hun
   refine wpOp_mono (fun a' w' h3=>⟨h3.2.1,ih (listed.setIfInBounds j true) a' w' (hsh.set hj) (fun k hk=>zp (hext k hk)) hfree' (ready_mono hr (Ne.symm hji)) h3.1 (hS0 j listed hsh hext (mem_ready.1 hr).1 hj hji w' h3.2.1) ?_⟩) h2;rw [Array.setIfInBounds_comm _ _ hji];exact h3.2.2
def pz (md:Region.Mode) (ops:Array Oper) (listed:Array Bool):Bool:=
 listed.size==ops.size&&(List.range ops.size).all fun j=>match ops[j]? with
  |some oj=> !(listed.getD j false)||oj.after.all fun e=> !(Region.binds md e)||listed.getD e.on false
  |none=>true
theorem ij.of {listed:Array Bool} (h:pz md ops listed=true):ij md ops listed:=by
 unfold pz at h;simp only [Bool.and_eq_true,beq_iff_eq]at h;refine ⟨h.1,fun j oj hj hl e he hb=>?_⟩;have h1:=List.all_eq_true.1 h.2 j (List.mem_range.2 (Array.getElem?_eq_some_iff.1 hj).1);simp only [hj,hl,Bool.not_true,Bool.false_or]at h1;have h2:=Array.all_eq_true'.1 h1 e he;simpa [hb]using h2
theorem fY {S0:World ->Prop} {i:Nat} {oi:Oper} {v:Value} {fuel:Nat} {listed:Array Bool} {a:Act} {w:World} (hi:ops[i]? =some oi)
  (hs:Region.noSelect ops=true) (hf:Region.free md ops listed i=true) (hr:(Region.ready md ops listed).contains i=true) (hsh:pz md ops listed=true) (G:List Nat) (hG:AU md ops listed i G=true)
  (hQ:∀c a w,Q (.panic c) (a.put oi.dst v) w ->Q (.panic c) a w) (hSi:∀w,S0 w ->S i w)
  (hS0:∀j∈G,∀w,S j w ->S0 w)
  (d:Option Tmp) (hd:oi.dst=d) (hy:YieldsIf P ops S0 oi v a) (hS:S0 w)
  (h:eP P md ops Q S fuel (listed.setIfInBounds i true) (a.put d v) w):eP P md ops Q S (fuel+1) listed a w:=by
 subst hd;exact tD hi (Region.noSelect_spec hs) hQ hSi listed (fun j l hl hext hun hj hji w' h1=>by
  have hjl:=mem_ready.1 hj;obtain ⟨_,oj,hoj,_⟩:=hjl;have h2:=List.all_eq_true.1 hG j (List.mem_range.2 (Array.getElem?_eq_some_iff.1 hoj).1);simp only [Bool.or_eq_true,beq_iff_eq,List.contains_iff_mem]at h2;rcases h2 with ((h2|h2)|h2)|h2
  ·have:=hext j h2;rw [(mem_ready.1 hj).1]at this;cases this
  ·exact absurd h2 hji
  ·have:=uU hl h2 hj;rw [zo hun]at this;cases this
  ·exact hS0 j h2 w' h1) fuel listed a w (ij.of hsh) (fun _ h=>h) (Region.free_spec hi hf) (by simpa using hr) hy hS h
def vu (md:Region.Mode) (ops:Array Oper) (listed:Array Bool) (i:Nat) (G:List Nat):Bool:=
 Region.noSelect ops&&Region.free md ops listed i&&(Region.ready md ops listed).contains i&&pz md ops listed&&AU md ops listed i G
theorem ju (i d:Nat) (v:Value) {oi:Oper} {fuel:Nat} {listed:Array Bool} {l:List Value} {ds:List Deferred} {w:World} (hi:ops[i]? =some oi) (hB:vu md ops listed i (List.range ops.size)=true)
  (hQ:∀c a w,Q (.panic c) (a.put oi.dst v) w ->Q (.panic c) a w) (hSi:∀w,S i w) (hd:oi.dst=some d) (hy:YieldsIf P ops (fun _=>True) oi v ⟨l.toArray,ds⟩)
  (h:eP P md ops Q S fuel (listed.setIfInBounds i true) ⟨(l.set d v).toArray,ds⟩ w):eP P md ops Q S (fuel+1) listed ⟨l.toArray,ds⟩ w:=by
 unfold vu at hB;simp only [Bool.and_eq_true]at hB;obtain ⟨⟨⟨⟨h1,h2⟩,h3⟩,h4⟩,h5⟩:=hB;refine fY (S0:=fun _=>True) hi h1 h2 h3 h4 _ h5 hQ (fun w _=>hSi w) (fun _ _ _ _=>trivial) (some d) hd hy trivial ?_;rw [show (⟨l.toArray,ds⟩:Act).put (some d) v=⟨(l.set d v).toArray,ds⟩ by simp [Act.put]];exact h
theorem ga {L:List Nat} {F:World ->Prop} (i d:Nat) (v:Value) {oi:Oper} {fuel:Nat} {listed:Array Bool} {l:List Value} {ds:List Deferred} {w:World} (hi:ops[i]? =some oi) (G:List Nat) (hB:vu md ops listed i G=true)
  (hQ:∀c a w,Q (.panic c) (a.put oi.dst v) w ->Q (.panic c) a w) (hG:(G.all fun j=>L.contains j)=true) (hd:oi.dst=some d) (hy:YieldsIf P ops F oi v ⟨l.toArray,ds⟩) (hF:F w)
  (h:eP P md ops Q (fun j W'=>L.contains j=true ->F W') fuel (listed.setIfInBounds i true) ⟨(l.set d v).toArray,ds⟩ w):eP P md ops Q (fun j W'=>L.contains j=true ->F W') (fuel+1) listed ⟨l.toArray,ds⟩ w:=by
 unfold vu at hB;simp only [Bool.and_eq_true]at hB;obtain ⟨⟨⟨⟨h1,h2⟩,h3⟩,h4⟩,h5⟩:=hB;refine fY (S0:=F) hi h1 h2 h3 h4 G h5 hQ (fun w hw _=>hw) (fun j hj w hs=>hs (by simpa using List.all_eq_true.1 hG j hj)) (some d) hd hy hF ?_;rw [show (⟨l.toArray,ds⟩:Act).put (some d) v=⟨(l.set d v).toArray,ds⟩ by simp [Act.put]];exact h
theorem bC (i d:Nat) {v:Value} {oi:Oper} {fuel:Nat} {listed:Array Bool} {l:List Value} {ds:List Deferred} {w:World} (h:eP P md ops Q S fuel (listed.setIfInBounds i true) ⟨(l.set d v).toArray,ds⟩ w)
  (hi:ops[i]? =some oi:=by exact rfl) (hB:vu md ops listed i (List.range ops.size)=true:=by kernel_rfl)
  (hQ:∀c a w,Q (.panic c) (a.put oi.dst v) w ->Q (.panic c) a w:=by exact fun _ _ _ h=>h) (hSi:∀w,S i w:=by exact fun _ h=>absurd h (by decide)) (hd:oi.dst=some d:=by exact rfl)
  (hy:YieldsIf P ops (fun _=>True) oi v ⟨l.toArray,ds⟩:=by exact Or.inl ⟨by rfl,by intro w' _;go_simp<;>with_reducible rfl⟩):eP P md ops Q S (fuel+1) listed ⟨l.toArray,ds⟩ w:=
 ju i d v hi hB hQ hSi hd hy h
theorem ac {i:Nat} {o:Oper} {fuel:Nat} {listed:Array Bool} {a:Act} {w:World} (hr:Region.ready md ops listed=[i]) (ho:ops[i]? =some o)
  (h:∀K':Act ->World ->Prop,(∀a w,S i w∧eP P md ops Q S fuel (listed.setIfInBounds i true) a w ->K' a w) ->if Region.wanted o (yielded ops a.tmps)=true then Oper.wp P o a w K' Q else K' (a.put o.dst undef) w):
  eP P md ops Q S (fuel+1) listed a w:=
 ⟨fun h0=>(by rw [hr]at h0;cases h0),by rw [hr];intro j hj;rw [List.mem_singleton.1 hj];exact wpOp_step ho h⟩
theorem aP {listed:Array Bool} {a:Act} {w:World} (hr:Region.ready md ops listed=[]) (h:Q .normal a w):∀fuel,eP P md ops Q S fuel listed a w
 |0=>⟨hr,h⟩
 |_+1=>⟨fun _=>h,by rw [hr];simp⟩
theorem aQ {id:Nat} {a:Act} {w:World} (hm:P.follows .mixedOrders=true)
  (h:eP P .any ops Q S ops.size (Array.replicate ops.size false) a w.drew):(Code.region id ops true).wp P Q a w:=
 wp_region_any hm (qS _ _ _ _ h)
end
end Go.Proofs.YtcannffahjbjnaaGreatDoor
