import Derived.Test.YtcannffahjbjnaaGreatDoorVwBW
set_option linter.unusedVariables false
set_option linter.unusedSimpArgs false
set_option maxRecDepth 100000
set_option maxHeartbeats 64000000
namespace Go.Proofs.YtcannffahjbjnaaGreatDoor
def A9 (c:UInt8):Bool:=c !=113&&c !=81&&c !=38
def Cl (s:List UInt8):Prop:=∀c∈s,A9 c=true
def yK (s:List UInt8):Prop:=(113:UInt8)∉s
theorem Cl.nil:Cl []:=fun c h=>by cases h
theorem Cl.app {a b:List UInt8} (ha:Cl a) (hb:Cl b):Cl (a++b):=fun c h=>by
 rcases List.mem_append.1 h with h|h
 ·exact ha c h
 ·exact hb c h
theorem Cl.cons {c:UInt8} {s:List UInt8} (h:A9 c=true) (hs:Cl s):Cl (c::s):=fun d hd=>by
 rcases List.mem_cons.1 hd with rfl|hd
 ·exact h
 ·exact hs d hd
theorem Cl.sub {a b:List UInt8} (h:Cl b) (hs:a.Sublist b):Cl a:=fun c hc=>h c (hs.subset hc)
theorem Cl.noq {s:List UInt8} (h:Cl s):yK s:=fun hm=>absurd (h 113 hm) (by decide)
theorem yK.nil:yK []:=fun h=>by cases h
theorem yK.app {a b:List UInt8} (ha:yK a) (hb:yK b):yK (a++b):=fun h=>by
 rcases List.mem_append.1 h with h|h
 ·exact ha h
 ·exact hb h
structure Ex (b:am):Prop where
 bl:∀x∈b.blocks,Cl x.text∧Cl x.info
 at':∀a∈b.atoms,Cl a.label∧Cl a.text
 df:∀d∈b.defs,yK d.name∧yK d.text∧yK d.url∧yK d.title
 dg:∀d∈b.diags,yK d.text
theorem xO {α:Type} {P:α ->Prop} {l:List α} (h:∀x∈l,P x) {y:α} (hy:P y):∀x∈l++[y],P x:=fun x hx=>by
 rcases List.mem_append.1 hx with hx|hx
 ·exact h x hx
 ·rw [List.mem_singleton.1 hx];exact hy
theorem Ex.diag {b:am} (h:Ex b) (k:Nat) {t:List UInt8} (ht:yK t):Ex (b.diag k t):=⟨h.bl,h.at',h.df,xO h.dg ht⟩
theorem Ex.label {b:am} (h:Ex b) (z:aS) {x:List UInt8} (hx:Cl x):Ex (b.label z x):=by
 unfold am.label;split
 ·exact h.diag 1 hx.noq
 ·exact h
def Cm (s:List UInt8) (i:Nat):List UInt8:=
 if (Lib.decodeL (s.drop i)).1=0∨(Lib.decodeL (s.drop i)).1=65533 then iW else if (Lib.decodeL (s.drop i)).1=13 then [10]else if (Lib.decodeL (s.drop i)).1=10∧0<i∧s[i - 1]? =some 13 then []else Lib.encodeRune ((Lib.decodeL (s.drop i)).1:Int)
theorem qz {s:List UInt8} {i:Nat} (hi:i<s.length) (f:Nat):bQ (f+1) s i=Cm s i++bQ f s (i+(Lib.decodeL (s.drop i)).2):=by
 rw [bQ,if_neg (by omega)];rfl
structure yJ (b:am):Prop where
 at':∀a∈b.atoms,a.label.length <= 40
 dg:∀d∈b.diags,d.text.length <= 100
theorem yJ.diag {b:am} (h:yJ b) (k:Nat) {t:List UInt8} (ht:t.length <= 100):yJ (b.diag k t):=⟨h.at',xO h.dg ht⟩
theorem yJ.label {b:am} (h:yJ b) (z:aS) {x:List UInt8} (hx:x.length <= 40):yJ (b.label z x):=by
 unfold am.label;split
 ·exact h.diag 1 (by omega)
 ·exact h
theorem tR {z:aS} {l:List af} {R:qX} (ok:pm l):∀(n i:Nat) (q:qX),i+n=l.length ->jG z l R i q ->jG z l R l.length R
 |0,i,q,hn,h=>by
  obtain rfl:i=l.length:=(by omega);have:=h.fo;rw [List.drop_length]at this;obtain rfl:q=R:=this;exact h
 |n+1,i,q,hn,h=>tR ok n (i+1) _ (by omega) (h.next ok (List.getElem?_eq_getElem (show i<l.length by omega)))
theorem vx:∀(l:List aI) (b:am),(∀x∈l,x.text.length <= 500000) ->(l.foldl cK b).blocks.length <= b.blocks.length+l.length∧(l.foldl cK b).atoms=b.atoms∧(l.foldl cK b).defs.length <= b.defs.length+500000*l.length∧(l.foldl cK b).diags.length <= b.diags.length+500000*l.length
 |[],b,_=>⟨by simp,rfl,by simp,by simp⟩
 |x::l,b,h=>by
  obtain ⟨h1,h2,h3,h4⟩:=vx l (cK b x) (fun y hy=>h y (List.mem_cons_of_mem _ hy));obtain ⟨p,hb⟩:=yA b x;have hx:=h x (List.mem_cons_self ..);have p2:=p.nd;have p3:=p.ng;have p4:=p.at';simp only at p2 p3 p4;rw [List.foldl_cons,List.length_cons];exact ⟨by omega,by rw [h2,p4],by omega,by omega⟩
theorem yW {z:aS} {doc:List UInt8} (hd:doc.length <= 6000):(fG z doc).blocks.length <= 1000000∧(fG z doc).atoms.length <= 1000000∧(fG z doc).defs.length <= 1000000000000∧(fG z doc).diags.length <= 1000000000000:=by
 obtain ⟨ok,_,_⟩:=qu doc hd;have hf:=tR ok (bF (aO (aR doc))).length 0 _ (by omega) (jG.start z ok rfl);have h1:=hf.na;have h2:=hf.ng;have h3:=hf.nb;have h4:=hf.df;unfold fG nC;obtain ⟨g1,g2,g3,g4⟩:=vx _ {((bF (aO (aR doc))).foldl (cO z) (am.none,[],none)).1 with blocks:=[]} (fun x hx=>(hf.bt x hx).1);have h5:=congrArg List.length h4
 dsimp only [List.length_nil]at g1 g3 g4 h5
 refine ⟨by omega,by rw [g2];dsimp only;omega,by omega,by omega⟩
end Go.Proofs.YtcannffahjbjnaaGreatDoor
