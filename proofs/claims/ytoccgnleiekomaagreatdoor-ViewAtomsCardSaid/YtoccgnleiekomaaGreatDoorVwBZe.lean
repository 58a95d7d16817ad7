import Derived.Test.YtoccgnleiekomaaGreatDoorVwBZd
set_option linter.unusedVariables false
set_option linter.unusedSimpArgs false
namespace Go.Proofs.YtoccgnleiekomaaGreatDoor
set_option linter.unusedVariables false
set_option linter.unusedSimpArgs false
def labOf (x:Nat):List UInt8:=diaNames.getD x []
def atomText1 (i:Nat):List UInt8:=[116,UInt8.ofNat (97+i)]
def atomLine (i x:Nat):List UInt8:=[112,32,123,124]++labOf x++58::(atomText1 i++[124,125,32,113])
def atomsLines:Nat→List Nat→List (List UInt8)
 |_,[]=>[]
 |i,x::xs=>atomLine i x::[]::atomsLines (i+1) xs
def textV (n:Nat):List UInt8:=[112,32,0]++Lib.decDigits n++[0,32,113]
def hidT:List UInt8:=[112,32,32,113]
def resT (z:SeerL):Nat→Nat→List Nat→List (List UInt8)
 |_,_,[]=>[]
 |i,n,x::xs=>if z.see1 (labOf x)=true then textV n::resT z (i+1) (n+1) xs else hidT::resT z (i+1) n xs
def resA (z:SeerL):Nat→List Nat→List AtomT
 |_,[]=>[]
 |i,x::xs=>if z.see1 (labOf x)=true then ⟨labOf x,atomText1 i⟩::resA z (i+1) xs else resA z (i+1) xs
def spaced:List (List UInt8)→List (List UInt8)
 |[]=>[]
 |t::l=>t::[]::spaced l
theorem atom_span:∀(i:Fin 12) (x:Fin 4),spansL (atomLine i.val x.val)=[⟨false,[],[112,32]⟩,⟨true,labOf x.val,atomText1 i.val⟩,⟨false,[],[32,113]⟩]:=by decide+kernel
theorem atom_nohead:∀(i:Fin 12) (x:Fin 4),(headingL (atomLine i.val x.val)).2.2=false:=by decide+kernel
theorem atom_chars:∀(i:Fin 12) (x:Fin 4),∀c∈atomLine i.val x.val,okB c=true∧c≠10:=by decide+kernel
theorem text_chars:∀(n:Fin 13),(10:UInt8)∉textV n.val∧(textV n.val).getLast? =some 113:=by decide+kernel
theorem atom_line (z:SeerL) (b:VwSt) (i x:Nat) (hi:i<12) (hx:x<4) (hk:z.unk (labOf x)=false):
  lineV z b (atomLine i x) []=if z.see1 (labOf x)=true then (textV b.atoms.length,{b with atoms:=b.atoms++[⟨labOf x,atomText1 i⟩]})else (hidT,b):=by
 have h1:=atom_span ⟨i,hi⟩ ⟨x,hx⟩;have h2:=atom_nohead ⟨i,hi⟩ ⟨x,hx⟩;simp only at h1 h2;unfold lineV;rw [h2,if_neg (by simp),h1];by_cases hs:z.see1 (labOf x)=true
 ·rw [if_pos hs];simp [pieceV,SeerL.sees,hs,VwSt.label,hk,textV]
 ·rw [if_neg hs];simp [pieceV,SeerL.sees,hs,hidT]
theorem lineV_nil (z:SeerL) (b:VwSt) (u:List (List UInt8)):lineV z b [] u=([],b):=line_plain z b [] u (by simp)
theorem atoms_lines (z:SeerL):∀(xs:List Nat) (i:Nat) (b:VwSt),i+xs.length≤12→(∀x∈xs,x<4∧z.unk (labOf x)=false)→
  linesV z [] (atomsLines i xs) b=(spaced (resT z i b.atoms.length xs),{b with atoms:=b.atoms++resA z i xs})
 |[],i,b,_,_=>by simp [atomsLines,linesV,resT,spaced,resA]
 |x::xs,i,b,hi,h=>by
  obtain ⟨hx,hk⟩:=h x (List.mem_cons_self ..);have hl:=atom_line z b i x (by simp at hi;omega) hx hk;rw [atomsLines,linesV,hl];by_cases hs:z.see1 (labOf x)=true
  ·rw [if_pos hs];simp only;rw [linesV,lineV_nil];simp only;rw [atoms_lines z xs (i+1) _ (by simp at hi;omega) (fun y hy=>h y (List.mem_cons_of_mem _ hy))];simp [resT,hs,spaced,resA]
  ·rw [if_neg hs];simp only;rw [linesV,lineV_nil];simp only;rw [atoms_lines z xs (i+1) _ (by simp at hi;omega) (fun y hy=>h y (List.mem_cons_of_mem _ hy))];simp [resT,hs,spaced,resA]
def IsT (t:List UInt8):Prop:=∃u,t=112::u∧(10:UInt8)∉t∧t.getLast? =some 113
theorem resT_is (z:SeerL):∀(xs:List Nat) (i n:Nat),n+xs.length≤12→∀t∈resT z i n xs,IsT t
 |[],_,_,_,t,ht=>by simp [resT]at ht
 |x::xs,i,n,hn,t,ht=>by
  rw [resT]at ht;simp at hn;split at ht
  ·rcases List.mem_cons.1 ht with rfl|ht
   ·have:=text_chars ⟨n,by omega⟩;exact ⟨_,rfl,this.1,this.2⟩
   ·exact resT_is z xs (i+1) (n+1) (by omega) t ht
  ·rcases List.mem_cons.1 ht with rfl|ht
   ·exact ⟨_,rfl,by decide,by decide⟩
   ·exact resT_is z xs (i+1) n (by omega) t ht
def paraOf (t:List UInt8):BlkL:=⟨1,0,0,false,t,[]⟩
theorem blocks_spaced (W:Nat→List (List UInt8)→List BlkL):∀(ts:List (List UInt8)) (f:Nat),(∀t∈ts,IsT t)→(spaced ts).length<f→allGoB W f 0 (spaced ts)=ts.map paraOf
 |[],f,_,hf=>by
  obtain ⟨f,rfl⟩:∃g,f=g+1:=⟨f - 1,by simp [spaced]at hf;omega⟩
  simp [spaced,allGoB]
 |t::ts,f,h,hf=>by
  obtain ⟨u,hu,_,hlast⟩:=h t (List.mem_cons_self ..);obtain ⟨f,rfl⟩:∃g,f=g+2:=⟨f - 2,by simp [spaced]at hf;omega⟩
  have hr:rstripL blankB t=t:=rstrip_none _ _ (by rw [hlast];rfl);have hn:=next_lines W 0 t [] ([]::spaced ts) (fun x hx=>by rw [List.mem_singleton.1 hx];exact ⟨112,u,hu,by decide⟩) (.inr ⟨_,rfl⟩);rw [show joinLf [t]=t from rfl,hr]at hn;rw [spaced,allGoB,if_neg (by simp),show t::[]::spaced ts=[t]++[]::spaced ts from rfl,hn];simp only [List.length_nil,Nat.zero_add];rw [show List.drop 1 ([t]++[]::spaced ts)=[]::spaced ts from rfl,allGoB,if_neg (by simp),nextB_blank];simp only;rw [show List.drop 1 ([]::spaced ts)=spaced ts from rfl,blocks_spaced W ts f (fun x hx=>h x (List.mem_cons_of_mem _ hx)) (by simp [spaced]at hf;omega)];rfl
theorem tidy_texts (b0:VwSt):∀(ts:List (List UInt8)) (bl:List BlkL),(∀t∈ts,IsT t)→(ts.map paraOf).foldl tidyStep {b0 with blocks:=bl}={b0 with blocks:=bl++ts.map paraOf}
 |[],bl,_=>by simp
 |t::ts,bl,h=>by
  obtain ⟨u,rfl,h10,_⟩:=h t (List.mem_cons_self ..);have hl:(lineL (restoreL (112::u) b0.atoms)).2=false:=(by rw [line_head _ (by rw [restore_head _ _ _ (by decide)];simp)]);have hp:paraV ((112::u).length+1) {b0 with blocks:=bl} (112::u)=(112::u,{b0 with blocks:=bl}):=by
   rw [paraV,if_neg (by simp)];simp only [cut_miss 10 _ h10,hl];rfl
  have hs:tidyStep {b0 with blocks:=bl} (paraOf (112::u))={b0 with blocks:=bl++[paraOf (112::u)]}:=by
   unfold tidyStep;rw [if_pos (show (paraOf (112::u)).kind=1 from rfl)];simp only [paraOf,hp];rw [if_neg (by simp)]
  rw [List.map_cons,List.foldl_cons,hs,tidy_texts b0 ts _ (fun x hx=>h x (List.mem_cons_of_mem _ hx))];simp
def atomsDoc (xs:List Nat):List UInt8:=joinL (atomsLines 0 xs)
theorem atomsLines_chars:∀(xs:List Nat) (i:Nat),i+xs.length≤12→(∀x∈xs,x<4)→∀s∈atomsLines i xs,(∀c∈s,okB c=true∧c≠10)∧noDiv s=true
 |[],_,_,_,s,hs=>by simp [atomsLines]at hs
 |x::xs,i,hi,hx,s,hs=>by
  rw [atomsLines]at hs;rcases List.mem_cons.1 hs with rfl|hs
  ·refine ⟨atom_chars ⟨i,by simp at hi;omega⟩ ⟨x,hx x (List.mem_cons_self ..)⟩,?_⟩;unfold noDiv;rw [opens_head _ (by simp [atomLine])];rfl
  ·rcases List.mem_cons.1 hs with rfl|hs
   ·exact ⟨fun c hc=>(by cases hc),by decide⟩
   ·exact atomsLines_chars xs (i+1) (by simp at hi;omega) (fun y hy=>hx y (List.mem_cons_of_mem _ hy)) s hs
theorem atoms_law (z:SeerL) (xs:List Nat) (hl:xs.length≤12) (h:∀x∈xs,x<4∧z.unk (labOf x)=false):
  (buildL z (atomsDoc xs)).blocks=(resT z 0 0 xs).map paraOf∧(buildL z (atomsDoc xs)).atoms=resA z 0 xs:=by
 have hc:=atomsLines_chars xs 0 (by omega) (fun x hx=>(h x hx).1);have hlines:linesL (repairL (atomsDoc xs))=atomsLines 0 xs:=by
  rw [repair_plain]
  ·exact lines_join _ fun x hx e=>((hc x hx).1 _ e).2 rfl
  ·intro c hcc;unfold atomsDoc joinL at hcc;obtain ⟨x,h1,h2⟩:=List.mem_flatMap.1 hcc;rcases List.mem_append.1 h2 with h2|h2
   ·exact ((hc x h1).1 c h2).1
   ·rw [List.mem_singleton.1 h2];decide
 unfold buildL;rw [hlines];cases xs with
 |nil=>simp [atomsLines,frameL,tidyV,VwSt.none,resT,resA]
 |cons x xs=>
  have hne:atomsLines 0 (x::xs)=atomLine 0 x::[]::atomsLines 1 xs:=rfl;have hf:frameL (atomsLines 0 (x::xs))=[⟨0,false,[],false,atomsLines 0 (x::xs)⟩]:=by
   rw [hne];exact frame_plain _ _ (fun y hy=>(hc y (by rw [hne];exact hy)).2)
  have ht:=resT_is z (x::xs) 0 0 (by omega);have hb:blocksL (spaced (resT z 0 0 (x::xs)))=(resT z 0 0 (x::xs)).map paraOf:=by
   unfold blocksL;rw [blocksK];exact blocks_spaced _ _ _ ht (by omega)
  have hv:=atoms_lines z (x::xs) 0 VwSt.none (by omega) h;have hd:((resT z 0 0 (x::xs)).map paraOf).map (fun y=>{y with depth:=y.depth+0})=(resT z 0 0 (x::xs)).map paraOf:=by
   rw [List.map_map];rfl
  have hn:VwSt.none.atoms.length=0:=rfl;rw [hn]at hv;rw [hf];have hp:partV z (VwSt.none,[],none) ⟨0,false,[],false,atomsLines 0 (x::xs)⟩=({VwSt.none with atoms:=resA z 0 (x::xs),blocks:=(resT z 0 0 (x::xs)).map paraOf},[],none):=by
   unfold partV runV;simp only [List.take_nil,hv,hb,hd];simp [VwSt.none]
  rw [List.foldl_cons,List.foldl_nil,hp];unfold tidyV;have:=tidy_texts {VwSt.none with atoms:=resA z 0 (x::xs)} (resT z 0 0 (x::xs)) [] ht;simp only [VwSt.none]at this⊢;rw [this];simp
theorem restore_pre (ts:List AtomT) (y:List UInt8):∀(a:List UInt8),(0:UInt8)∉a→restoreL (a++y) ts=a++restoreL y ts
 |[],_=>rfl
 |c::a,h=>by
  rw [List.cons_append,restore_cons (fun e=>h (by rw [e];exact List.mem_cons_self ..)),restore_pre ts y a (fun e=>h (List.mem_cons_of_mem _ e))];rfl
theorem next_text:∀n:Fin 12,nextL (0::(Lib.decDigits n.val++[0,32,113]))=(.atom n.val,(Lib.decDigits n.val).length+2):=by decide+kernel
theorem restore_text (ts:List AtomT) (n:Nat) (hn:n<12):restoreL (textV n) ts=[112,32]++(atomText ts n++[32,113]):=by
 have h:=next_text ⟨n,hn⟩;simp only at h;have hd:(0::(Lib.decDigits n++[0,32,113])).drop ((Lib.decDigits n).length+2)=[32,113]:=by
  rw [List.drop_succ_cons,List.drop_append,List.drop_of_length_le (by omega),Nat.add_sub_cancel_left];rfl
 rw [show textV n=[112,32]++(0::(Lib.decDigits n++[0,32,113])) by simp [textV],restore_pre _ _ _ (by decide),restore_atom h,hd,restore_zero _ [32,113] (by decide)]
theorem lines_snoc:∀(xs:List Nat) (i x:Nat),atomsLines i (xs++[x])=atomsLines i xs++[atomLine (i+xs.length) x,[]]
 |[],i,x=>by simp [atomsLines]
 |y::ys,i,x=>by
  rw [List.cons_append,atomsLines,atomsLines,lines_snoc ys (i+1) x,List.length_cons,show i+1+ys.length=i+(ys.length+1) by omega];rfl
theorem doc_snoc (xs:List Nat) (x:Nat):atomsDoc (xs++[x])=atomsDoc xs++(atomLine xs.length x++[10,10]):=by
 unfold atomsDoc;rw [lines_snoc,Nat.zero_add];simp [joinL]
theorem resA_snoc (z:SeerL):∀(xs:List Nat) (i x:Nat),resA z i (xs++[x])=resA z i xs++(if z.see1 (labOf x)=true then [⟨labOf x,atomText1 (i+xs.length)⟩]else [])
 |[],i,x=>by simp [resA]
 |y::ys,i,x=>by
  rw [List.cons_append,resA,resA,resA_snoc z ys (i+1) x,List.length_cons,show i+1+ys.length=i+(ys.length+1) by omega];split<;>rfl
theorem resA_le (z:SeerL):∀(xs:List Nat) (i:Nat),(resA z i xs).length≤xs.length
 |[],i=>Nat.le_refl _
 |x::xs,i=>by
  have:=resA_le z xs (i+1);rw [resA];split<;>simp only [List.length_cons]<;>omega
theorem resT_len (z:SeerL):∀(xs:List Nat) (i n:Nat),(resT z i n xs).length=xs.length
 |[],i,n=>rfl
 |x::xs,i,n=>by
  rw [resT];split<;>simp only [List.length_cons,resT_len z xs]
theorem resT_at (z:SeerL):∀(xs:List Nat) (i n j x:Nat),xs[j]? =some x→(resT z i n xs)[j]? =some (if z.see1 (labOf x)=true then textV (n+(resA z i (xs.take j)).length)else hidT)
 |[],i,n,j,x,h=>by simp at h
 |y::ys,i,n,0,x,h=>by
  obtain rfl:y=x:=(by simpa using h);rw [resT];split<;>simp [resA]
 |y::ys,i,n,j+1,x,h=>by
  have h2:ys[j]? =some x:=(by simpa using h);rw [resT,List.take_succ_cons,resA];by_cases hy:z.see1 (labOf y)=true
  ·rw [if_pos hy,if_pos hy,List.getElem?_cons_succ,resT_at z ys (i+1) (n+1) j x h2,List.length_cons,show n+1+(resA z (i+1) (ys.take j)).length=n+((resA z (i+1) (ys.take j)).length+1) by omega]
  ·rw [if_neg hy,if_neg hy,List.getElem?_cons_succ,resT_at z ys (i+1) n j x h2]
theorem resA_at (z:SeerL):∀(xs:List Nat) (i j x:Nat),xs[j]? =some x→z.see1 (labOf x)=true→(resA z i xs)[(resA z i (xs.take j)).length]? =some ⟨labOf x,atomText1 (i+j)⟩
 |[],i,j,x,h,_=>by simp at h
 |y::ys,i,0,x,h,hs=>by
  obtain rfl:y=x:=(by simpa using h);rw [resA,if_pos hs];simp [resA]
 |y::ys,i,j+1,x,h,hs=>by
  have h2:ys[j]? =some x:=(by simpa using h);have h3:=resA_at z ys (i+1) j x h2 hs;rw [show i+1+j=i+(j+1) by omega]at h3;rw [List.take_succ_cons,resA,resA];by_cases hy:z.see1 (labOf y)=true
  ·rw [if_pos hy,if_pos hy,List.length_cons,List.getElem?_cons_succ,h3]
  ·rw [if_neg hy,if_neg hy,h3]
def labN (a:Int):Nat:=(BitVec.ofInt 64 a &&& BitVec.ofInt 64 3).toNat
theorem labN_lt (a:Int):labN a<4:=by
 unfold labN;have:(BitVec.ofInt 64 a &&& BitVec.ofInt 64 3).toNat≤(BitVec.ofInt 64 3).toNat:=by
  rw [BitVec.toNat_and];exact Nat.and_le_right
 have h3:(BitVec.ofInt 64 3).toNat=3:=(by decide);omega
end Go.Proofs.YtoccgnleiekomaaGreatDoor
