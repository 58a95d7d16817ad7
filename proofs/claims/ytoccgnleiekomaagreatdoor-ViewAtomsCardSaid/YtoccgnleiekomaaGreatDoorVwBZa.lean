import Derived.Test.YtoccgnleiekomaaGreatDoorVwBT
set_option linter.unusedVariables false
set_option linter.unusedSimpArgs false
namespace Go.Proofs.YtoccgnleiekomaaGreatDoor
set_option linter.unusedVariables false
set_option linter.unusedSimpArgs false
theorem letter_ne {c:UInt8} {d:UInt8} (h:97≤c.toNat∧c.toNat≤122) (hd:d.toNat<97∨122<d.toNat):c≠d:=by
 rintro rfl;omega
theorem letter_last {l:List UInt8} (h:Letters l) (p:UInt8→Bool) (hp:∀c:UInt8,97≤c.toNat∧c.toNat≤122→p c=false):(l.getLast?.any p)=false:=by
 cases hl:l.getLast? with
 |none=>rfl
 |some c=>exact hp c (h c (List.mem_of_getLast? hl))
theorem blank_letter {c:UInt8} (h:97≤c.toNat∧c.toNat≤122):blankB c=false:=by
 unfold blankB;have a:=letter_ne h (d:=32) (.inl (by decide));have b:=letter_ne h (d:=9) (.inl (by decide));simp [a,b]
theorem restB_letters {l:List UInt8} (h:Letters l) (z:List UInt8) (h0:l≠[]):restB (l++z)=l++z:=by
 cases l with
 |nil=>exact absurd rfl h0
 |cons c t=>unfold restB;rw [List.cons_append,List.dropWhile_cons_of_neg (by rw [blank_letter h.head];simp)]
theorem label_letters {l:List UInt8} (h:Letters l) (h0:l≠[]) (hl:l.length≤40):labelL l=true:=by
 unfold labelL;have h1:(l.all fun c=> !([123,125,124,58,32,9].contains c))=true:=by
  rw [List.all_eq_true];intro c hc;have a:=h c hc;have b1:=letter_ne a (d:=123) (.inr (by decide));have b2:=letter_ne a (d:=125) (.inr (by decide));have b3:=letter_ne a (d:=124) (.inr (by decide));have b4:=letter_ne a (d:=58) (.inl (by decide));have b5:=letter_ne a (d:=32) (.inl (by decide));have b6:=letter_ne a (d:=9) (.inl (by decide));simp [b1,b2,b3,b4,b5,b6]
 rw [h1];simp [h0,hl]
theorem ok_letters {l:List UInt8} (h:Letters l):∀c∈l,okB c=true:=fun c hc=>by
 have a:=h c hc;have b1:=letter_ne a (d:=0) (.inl (by decide));have b2:=letter_ne a (d:=13) (.inl (by decide));unfold okB;simp [b1,b2];omega
theorem words_shape {text:List UInt8} (h:Letters text) (h0:text≠[]):∃c t,text=c::t∧97≤c.toNat∧c.toNat≤122:=by
 cases text with
 |nil=>exact absurd rfl h0
 |cons c t=>exact ⟨c,t,rfl,h.head⟩
theorem nextB_words (W:Nat→List (List UInt8)→List BlkL) (d:Nat) (text:List UInt8) (h:Letters text) (h0:text≠[]):nextB W d [text]=([⟨1,d,0,false,text,[]⟩],1):=by
 have r1:restB text=text:=(by have:=restB_letters h [] h0;simpa using this);have r2:rstripL blankB text=text:=rstrip_none blankB text (letter_last h _ fun c hc=>blank_letter hc);obtain ⟨c,t,rfl,hc⟩:=words_shape h h0;have hb:=blank_letter hc;have n1:=letter_ne hc (d:=96) (.inl (by decide));have n2:=letter_ne hc (d:=126) (.inr (by decide));have n3:=letter_ne hc (d:=35) (.inl (by decide));have n4:=letter_ne hc (d:=45) (.inl (by decide));have n5:=letter_ne hc (d:=42) (.inl (by decide));have n6:=letter_ne hc (d:=95) (.inl (by decide));have n7:=letter_ne hc (d:=62) (.inl (by decide));have n8:=letter_ne hc (d:=43) (.inl (by decide));have n9:=letter_ne hc (d:=60) (.inl (by decide));have n10:=letter_ne hc (d:=32) (.inl (by decide));have n11:=letter_ne hc (d:=9) (.inl (by decide));have a1:blankV (c::t)=false:=(by unfold blankV;simp [hb]);have a2:indentL (c::t)=0:=(by unfold indentL;simp [colL,n10,n11]);have a3:(fenceL (c::t)).2.2.2=false:=(by unfold fenceL;simp [r1,n1,n2]);have a4:(headL (c::t)).2.2=false:=(by unfold headL rowL;simp [r1,n3]);have a5:ruleL (c::t)=false:=(by unfold ruleL;simp [r1,n4,n5,n6]);have a6:quotesP d (c::t)=false:=by
  have:((62:UInt8)==c)=false:=(by simpa using fun e=>n7 e.symm);unfold quotesP quoteL preAt;simp [r1,Lib.hasPrefix,List.isPrefixOf,this]
 have a7:listsP d (c::t)=false:=by
  have:(numberGo (c::t) 0 0).1=0:=by
   rw [numberGo,if_pos (.inr (.inl (by rw [UInt8.lt_iff_toNat_lt];have:(57:UInt8).toNat=57:=rfl;omega)))]
  unfold listsP itemL;simp [r1,this,n4,n5,n8,a5]
 have a8:htmlL (c::t)=false:=by
  have:((60:UInt8)==c)=false:=(by simpa using fun e=>n9 e.symm);unfold htmlL preAt;simp [r1,Lib.hasPrefix,List.isPrefixOf,this]
 unfold nextB;simp [lineAt,a1,a2,a3,a4,a5,a6,a7,a8,paraGo,r1,joinLf,r2]
theorem blocks_words (k d:Nat) (text:List UInt8) (h:Letters text) (h0:text≠[]):blocksK (k+1) d [text]=[⟨1,d,0,false,text,[]⟩]:=by
 rw [blocksK];simp [allGoB,nextB_words _ d text h h0]
theorem blocks_quote (text:List UInt8) (h:Letters text) (h0:text≠[]):blocksL [62::32::text]=[⟨3,0,0,false,[],[]⟩,⟨1,1,0,false,text,[]⟩]:=by
 have e1:restB (62::32::text)=62::32::text:=rfl;have hq:quoteL (62::32::text)=(text,true):=by
  unfold quoteL preAt mayIn indentL;simp [e1,Lib.hasPrefix,Lib.trimPrefix,List.isPrefixOf,colL]
 have a1:blankV (62::32::text)=false:=(by unfold blankV;simp [blankB]);have a2:indentL (62::32::text)=0:=(by unfold indentL;simp [colL]);have a3:(fenceL (62::32::text)).2.2.2=false:=(by unfold fenceL;simp [e1]);have a4:(headL (62::32::text)).2.2=false:=(by unfold headL rowL;simp [e1]);have a5:ruleL (62::32::text)=false:=(by unfold ruleL;simp [e1]);have a6:quotesP 0 (62::32::text)=true:=(by unfold quotesP;simp [hq]);have n1:∀W,nextB W 0 [62::32::text]=(⟨3,0,0,false,[],[]⟩::W 1 [text],1):=by
  intro W;unfold nextB;simp [lineAt,a1,a2,a3,a4,a5,a6,quoteLines,hq]
 unfold blocksL;rw [blocksK];simp [allGoB,n1,blocks_words 12 1 text h h0]
theorem para_words (text:List UInt8) (h:Letters text) (h0:text≠[]) (b:List AtomT) (hr:restoreL text b=text) (f:Nat) (st:VwSt) (hb:st.atoms=b):paraV (f+1) st text=(text,st):=by
 have hc:(cutAt 10 text).1=text:=(by rw [cut_miss 10 text (h.not_mem (by decide))]);have hl:(lineL text).2=false:=(by rw [line_head text (h.head_ne (by decide))]);rw [paraV,if_neg h0];simp only [hc,hb,hr,hl];rfl
def divLine (label:List UInt8):List UInt8:=58::58::58::123::(label++[125])
theorem div_opens (label:List UInt8) (h:Letters label) (h0:label≠[]) (hl:label.length≤40):opensD (divLine label)=(label,true):=by
 have e0:divLine label=(58::58::58::123::label)++[125]:=rfl;have e1:rtrimS (divLine label)=divLine label:=by
  unfold rtrimS;refine rstrip_none _ _ ?_;rw [e0,List.getLast?_concat];rfl
 have e2:Lib.hasPrefix (divLine label) [58,58,58,123]=true:=(by unfold divLine;simp [Lib.hasPrefix,List.isPrefixOf]);have e3:Lib.trimPrefix (divLine label) [58,58,58,123]=label++[125]:=(by unfold Lib.trimPrefix;rw [e2];rfl);unfold opensD;simp only [e1,e2,e3];rw [if_neg (by simp),List.getLast?_concat,if_pos rfl,List.dropLast_concat,label_letters h h0 hl]
def divsDoc (label text:List UInt8):List UInt8:=joinL [[97],divLine label,62::32::text,[58,58,58],[98]]
theorem divsDoc_lines (label text:List UInt8) (hl:Letters label) (ht:Letters text):linesL (repairL (divsDoc label text))=[[97],divLine label,62::32::text,[58,58,58],[98]]:=by
 have h1:=ok_letters ht;have h2:=ok_letters hl;have a1:okB 97=true:=(by decide);have a2:okB 10=true:=(by decide);have a3:okB 58=true:=(by decide);have a4:okB 32=true:=(by decide);have a5:okB 123=true:=(by decide);have a6:okB 62=true:=(by decide);have a7:okB 125=true:=(by decide);have a8:okB 98=true:=(by decide);rw [repair_plain]
 ·unfold divsDoc;refine lines_join _ fun x hx=>?_;have n1:=ht.not_mem (c:=10) (by decide);have n2:=hl.not_mem (c:=10) (by decide);simp only [List.mem_cons,List.not_mem_nil,or_false]at hx;rcases hx with rfl|rfl|rfl|rfl|rfl
  ·decide
  ·unfold divLine;simp [n2]
  ·simp [n1]
  ·decide
  ·decide
 ·intro c hc;unfold divsDoc joinL divLine at hc;simp only [List.flatMap_cons,List.flatMap_nil,List.append_nil,List.mem_append,List.mem_cons,List.not_mem_nil,or_false]at hc;rcases hc with (rfl|rfl)|((rfl|rfl|rfl|rfl|hc|rfl)|rfl)|((rfl|rfl|hc)|rfl)|((rfl|rfl|rfl)|rfl)|(rfl|rfl)<;>first|assumption|exact h1 _ hc|exact h2 _ hc
theorem divs_frame (label text:List UInt8) (h:Letters label) (h0:label≠[]) (hl:label.length≤40):frameL [[97],divLine label,62::32::text,[58,58,58],[98]]=
  [⟨0,false,[],false,[[97]]⟩,⟨0,true,label,false,[]⟩,⟨1,false,[],false,[62::32::text]⟩,⟨0,false,[],false,[[98]]⟩]:=by
 have o1:(opensD [97]).2=false:=(by decide);have s1:shutsD [97]=false:=(by decide);have o2:=div_opens label h h0 hl;have o3:(opensD (62::32::text)).2=false:=opens_head _ (by simp);have s3:shutsD (62::32::text)=false:=shuts_head _ (by simp);have o4:(opensD [58,58,58]).2=false:=(by decide);have s4:shutsD [58,58,58]=true:=(by decide);have o5:(opensD [98]).2=false:=(by decide);have s5:shutsD [98]=false:=(by decide);unfold frameL;simp [frameStep,o1,s1,o2,o3,s3,o4,s4,o5,s5]
theorem divs_law (z:SeerL) (label text:List UInt8) (h:Letters label) (h0:label≠[]) (hl:label.length≤40) (ht:Letters text) (ht0:text≠[])
  (hr:∀x:List UInt8,Letters x→restoreL x []=x):
  buildL z (divsDoc label text)=if z.see1 label=true then ⟨[⟨1,0,0,false,[97],[]⟩,⟨9,0,0,false,[],label⟩,⟨3,1,0,false,[],[]⟩,⟨1,2,0,false,text,[]⟩,⟨1,0,0,false,[98],[]⟩],[],[],if z.unk label=true then [⟨1,label⟩]else [],[]⟩else ⟨[⟨1,0,0,false,[97],[]⟩,⟨1,0,0,false,[98],[]⟩],[],[],[],[]⟩:=by
 unfold buildL;rw [divsDoc_lines label text h ht,divs_frame label text h h0 hl];have l1:∀b u,lineV z b [97] u=([97],b):=fun b u=>line_plain z b [97] u (by decide);have l3:∀b u,lineV z b [98] u=([98],b):=fun b u=>line_plain z b [98] u (by decide);have L1:Letters [97]:=fun c hc=>by rw [List.mem_singleton.1 hc];decide
 have L3:Letters [98]:=fun c hc=>by rw [List.mem_singleton.1 hc];decide
 have p1:∀f st,st.atoms=[]→paraV (f+1) st [97]=([97],st):=fun f st e=>para_words [97] L1 (by simp) [] (hr _ L1) f st e;have p2:∀f st,st.atoms=[]→paraV (f+1) st text=(text,st):=fun f st e=>para_words text ht ht0 [] (hr _ ht) f st e;have p3:∀f st,st.atoms=[]→paraV (f+1) st [98]=([98],st):=fun f st e=>para_words [98] L3 (by simp) [] (hr _ L3) f st e;have b1:blocksL [[97]]=[⟨1,0,0,false,[97],[]⟩]:=blocks_words 13 0 [97] L1 (by simp);have b3:blocksL [[98]]=[⟨1,0,0,false,[98],[]⟩]:=blocks_words 13 0 [98] L3 (by simp);have b2:=blocks_quote text ht ht0;have n123:(123:UInt8)∉62::32::text:=by
  have n1:(123:UInt8)∉text:=fun e=>by have:=ht _ e;exact absurd this.2 (by decide)
  simp [n1]
 have l2:∀b u,lineV z b (62::32::text) u=(62::32::text,b):=fun b u=>line_plain z b _ u n123;by_cases hs:z.see1 label=true
 ·rw [if_pos hs];by_cases hu:z.unk label=true
  ·simp [partV,runV,linesV,l1,l2,l3,b1,b2,b3,hs,hu,SeerL.sees,VwSt.label,VwSt.diag,tidyV,tidyStep,VwSt.none,p1,p2,p3,ht0]
  ·simp [partV,runV,linesV,l1,l2,l3,b1,b2,b3,hs,hu,SeerL.sees,VwSt.label,VwSt.diag,tidyV,tidyStep,VwSt.none,p1,p2,p3,ht0]
 ·rw [if_neg hs];simp [partV,runV,linesV,l1,l2,l3,b1,b2,b3,hs,SeerL.sees,VwSt.label,VwSt.diag,tidyV,tidyStep,VwSt.none,p1,p2,p3]
end Go.Proofs.YtoccgnleiekomaaGreatDoor
