import Derived.Test.YtoccgnleiekomaaGreatDoorVwBZa
import Derived.Test.YtoccgnleiekomaaGreatDoorVwBZ
set_option linter.unusedVariables false
set_option linter.unusedSimpArgs false
namespace Go.Proofs.YtoccgnleiekomaaGreatDoor
set_option linter.unusedVariables false
set_option linter.unusedSimpArgs false
def highL:List UInt8:=[104,105,103,104]
def spanLine (text:List UInt8):List UInt8:=98::32::123::124::(highL++58::(text++[124,125]))
def fenLines (text:List UInt8):List (List UInt8):=[[126,126,126],[97],divLine highL,text,[58,58,58],spanLine text,[126,126,126]]
theorem high_letters:Letters highL:=fun c hc=>by
 have:∀c∈highL,97≤c.toNat∧c.toNat≤122:=(by decide);exact this c hc
theorem cut2_letters (text:List UInt8) (h:Letters text) (y:List UInt8):cut2 124 125 (text++124::125::y)=some text:=by
 induction text with
 |nil=>simp [cut2]
 |cons c t ih=>
  have hc:=letter_ne h.head (d:=124) (.inr (by decide));rw [List.cons_append,cut2,ih h.tail];simp [hc]
theorem fence_span (text:List UInt8) (h:Letters text):spansL (spanLine text)=[⟨false,[],[98,32]⟩,⟨true,highL,text⟩]:=by
 have hs:spanAt (123::124::(highL++58::(text++[124,125])))=(⟨true,highL,text⟩,highL.length+text.length+5):=by
  unfold spanAt;have e1:Lib.hasPrefix (123::124::(highL++58::(text++[124,125]))) [123,124]=true:=(by simp [Lib.hasPrefix,List.isPrefixOf]);have e2:Lib.trimPrefix (123::124::(highL++58::(text++[124,125]))) [123,124]=highL++58::(text++[124,125]):=(by unfold Lib.trimPrefix;rw [e1];rfl);have e3:cutAt 58 (highL++58::(text++[124,125]))=(highL,text++[124,125],true):=cut_hit 58 highL _ (by decide);have e4:labelL highL=true:=(by decide);have e5:=cut2_letters text h [];simp only [e1,e2,e3,e4];rw [if_neg (by simp),if_neg (by simp),e5]
 have hd:List.drop (highL.length+text.length+5) (123::124::(highL++58::(text++[124,125])))=[]:=by
  apply List.drop_of_length_le;simp;omega
 unfold spansL spanLine;have hl:∃f,(98::32::123::124::(highL++58::(text++[124,125]))).length+1=f+4:=⟨_,by simp;rfl⟩
 obtain ⟨f,hf⟩:=hl;rw [hf,spansGo];simp only [span_no 98 _ (by decide)];rw [if_pos trivial,spansGo];simp only [span_no 32 _ (by decide)];rw [if_pos trivial,spansGo];simp only [hs];rw [if_neg (by omega),hd];simp [spansGo]
theorem fence_nohead (text:List UInt8) (h:Letters text) (h0:text≠[]):(headingL (spanLine text)).2.2=false:=by
 have e0:spanLine text=((98::32::123::124::(highL++58::(text++[124])))++[125]):=(by unfold spanLine;simp);have e1:rtrimS (spanLine text)=spanLine text:=by
  unfold rtrimS;refine rstrip_none _ _ ?_;rw [e0,List.getLast?_concat];rfl
 have hno:∀(x:List UInt8),(61:UInt8)∉x→last2 123 61 x=none:=by
  intro x;induction x with
  |nil=>intro _;rfl
  |cons c t ih=>
   intro hx;rw [last2,ih (fun e=>hx (List.mem_cons_of_mem _ e))];have:t.head? ≠some 61:=fun e=>hx (List.mem_cons_of_mem _ (by cases t with|nil=>cases e|cons d z=>simp at e;subst e;exact List.mem_cons_self ..));simp [this]
 have n61:=h.not_mem (c:=61) (by decide);unfold headingL;simp only [e1];split
 ·rfl
 ·rw [e0,List.dropLast_concat,hno _ (by simp [n61,highL])]
def fenDoc (text:List UInt8):List UInt8:=joinL (fenLines text)
theorem fenDoc_lines (text:List UInt8) (ht:Letters text):linesL (repairL (fenDoc text))=fenLines text:=by
 have h1:=ok_letters ht;rw [repair_plain]
 ·unfold fenDoc;refine lines_join _ fun x hx=>?_;have n1:=ht.not_mem (c:=10) (by decide);unfold fenLines at hx;simp only [List.mem_cons,List.not_mem_nil,or_false]at hx;rcases hx with rfl|rfl|rfl|rfl|rfl|rfl|rfl
  ·decide
  ·decide
  ·decide
  ·exact n1
  ·decide
  ·unfold spanLine highL;simp [n1]
  ·decide
 ·intro c hc;have hk:∀d∈[126,10,97,58,123,104,105,103,125,98,32,124],okB d=true:=(by decide);by_cases hm:c∈text
  ·exact h1 c hm
  ·refine hk c ?_;unfold fenDoc joinL fenLines divLine spanLine highL at hc;simp only [List.flatMap_cons,List.flatMap_nil,List.append_nil,List.mem_append,List.mem_cons,List.not_mem_nil,or_false,hm,false_or]at hc;simp only [List.mem_cons,List.not_mem_nil,or_false];clear hk h1 ht hm
   grind
theorem fen_frame (text:List UInt8) (h:Letters text) (h0:text≠[]):frameL (fenLines text)=
  [⟨0,false,[],false,[[126,126,126],[97]]⟩,⟨0,true,highL,false,[]⟩,⟨1,false,[],false,[text]⟩,⟨0,false,[],false,[spanLine text,[126,126,126]]⟩]:=by
 have hh:=h.head_ne (c:=58) (by decide);have o1:(opensD [97]).2=false:=(by decide);have s1:shutsD [97]=false:=(by decide);have o2:=div_opens highL high_letters (by decide) (by decide);have o3:(opensD text).2=false:=opens_head _ hh;have s3:shutsD text=false:=shuts_head _ hh;have o4:(opensD [58,58,58]).2=false:=(by decide);have s4:shutsD [58,58,58]=true:=(by decide);have o5:(opensD [126,126,126]).2=false:=(by decide);have s5:shutsD [126,126,126]=false:=(by decide);have o6:(opensD (spanLine text)).2=false:=opens_head _ (by simp [spanLine]);have s6:shutsD (spanLine text)=false:=shuts_head _ (by simp [spanLine]);unfold frameL fenLines;simp [frameStep,o1,s1,o2,o3,s3,o4,s4,o5,s5,o6,s6]
theorem fences_law (z:SeerL) (text:List UInt8) (h:Letters text) (h0:text≠[]) (hk:z.unk highL=false):
  (buildL z (fenDoc text)).blocks=if z.see1 highL=true then [⟨6,0,0,false,[97,10],[]⟩,⟨9,0,0,false,[],highL⟩,⟨1,1,0,false,text,[]⟩,⟨1,0,0,false,[98,32,0,48,0],[]⟩,⟨6,0,0,false,[],[]⟩]
   else [⟨6,0,0,false,[97,10],[]⟩,⟨1,0,0,false,[98],[]⟩,⟨6,0,0,false,[],[]⟩]:=by
 unfold buildL;rw [fenDoc_lines text h,fen_frame text h h0];have l1:∀b u,lineV z b [97] u=([97],b):=fun b u=>line_plain z b [97] u (by decide);have l2:∀b u,lineV z b [126,126,126] u=([126,126,126],b):=fun b u=>line_plain z b _ u (by decide);have l3:∀b u,lineV z b text u=(text,b):=fun b u=>line_plain z b _ u (fun e=>by have:=h _ e;exact absurd this.2 (by decide));have hn:=fence_nohead text h h0;have hp:=fence_span text h;have b1:blocksL [[126,126,126],[97]]=[⟨6,0,0,false,[97,10],[]⟩]:=(by decide+kernel);have b2:blocksL [text]=[⟨1,0,0,false,text,[]⟩]:=blocks_words 13 0 text h h0;have r1:∀ts,restoreL [97,10] ts=[97,10]:=fun ts=>restore_zero ts _ (by decide);have r2:∀ts,restoreL [] ts=[]:=fun ts=>restore_zero ts _ (by simp);have hz:(0:UInt8)∉text:=h.not_mem (by decide);have p2:∀f st,paraV (f+1) st text=(text,st):=fun f st=>para_words text h h0 st.atoms (restore_zero _ _ hz) f st rfl;have p3:∀(t:List UInt8) f st,(10:UInt8)∉98::t→paraV (f+1) st (98::t)=(98::t,st):=by
  intro t f st ht;have hl:(lineL (restoreL (98::t) st.atoms)).2=false:=(by rw [line_head _ (by rw [restore_head _ _ _ (by decide)];simp)]);rw [paraV,if_neg (by simp)];simp only [cut_miss 10 _ ht,hl];rfl
 by_cases hs:z.see1 highL=true
 ·rw [if_pos hs];have b3:blocksL [[98,32,0,48,0],[126,126,126]]=[⟨1,0,0,false,[98,32,0,48,0],[]⟩,⟨6,0,0,false,[],[]⟩]:=(by decide+kernel);have hd:Lib.decDigits 0=[48]:=(by decide+kernel);have l4:∀b,b.atoms=[]→lineV z b (spanLine text) []=([98,32,0,48,0],{b with atoms:=[⟨highL,text⟩]}):=by
   intro b hb;unfold lineV;rw [hn,if_neg (by simp),hp];simp [pieceV,SeerL.sees,hs,VwSt.label,hk,hb,hd]
  simp [partV,runV,linesV,l1,l2,l3,l4,b1,b2,b3,hs,hk,SeerL.sees,VwSt.label,VwSt.diag,tidyV,tidyStep,VwSt.none,p2,p3,r1,r2,h0]
 ·rw [if_neg hs];have b3:blocksL [[98,32],[126,126,126]]=[⟨1,0,0,false,[98],[]⟩,⟨6,0,0,false,[],[]⟩]:=(by decide+kernel);have l4:∀b,lineV z b (spanLine text) []=([98,32],b):=by
   intro b;unfold lineV;rw [hn,if_neg (by simp),hp];simp [pieceV,SeerL.sees,hs]
  simp [partV,runV,linesV,l1,l2,l3,l4,b1,b2,b3,hs,hk,SeerL.sees,VwSt.label,VwSt.diag,tidyV,tidyStep,VwSt.none,p2,p3,r1,r2,h0]
end Go.Proofs.YtoccgnleiekomaaGreatDoor
