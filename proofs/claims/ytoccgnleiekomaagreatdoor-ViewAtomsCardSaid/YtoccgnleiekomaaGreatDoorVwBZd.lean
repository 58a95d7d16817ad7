import Derived.Test.YtoccgnleiekomaaGreatDoorVwBZc
set_option linter.unusedVariables false
set_option linter.unusedSimpArgs false
namespace Go.Proofs.YtoccgnleiekomaaGreatDoor
set_option linter.unusedVariables false
set_option linter.unusedSimpArgs false
def headOk (c:UInt8):Bool:= !([32,9,96,126,35,45,42,95,62,43,60,61,48,49,50,51,52,53,54,55,56,57].contains c)
def LineOk (s:List UInt8):Prop:=∃c t,s=c::t∧headOk c=true
structure Quiet (s:List UInt8):Prop where
 rest:restB s=s
 blank:blankV s=false
 ind:indentL s=0
 fence:(fenceL s).2.2.2=false
 head:(headL s).2.2=false
 rule:ruleL s=false
 quote:∀d,quotesP d s=false
 list:∀d,listsP d s=false
 html:htmlL s=false
 under:underL s=0
theorem LineOk.quiet {s:List UInt8} (h:LineOk s):Quiet s:=by
 obtain ⟨c,t,rfl,hc⟩:=h;unfold headOk at hc;simp only [List.contains_eq_mem,List.mem_cons,List.not_mem_nil,or_false,Bool.not_eq_true',decide_eq_false_iff_not,not_or]at hc;obtain ⟨n32,n9,n96,n126,n35,n45,n42,n95,n62,n43,n60,n61,d0,d1,d2,d3,d4,d5,d6,d7,d8,d9⟩:=hc;have hb:blankB c=false:=(by unfold blankB;simp [n32,n9]);have r1:restB (c::t)=c::t:=(by unfold restB;rw [List.dropWhile_cons_of_neg (by rw [hb];simp)]);have hnum:(numberGo (c::t) 0 0).1=0:=by
  rw [numberGo,if_pos];by_cases h1:c<48
  ·exact .inl h1
  ·by_cases h2:57<c
   ·exact .inr (.inl h2)
   ·exfalso;rw [UInt8.lt_iff_toNat_lt]at h1 h2;have e1:(48:UInt8).toNat=48:=rfl;have e2:(57:UInt8).toNat=57:=rfl;have hk:∀k:UInt8,c≠k→c.toNat≠k.toNat:=fun k hk e=>hk (UInt8.toNat.inj e);have x0:=hk _ d0;have x1:=hk _ d1;have x2:=hk _ d2;have x3:=hk _ d3;have x4:=hk _ d4;have x5:=hk _ d5;have x6:=hk _ d6;have x7:=hk _ d7;have x8:=hk _ d8;have x9:=hk _ d9;have v:(48:UInt8).toNat=48∧(49:UInt8).toNat=49∧(50:UInt8).toNat=50∧(51:UInt8).toNat=51∧(52:UInt8).toNat=52∧(53:UInt8).toNat=53∧(54:UInt8).toNat=54∧(55:UInt8).toNat=55∧(56:UInt8).toNat=56∧(57:UInt8).toNat=57:=(by decide);omega
 have a5:ruleL (c::t)=false:=(by unfold ruleL;simp [r1,n45,n42,n95]);refine ⟨r1,by unfold blankV;simp [hb],by unfold indentL;simp [colL,n32,n9],by unfold fenceL;simp [r1,n96,n126],by unfold headL rowL;simp [r1,n35],a5,fun d=>?_,fun d=>?_,?_,?_⟩
 ·have:((62:UInt8)==c)=false:=(by simpa using fun e=>n62 e.symm);unfold quotesP quoteL preAt;simp [r1,Lib.hasPrefix,List.isPrefixOf,this]
 ·unfold listsP itemL;simp [r1,hnum,n45,n42,n43,a5]
 ·have:((60:UInt8)==c)=false:=(by simpa using fun e=>n60 e.symm);unfold htmlL preAt;simp [r1,Lib.hasPrefix,List.isPrefixOf,this]
 ·unfold underL;simp only [r1];split
  ·rfl
  ·rcases rstrip_head blankB c t with e|e
   ·rename_i hn;exact absurd e fun h=>hn (.inr h)
   ·cases hz:rstripL blankB (c::t)with
    |nil=>rw [hz]at e;cases e
    |cons d y=>
     rw [hz]at e;have:d=c:=(by simpa using e);subst this;simp [n61,n45]
def stopsPara (rest:List (List UInt8)):Prop:=rest=[]∨∃t,rest=[]::t
theorem paraGo_lines (d:Nat) (rest:List (List UInt8)) (hr:stopsPara rest):∀(ls acc:List (List UInt8)) (k:Nat),(∀s∈ls,LineOk s)→acc++ls≠[]→paraGo d (ls++rest) acc k=(acc++ls,0,k+ls.length)
 |[],acc,k,_,h0=>by
  have ha:acc≠[]:=(by simpa using h0);rcases hr with rfl|⟨t,rfl⟩
  ·simp [paraGo]
  ·have e1:underL []=0:=(by decide);have e2:endsP d []=true:=(by unfold endsP;simp [blankV]);simp [paraGo,ha,e1,e2]
 |s::ls,acc,k,h,h0=>by
  have q:=(h s (List.mem_cons_self ..)).quiet;have he:endsP d s=false:=by
   unfold endsP;simp [q.blank,q.fence,q.head,q.rule,q.quote d,q.list d]
  rw [List.cons_append,paraGo,if_neg (by rw [q.under];omega),if_neg (by rw [he];simp),q.rest,paraGo_lines d rest hr ls (acc++[s]) (k+1) (fun x hx=>h x (List.mem_cons_of_mem _ hx)) (by simp)];simp;omega
theorem next_lines (W:Nat→List (List UInt8)→List BlkL) (d:Nat) (s:List UInt8) (ls rest:List (List UInt8)) (h:∀x∈s::ls,LineOk x) (hr:stopsPara rest):
  nextB W d (s::ls++rest)=([⟨1,d,0,false,rstripL blankB (joinLf (s::ls)),[]⟩],ls.length+1):=by
 have q:=(h s (List.mem_cons_self ..)).quiet;have hp:=paraGo_lines d rest hr (s::ls) [] 0 h (by simp);have hl:lineAt (s::ls++rest) 0=s:=rfl;unfold nextB;simp only [hl,q.blank,q.ind,q.fence,q.head,q.rule,q.quote d,q.list d,q.html,hp];simp
theorem nextB_blank (W:Nat→List (List UInt8)→List BlkL) (d:Nat) (rest:List (List UInt8)):nextB W d ([]::rest)=([],1):=by
 unfold nextB;simp [lineAt,blankV]
def defLine (name url:List UInt8):List UInt8:=91::(name++93::58::32::url)
structure UrlOk (url:List UInt8):Prop where
 link:linkL url=(url,[],true)
 head:∃u,url=47::u
 chars:∀c∈url,okB c=true∧c≠10∧c≠123
 last:(url.getLast?.any blankB)=false
theorem def_line {name url:List UInt8} (hn:Letters name) (h0:name≠[]) (hl:name.length≤20) (hu:UrlOk url):lineL (defLine name url)=(⟨name,url,[],[],false⟩,true):=by
 obtain ⟨u,rfl⟩:=hu.head;unfold defLine;rw [line_open _ _ (hn.not_mem (by decide)),behind_blank1 47 _ (by decide),lineOf_link _ _ (hn.head_ne (by decide)),name_letters name hn h0 (by omega),hu.link];simp
theorem url_ok (i:Nat) (h:i<6):UrlOk [47,117,UInt8.ofNat (48+i)]:=by
 have a:∀i:Fin 6,linkL [47,117,UInt8.ofNat (48+i.val)]=([47,117,UInt8.ofNat (48+i.val)],[],true):=(by decide+kernel);have b:∀i:Fin 6,∀c∈[47,117,UInt8.ofNat (48+i.val)],okB c=true∧c≠10∧c≠123:=(by decide);have c:∀i:Fin 6,([47,117,UInt8.ofNat (48+i.val)].getLast?.any blankB)=false:=(by decide);exact ⟨a ⟨i,h⟩,⟨_,rfl⟩,b ⟨i,h⟩,c ⟨i,h⟩⟩
def secretL:List UInt8:=[47,115,101,99,114,101,116]
theorem secret_ok:UrlOk secretL:=⟨by decide+kernel,⟨_,rfl⟩,by decide,by decide⟩
theorem def_chars {name url:List UInt8} (hn:Letters name) (hu:UrlOk url):∀c∈defLine name url,okB c=true∧c≠10∧c≠123:=by
 intro c hc;unfold defLine at hc;simp only [List.mem_cons,List.mem_append]at hc;have hk:∀d∈[91,93,58,32],okB d=true∧d≠10∧d≠123:=(by decide);rcases hc with rfl|hc|rfl|rfl|rfl|hc
 ·decide
 ·refine ⟨ok_letters hn c hc,fun e=>?_,fun e=>?_⟩
  ·have:=hn c hc;rw [e]at this;exact absurd this.1 (by decide)
  ·have:=hn c hc;rw [e]at this;exact absurd this.2 (by decide)
 ·decide
 ·decide
 ·decide
 ·exact hu.chars c hc
theorem def_ok (name url:List UInt8):LineOk (defLine name url):=⟨91,_,rfl,by decide⟩
theorem cut_join (x:List UInt8) (t:List (List UInt8)) (h:(10:UInt8)∉x):(cutAt 10 (joinLf (x::t))).1=x∧(cutAt 10 (joinLf (x::t))).2.1=joinLf t:=by
 cases t with
 |nil=>simp only [joinLf,cut_miss 10 x h];exact ⟨trivial,trivial⟩
 |cons y t=>rw [joinLf,cut_hit 10 x _ h];exact ⟨rfl,rfl⟩
theorem join_ne (x:List UInt8) (t:List (List UInt8)) (h:x≠[]):joinLf (x::t)≠[]:=by
 cases t with
 |nil=>exact h
 |cons y t=>rw [joinLf];simp
theorem paraV_more {name:List UInt8} (hn:Letters name) (h0:name≠[]) (hl:name.length≤20):∀(us:List (List UInt8)) (f:Nat) (b:VwSt),(∀u∈us,UrlOk u)→us.length<f→(lookL b.tab name false).isSome=true→
  paraV f b (joinLf (us.map (defLine name)))=([],{b with diags:=b.diags++List.replicate us.length ⟨4,name⟩})
 |[],f,b,_,hf,_=>by
  cases f with
  |zero=>simp at hf
  |succ f=>simp [joinLf,paraV]
 |u::us,0,b,_,hf,_=>by simp at hf
 |u::us,f+1,b,h,hf,ht=>by
  have hu:=h u (List.mem_cons_self ..);have hch:=def_chars hn hu;have h10:(10:UInt8)∉defLine name u:=fun e=>(hch _ e).2.1 rfl;have hz:(0:UInt8)∉defLine name u:=fun e=>absurd (hch _ e).1 (by decide);obtain ⟨c1,c2⟩:=cut_join (defLine name u) (us.map (defLine name)) h10;rw [List.map_cons,paraV,if_neg (join_ne _ _ (by simp [defLine]))];simp only [c1,c2,restore_zero _ _ hz,def_line hn h0 hl hu];rw [if_neg (by simp),if_pos ht,paraV_more hn h0 hl us f _ (fun x hx=>h x (List.mem_cons_of_mem _ hx)) (by simp at hf;omega) (by unfold VwSt.diag;exact ht)];simp [VwSt.diag,List.replicate_succ]
theorem paraV_first {name:List UInt8} (hn:Letters name) (h0:name≠[]) (hl:name.length≤20) (u:List UInt8) (us:List (List UInt8)) (f:Nat) (b:VwSt) (h:∀x∈u::us,UrlOk x) (hf:us.length+1<f) (ht:b.tab=[]):
  paraV f b (joinLf ((u::us).map (defLine name)))=([],{b with tab:=[⟨name,u,[],[],false⟩],defs:=b.defs++[⟨name,u,[],[],false⟩],diags:=b.diags++List.replicate us.length ⟨4,name⟩}):=by
 have hu:=h u (List.mem_cons_self ..);have hch:=def_chars hn hu;have h10:(10:UInt8)∉defLine name u:=fun e=>(hch _ e).2.1 rfl;have hz:(0:UInt8)∉defLine name u:=fun e=>absurd (hch _ e).1 (by decide);obtain ⟨c1,c2⟩:=cut_join (defLine name u) (us.map (defLine name)) h10;obtain ⟨f,rfl⟩:∃g,f=g+1:=⟨f - 1,by omega⟩
 have hno:(lookL b.tab name false).isSome=false:=(by rw [ht];simp [lookL]);rw [List.map_cons,paraV,if_neg (join_ne _ _ (by simp [defLine]))];simp only [c1,c2,restore_zero _ _ hz,def_line hn h0 hl hu];rw [if_neg (by simp),if_neg (by rw [hno];simp),paraV_more hn h0 hl us f _ (fun x hx=>h x (List.mem_cons_of_mem _ hx)) (by omega) (by rw [ht];simp [lookL])];simp [ht]
def defsLines (name:List UInt8) (us:List (List UInt8)):List (List UInt8):=divLine highL::defLine name secretL::[58,58,58]::us.map (defLine name)
def defsDoc (name:List UInt8) (us:List (List UInt8)):List UInt8:=joinL (defsLines name us)
theorem defsDoc_lines {name:List UInt8} (hn:Letters name) (us:List (List UInt8)) (hu:∀u∈us,UrlOk u):linesL (repairL (defsDoc name us))=defsLines name us:=by
 have hs:=def_chars hn secret_ok;have hx:∀x∈defsLines name us,∀c∈x,okB c=true∧c≠10:=by
  intro x hx c hc;unfold defsLines at hx;simp only [List.mem_cons,List.mem_map]at hx;rcases hx with rfl|rfl|rfl|⟨u,hu1,rfl⟩
  ·have:∀c∈divLine highL,okB c=true∧c≠10:=(by decide);exact this c hc
  ·exact ⟨(hs c hc).1,(hs c hc).2.1⟩
  ·have:∀c∈[58,58,58],okB c=true∧c≠10:=(by decide);exact this c hc
  ·have:=def_chars hn (hu u hu1) c hc;exact ⟨this.1,this.2.1⟩
 rw [repair_plain]
 ·exact lines_join _ fun x h e=>(hx x h _ e).2 rfl
 ·intro c hc;unfold defsDoc joinL at hc;obtain ⟨x,h1,h2⟩:=List.mem_flatMap.1 hc;rcases List.mem_append.1 h2 with h2|h2
  ·exact (hx x h1 c h2).1
  ·rw [List.mem_singleton.1 h2];decide
theorem frame_run3 (A B:PartL):∀(l:List (List UInt8)) (a:List (List UInt8)),(∀x∈l,noDiv x=true)→l.foldl frameStep ⟨[A,B,⟨0,false,[],false,a⟩],[],true⟩=⟨[A,B,⟨0,false,[],false,a++l⟩],[],true⟩
 |[],a,_=>by simp
 |x::l,a,h=>by
  have hx:=h x (List.mem_cons_self ..);have h1:(opensD x).2=false:=(by unfold noDiv at hx;simpa using hx);have:frameStep ⟨[A,B,⟨0,false,[],false,a⟩],[],true⟩ x=⟨[A,B,⟨0,false,[],false,a++[x]⟩],[],true⟩:=by
   unfold frameStep;simp [h1]
  rw [List.foldl_cons,this,frame_run3 A B l (a++[x]) (fun y hy=>h y (List.mem_cons_of_mem _ hy))];simp
theorem def_nodiv (name url:List UInt8):noDiv (defLine name url)=true:=by
 unfold noDiv;rw [opens_head _ (by simp [defLine])];rfl
theorem defs_frame (name u:List UInt8) (us:List (List UInt8)):frameL (defsLines name (u::us))=
  [⟨0,true,highL,false,[]⟩,⟨1,false,[],false,[defLine name secretL]⟩,⟨0,false,[],false,(u::us).map (defLine name)⟩]:=by
 have o1:=div_opens highL high_letters (by decide) (by decide);have o2:∀url,(opensD (defLine name url)).2=false:=fun url=>opens_head _ (by simp [defLine]);have s2:∀url,shutsD (defLine name url)=false:=fun url=>shuts_head _ (by simp [defLine]);have o3:(opensD [58,58,58]).2=false:=(by decide);have s3:shutsD [58,58,58]=true:=(by decide);have h1:frameStep ⟨[],[],false⟩ (divLine highL)=⟨[⟨0,true,highL,true,[]⟩],[0],false⟩:=(by simp [frameStep,o1]);have h2:frameStep ⟨[⟨0,true,highL,true,[]⟩],[0],false⟩ (defLine name secretL)=⟨[⟨0,true,highL,true,[]⟩,⟨1,false,[],false,[defLine name secretL]⟩],[0],true⟩:=(by simp [frameStep,o2,s2]);have h3:frameStep ⟨[⟨0,true,highL,true,[]⟩,⟨1,false,[],false,[defLine name secretL]⟩],[0],true⟩ [58,58,58]=⟨[⟨0,true,highL,false,[]⟩,⟨1,false,[],false,[defLine name secretL]⟩],[],false⟩:=(by simp [frameStep,o3,s3]);have h4:frameStep ⟨[⟨0,true,highL,false,[]⟩,⟨1,false,[],false,[defLine name secretL]⟩],[],false⟩ (defLine name u)=⟨[⟨0,true,highL,false,[]⟩,⟨1,false,[],false,[defLine name secretL]⟩,⟨0,false,[],false,[defLine name u]⟩],[],true⟩:=(by simp [frameStep,o2,s2]);unfold frameL defsLines;rw [List.map_cons,List.foldl_cons,List.foldl_cons,List.foldl_cons,List.foldl_cons,h1,h2,h3,h4,frame_run3 _ _ _ _ (fun x hx=>by obtain ⟨v,_,rfl⟩:=List.mem_map.1 hx;exact def_nodiv name v)];rfl
theorem join_rstrip (name:List UInt8):∀(us:List (List UInt8)),us≠[]→(∀u∈us,UrlOk u)→rstripL blankB (joinLf (us.map (defLine name)))=joinLf (us.map (defLine name)):=by
 intro us h0 h;refine rstrip_none _ _ ?_;have key:∀(us:List (List UInt8)),us≠[]→(∀u∈us,UrlOk u)→∃a c,joinLf (us.map (defLine name))=a++[c]∧blankB c=false:=by
  intro us;induction us with
  |nil=>intro h;exact absurd rfl h
  |cons u us ih=>
   intro _ hu;cases us with
   |nil=>
    have hl:=(hu u (List.mem_cons_self ..)).last;obtain ⟨v,rfl⟩:=(hu u (List.mem_cons_self ..)).head;obtain ⟨a,c,hac⟩:∃a c,(47:UInt8)::v=a++[c]:=⟨_,_,(List.dropLast_concat_getLast (by simp)).symm⟩
    rw [hac,List.getLast?_concat]at hl;refine ⟨91::(name++93::58::32::a),c,?_,by simpa using hl⟩;show joinLf [defLine name (47::v)]=_;rw [hac];simp [joinLf,defLine]
   |cons w us=>
    obtain ⟨a,c,h1,h2⟩:=ih (by simp) (fun x hx=>hu x (List.mem_cons_of_mem _ hx));refine ⟨defLine name u++10::a,c,?_,h2⟩;rw [List.map_cons,List.map_cons,joinLf,←List.map_cons,h1];simp
 obtain ⟨a,c,h1,h2⟩:=key us h0 h;rw [h1,List.getLast?_concat];exact h2
theorem blocks_defs (k d:Nat) (name u:List UInt8) (us:List (List UInt8)) (h:∀x∈u::us,UrlOk x):blocksK (k+1) d ((u::us).map (defLine name))=[⟨1,d,0,false,joinLf ((u::us).map (defLine name)),[]⟩]:=by
 have hn:=next_lines (blocksK k) d (defLine name u) (us.map (defLine name)) [] (fun x hx=>by
  rcases List.mem_cons.1 hx with rfl|hx
  ·exact def_ok _ _
  ·obtain ⟨v,_,rfl⟩:=List.mem_map.1 hx;exact def_ok _ _) (.inl rfl)
 have hj:=join_rstrip name (u::us) (by simp) h;rw [List.map_cons]at hj⊢;rw [List.append_nil,hj]at hn;rw [blocksK,allGoB,if_neg (by simp),hn];simp [allGoB]
theorem join_len (name:List UInt8):∀(us:List (List UInt8)),us.length≤(joinLf (us.map (defLine name))).length
 |[]=>by simp
 |[u]=>by simp [joinLf,defLine]
 |u::w::us=>by
  have:=join_len name (w::us);rw [List.map_cons,List.map_cons,joinLf,←List.map_cons,List.length_append,List.length_cons];simp only [List.length_cons]at this⊢;omega
theorem defs_law (z:SeerL) (name u:List UInt8) (us:List (List UInt8)) (hn:Letters name) (h0:name≠[]) (hl:name.length≤20) (hu:∀x∈u::us,UrlOk x) (hk:z.unk highL=false):
  (buildL z (defsDoc name (u::us))).defs=[⟨name,if z.see1 highL=true then secretL else u,[],[],false⟩]∧
  (buildL z (defsDoc name (u::us))).diags=List.replicate (if z.see1 highL=true then us.length+1 else us.length) ⟨4,name⟩:=by
 have hbd:blocksL ((u::us).map (defLine name))=[⟨1,0,0,false,joinLf ((u::us).map (defLine name)),[]⟩]:=blocks_defs 13 0 name u us hu;have hs1:∀x∈[secretL],UrlOk x:=fun x hx=>by rw [List.mem_singleton.1 hx];exact secret_ok
 have hb1:blocksL [defLine name secretL]=[⟨1,0,0,false,defLine name secretL,[]⟩]:=blocks_defs 13 0 name secretL [] hs1;have n123:∀x∈(u::us).map (defLine name),(123:UInt8)∉x:=fun x hx e=>by
  obtain ⟨v,hv,rfl⟩:=List.mem_map.1 hx;exact (def_chars hn (hu v hv) _ e).2.2 rfl
 have lv:=fun b un=>linesV_plain z un ((u::us).map (defLine name)) b n123;have lv1:=fun b un=>linesV_plain z un [defLine name secretL] b (fun x hx e=>by rw [List.mem_singleton.1 hx]at e;exact (def_chars hn secret_ok _ e).2.2 rfl);have hjl:=join_len name (u::us);obtain ⟨J,hJ⟩:∃J,joinLf ((u::us).map (defLine name))=J:=⟨_,rfl⟩
 obtain ⟨Ls,hLs⟩:∃Ls,(u::us).map (defLine name)=Ls:=⟨_,rfl⟩
 have p1:∀b:VwSt,b.tab=[]→paraV ((defLine name secretL).length+1) b (defLine name secretL)=([],{b with tab:=[⟨name,secretL,[],[],false⟩],defs:=b.defs++[⟨name,secretL,[],[],false⟩]}):=fun b ht=>by
  have:=paraV_first hn h0 hl secretL [] ((defLine name secretL).length+1) b hs1 (by simp [defLine]) ht;simpa [joinLf]using this
 have p2:∀b:VwSt,b.tab=[]→paraV (J.length+1) b J=([],{b with tab:=[⟨name,u,[],[],false⟩],defs:=b.defs++[⟨name,u,[],[],false⟩],diags:=b.diags++List.replicate us.length ⟨4,name⟩}):=fun b ht=>by
  have:=paraV_first hn h0 hl u us (J.length+1) b hu (by rw [hJ]at hjl;simp at hjl;omega) ht
  rwa [hJ]at this
 have p3:∀b:VwSt,b.tab=[⟨name,secretL,[],[],false⟩]→paraV (J.length+1) b J=([],{b with diags:=b.diags++List.replicate (us.length+1) ⟨4,name⟩}):=fun b ht=>by
  have:=paraV_more hn h0 hl (u::us) (J.length+1) b hu (by rw [hJ]at hjl;simp at hjl⊢;omega) (by rw [ht];simp [lookL])
  rwa [hJ]at this
 rw [hJ,hLs]at hbd;rw [hLs]at lv;unfold buildL;rw [defsDoc_lines hn _ hu,defs_frame,hLs];by_cases hs:z.see1 highL=true
 ·constructor<;>simp [partV,runV,lv,lv1,hbd,hb1,hs,hk,SeerL.sees,VwSt.label,tidyV,tidyStep,VwSt.none,p1,p3]
 ·constructor<;>simp [partV,runV,lv,lv1,hbd,hb1,hs,hk,SeerL.sees,VwSt.label,tidyV,tidyStep,VwSt.none,p2]
end Go.Proofs.YtoccgnleiekomaaGreatDoor
