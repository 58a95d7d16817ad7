import Derived.Test.YtkphljggkajlkaaGreatDoorVwBW
set_option linter.unusedVariables false
set_option linter.unusedSimpArgs false
namespace Go.Proofs.YtkphljggkajlkaaGreatDoor
set_option linter.unusedVariables false
set_option linter.unusedSimpArgs false
def cleanB (c:UInt8):Bool:=c !=113&&c !=81&&c !=38
def fC (c:UInt8):Nat:=if cleanB c=true then 0 else 1
def Cl (s:List UInt8):Prop:=∀c∈s,cleanB c=true
def NoQ (s:List UInt8):Prop:=(113:UInt8)∉s
theorem Cl.nil:Cl []:=fun c h=>by cases h
theorem Cl.app {a b:List UInt8} (ha:Cl a) (hb:Cl b):Cl (a++b):=fun c h=>by
 rcases List.mem_append.1 h with h|h
 ·exact ha c h
 ·exact hb c h
theorem Cl.cons {c:UInt8} {s:List UInt8} (h:cleanB c=true) (hs:Cl s):Cl (c::s):=fun d hd=>by
 rcases List.mem_cons.1 hd with rfl|hd
 ·exact h
 ·exact hs d hd
theorem Cl.sub {a b:List UInt8} (h:Cl b) (hs:a.Sublist b):Cl a:=fun c hc=>h c (hs.subset hc)
theorem Cl.noq {s:List UInt8} (h:Cl s):NoQ s:=fun hm=>absurd (h 113 hm) (by decide)
theorem NoQ.nil:NoQ []:=fun h=>by cases h
theorem NoQ.app {a b:List UInt8} (ha:NoQ a) (hb:NoQ b):NoQ (a++b):=fun h=>by
 rcases List.mem_append.1 h with h|h
 ·exact ha h
 ·exact hb h
theorem cl_of_ms:∀{s:List UInt8},ms fC s=0→Cl s
 |[],_=>Cl.nil
 |c::s,h=>by
  rw [ms_cons]at h;refine Cl.cons ?_ (cl_of_ms (by omega));by_cases hc:cleanB c=true
  ·exact hc
  ·unfold fC at h;rw [if_neg hc]at h;omega
theorem ms_of_cl:∀{s:List UInt8},Cl s→ms fC s=0
 |[],_=>rfl
 |c::s,h=>by
  rw [ms_cons,ms_of_cl (fun d hd=>h d (List.mem_cons_of_mem _ hd)),fC,if_pos (h c (List.mem_cons_self ..))]
theorem tof_of_cl:∀{l:List (List UInt8)},(∀s∈l,Cl s)→tof fC l=0
 |[],_=>rfl
 |s::l,h=>by
  rw [tof_cons,ms_of_cl (h s (List.mem_cons_self ..)),tof_of_cl (fun x hx=>h x (List.mem_cons_of_mem _ hx))];rfl
theorem blocks_cl {l:List (List UInt8)} (h:∀s∈l,Cl s):∀x∈blocksL l,Cl x.text∧Cl x.info:=fun x hx=>by
 have hb:=blocks_bnd (f:=fC) (by decide) l x hx;rw [tof_of_cl h]at hb;exact ⟨cl_of_ms (by omega),cl_of_ms (by omega)⟩
theorem cl_digits (n:Nat):Cl (Lib.decDigits n):=fun c hc=>by
 have h:=digits_in n c hc;unfold cleanB;simp only [Bool.and_eq_true,bne_iff_ne];refine ⟨⟨?_,?_⟩,?_⟩<;>(rintro rfl;revert h;decide)
theorem cut2_sub (a b:UInt8):∀(l t:List UInt8),cut2 a b l=some t→t.Sublist l
 |[],t,h=>by simp [cut2]at h
 |c::l,t,h=>by
  rw [cut2]at h;split at h
  ·obtain rfl:=Option.some.inj h;exact List.nil_sublist _
  ·cases hu:cut2 a b l with
   |none=>rw [hu]at h;cases h
   |some u=>
    rw [hu]at h;obtain rfl:=Option.some.inj h;exact (cut2_sub a b l u hu).cons_cons c
theorem span_cl {s:List UInt8} (h:Cl s):Cl (spanAt s).1.text∧Cl (spanAt s).1.label:=by
 unfold spanAt
 dsimp only
 split
 ·exact ⟨Cl.nil,Cl.nil⟩
 ·split
  ·exact ⟨Cl.nil,Cl.nil⟩
  ·have h1:=(h.sub (trimPre_sub s [123,124]))
   split
   ·exact ⟨Cl.nil,Cl.nil⟩
   ·rename_i t ht;exact ⟨(h1.sub (cut_sub 58 _).2).sub (cut2_sub _ _ _ _ ht),h1.sub (cut_sub 58 _).1⟩
def PcCl (p:PieceF):Prop:=Cl p.text∧Cl p.label
theorem spansGo_cl:∀(n:Nat) (s acc:List UInt8),Cl s→Cl acc→∀p∈spansGo n s acc,PcCl p
 |0,s,acc,_,_,p,hp=>by simp [spansGo]at hp
 |n+1,s,acc,hs,ha,p,hp=>by
  have hg:p∈(if acc=[]then []else [(⟨false,[],acc⟩:PieceF)])→PcCl p:=by
   split
   ·intro h;cases h
   ·intro h;simp at h;rw [h];exact ⟨ha,Cl.nil⟩
  cases s with
  |nil=>
   rw [spansGo]at hp;try dsimp only at hp
   exact hg hp
  |cons c t=>
   rw [spansGo]at hp;try dsimp only at hp
   split at hp
   ·exact spansGo_cl n t (acc++[c]) (hs.sub (List.sublist_cons_self ..)) (ha.app (Cl.cons (hs c (List.mem_cons_self ..)) Cl.nil)) p hp
   ·rcases List.mem_append.1 hp with hp|hp
    ·exact hg hp
    ·rcases List.mem_cons.1 hp with rfl|hp
     ·exact span_cl hs
     ·exact spansGo_cl n _ [] (hs.sub (List.drop_sublist _ _)) Cl.nil p hp
theorem spans_cl {s:List UInt8} (h:Cl s):∀p∈spansL s,PcCl p:=spansGo_cl _ _ _ h Cl.nil
structure QSt (b:VwSt):Prop where
 bl:∀x∈b.blocks,Cl x.text∧Cl x.info
 at':∀a∈b.atoms,Cl a.label∧Cl a.text
 df:∀d∈b.defs,NoQ d.name∧NoQ d.text∧NoQ d.url∧NoQ d.title
 dg:∀d∈b.diags,NoQ d.text
theorem all_app {α:Type} {P:α→Prop} {l:List α} (h:∀x∈l,P x) {y:α} (hy:P y):∀x∈l++[y],P x:=fun x hx=>by
 rcases List.mem_append.1 hx with hx|hx
 ·exact h x hx
 ·rw [List.mem_singleton.1 hx];exact hy
theorem QSt.diag {b:VwSt} (h:QSt b) (k:Nat) {t:List UInt8} (ht:NoQ t):QSt (b.diag k t):=⟨h.bl,h.at',h.df,all_app h.dg ht⟩
theorem QSt.label {b:VwSt} (h:QSt b) (z:SeerL) {x:List UInt8} (hx:Cl x):QSt (b.label z x):=by
 unfold VwSt.label;split
 ·exact h.diag 1 hx.noq
 ·exact h
theorem piece_cl (z:SeerL) (under:List (List UInt8)) {q:List UInt8×VwSt} (hq:Cl q.1∧QSt q.2) {p:PieceF} (hp:PcCl p):Cl (pieceV z under q p).1∧QSt (pieceV z under q p).2:=by
 unfold pieceV;split
 ·exact ⟨hq.1.app hp.1,hq.2⟩
 ·split
  ·have hb:=hq.2.label z hp.2;exact ⟨hq.1.app (Cl.cons (by decide) ((cl_digits _).app (Cl.cons (by decide) Cl.nil))),hb.bl,all_app hb.at' ⟨hp.2,hp.1⟩,hb.df,hb.dg⟩
  ·exact hq
theorem pieces_cl (z:SeerL) (under:List (List UInt8)):∀(l:List PieceF) (q:List UInt8×VwSt),(∀p∈l,PcCl p)→Cl q.1∧QSt q.2→Cl (l.foldl (pieceV z under) q).1∧QSt (l.foldl (pieceV z under) q).2
 |[],q,_,hq=>hq
 |p::l,q,h,hq=>pieces_cl z under l _ (fun x hx=>h x (List.mem_cons_of_mem _ hx)) (piece_cl z under hq (h p (List.mem_cons_self ..)))
theorem heading_lab (s:List UInt8):(headingL s).2.1.Sublist s:=by
 unfold headingL
 dsimp only
 split
 ·exact List.nil_sublist _
 ·split
  ·exact List.nil_sublist _
  ·split
   ·exact List.nil_sublist _
   ·split
    ·exact List.nil_sublist _
    ·exact (List.drop_sublist _ _).trans ((List.dropLast_sublist _).trans (rstrip_sub _ _))
def LnOk (z:SeerL) (s:List UInt8):Prop:=∀(b:VwSt) (under:List (List UInt8)),QSt b→Cl (lineV z b s under).1∧QSt (lineV z b s under).2
theorem line_cl (z:SeerL) {s:List UInt8} (h:Cl s):LnOk z s:=fun b under hb=>by
 unfold lineV;split
 ·split
  ·exact pieces_cl z _ _ _ (spans_cl (h.sub (heading_sub s))) ⟨Cl.nil,hb.label z (h.sub (heading_lab s))⟩
  ·exact ⟨Cl.nil,hb⟩
 ·exact pieces_cl z _ _ _ (spans_cl h) ⟨Cl.nil,hb⟩
theorem linesV_cl (z:SeerL) (under:List (List UInt8)):∀(l:List (List UInt8)) (b:VwSt),(∀s∈l,LnOk z s)→QSt b→(∀t∈(linesV z under l b).1,Cl t)∧QSt (linesV z under l b).2
 |[],b,_,hb=>⟨fun t ht=>(by cases ht),hb⟩
 |s::l,b,h,hb=>by
  have h1:=h s (List.mem_cons_self ..) b under hb;have h2:=linesV_cl z under l _ (fun x hx=>h x (List.mem_cons_of_mem _ hx)) h1.2;rw [linesV];refine ⟨fun t ht=>?_,h2.2⟩;rcases List.mem_cons.1 ht with rfl|ht
  ·exact h1.1
  ·exact h2.1 t ht
theorem run_cl (z:SeerL) {b:VwSt} {p:PartL} (under:List (List UInt8)) (h:∀s∈p.lines,LnOk z s) (hb:QSt b):QSt (runV z b p under):=by
 have hl:=linesV_cl z under p.lines b h hb;unfold runV;refine ⟨fun x hx=>?_,hl.2.at',hl.2.df,hl.2.dg⟩;rcases List.mem_append.1 hx with hx|hx
 ·exact hl.2.bl x hx
 ·obtain ⟨y,hy,rfl⟩:=List.mem_map.1 hx;exact blocks_cl hl.1 y hy
def PtOk (z:SeerL) (p:PartL):Prop:=(∀s∈p.lines,LnOk z s)∧Cl p.label
theorem part_cl (z:SeerL) {q:VwSt×List (List UInt8)×Option Nat} {p:PartL} (h:PtOk z p) (hq:QSt q.1):QSt (partV z q p).1:=by
 unfold partV;split
 ·exact hq
 ·dsimp only
  split
  ·exact run_cl z _ h.1 hq
  ·split
   ·exact hq
   ·have h1:=hq.label z h.2;split
    ·have h2:=h1.diag 2 h.2.noq;exact ⟨all_app h2.bl ⟨Cl.nil,h.2⟩,h2.at',h2.df,h2.dg⟩
    ·exact ⟨all_app h1.bl ⟨Cl.nil,h.2⟩,h1.at',h1.df,h1.dg⟩
theorem parts_cl (z:SeerL):∀(l:List PartL) (q:VwSt×List (List UInt8)×Option Nat),(∀p∈l,PtOk z p)→QSt q.1→QSt (l.foldl (partV z) q).1
 |[],q,_,hq=>hq
 |p::l,q,h,hq=>parts_cl z l _ (fun x hx=>h x (List.mem_cons_of_mem _ hx)) (part_cl z (h p (List.mem_cons_self ..)) hq)
theorem enc_big {r:Nat} (h:128≤r):∀c∈Lib.encodeRune (r:Int),128≤c.toNat:=by
 intro c hc;unfold Lib.encodeRune at hc;obtain ⟨x,hx,rfl⟩:=List.mem_map.1 hc;have hb:128≤x∧x≤255:=by
  unfold Lib.encodeRuneZ at hx;split at hx
  ·simp at hx;omega
  ·split at hx
   ·simp at hx;omega
   ·split at hx
    ·simp at hx;omega
    ·split at hx
     ·simp at hx;omega
     ·simp at hx;omega
 simp;omega
theorem dec_small {l:List UInt8} (h:(Lib.decodeL l).1<128):(l.getD 0 0).toNat=(Lib.decodeL l).1:=by
 rw [Lib.decodeL_N]at h⊢;rcases Lib.decodeN_shape l.length (l.getD 0 0).toNat (l.getD 1 0).toNat (l.getD 2 0).toNat (l.getD 3 0).toNat with ⟨c,e⟩|⟨c1,c2,c3,cv,e⟩|⟨c1,c2,c3,c4,cv,cs,e⟩|⟨c1,c2,c3,c4,c5,cv,cw,e⟩|e
 ·rw [e]
 ·rw [e]at h;dsimp only at h;omega
 ·rw [e]at h;dsimp only at h;omega
 ·rw [e]at h;dsimp only at h;omega
 ·rw [e]at h;exact absurd h (by decide)
theorem getD_cl {l:List UInt8} (h:Cl l) (hl:l≠[]):cleanB (l.getD 0 0)=true:=by
 cases l with
 |nil=>exact absurd rfl hl
 |cons c l=>exact h c (List.mem_cons_self ..)
theorem up_noq {l:List UInt8} (h:Cl l) (hl:l≠[]):NoQ (Lib.encodeRune ((Lib.decodeL l).1+32:Int)):=by
 intro hm;by_cases hr:(Lib.decodeL l).1+32<128
 ·have h1:=dec_small (l:=l) (by omega);have hn:((Lib.decodeL l).1+32:Int)=(((UInt8.ofNat ((Lib.decodeL l).1+32)).toNat:Nat):Int):=by
   rw [UInt8.toNat_ofNat_of_lt' (by show _<256;omega)];omega
  rw [hn,enc_ascii _ (by rw [UInt8.toNat_ofNat_of_lt' (by show _<256;omega)];omega)]at hm;have h2:=congrArg UInt8.toNat (List.mem_singleton.1 hm);rw [UInt8.toNat_ofNat_of_lt' (by show _<256;omega)]at h2;have h3:(113:UInt8).toNat=113:=rfl;have h4:l.getD 0 0=81:=UInt8.toNat_inj.1 (by rw [h1];show _=81;omega);have h5:=getD_cl h hl;rw [h4]at h5;exact absurd h5 (by decide)
 ·have:=enc_big (r:=(Lib.decodeL l).1+32) (by omega) 113 (by exact_mod_cast hm);exact absurd this (by decide)
theorem foldGo_noq:∀(n:Nat) (l:List UInt8) (sp:Bool) (acc:List UInt8),Cl l→NoQ acc→NoQ (foldGo n l sp acc)
 |0,l,sp,acc,_,ha=>by rw [foldGo];exact ha
 |n+1,l,sp,acc,hl,ha=>by
  rw [foldGo];split
  ·exact ha
  ·rename_i hne;split
   ·exact foldGo_noq n _ _ _ (hl.sub (List.drop_sublist _ _)) ha
   ·refine foldGo_noq n _ _ _ (hl.sub (List.drop_sublist _ _)) (NoQ.app ?_ ?_)
    ·split
     ·exact ha.app (by unfold NoQ;decide)
     ·exact ha
    ·split
     ·exact up_noq hl hne
     ·exact (hl.sub (List.take_sublist _ _)).noq
theorem unescF_cl:∀(n:Nat) (l:List UInt8),Cl l→Cl (unescF n l)
 |0,l,_=>by rw [unescF];exact Cl.nil
 |n+1,[],_=>by rw [unescF];exact Cl.nil
 |n+1,c::l,h=>by
  have hl:Cl l:=h.sub (List.sublist_cons_self ..);have hc:=h c (List.mem_cons_self ..);rw [unescF];split
  ·exact (hl.sub (List.take_sublist _ _)).app (unescF_cl n _ (hl.sub (List.drop_sublist _ _)))
  ·rw [entAt_other c l (by rintro rfl;exact absurd hc (by decide)),if_neg (by simp)];exact Cl.cons hc (unescF_cl n l hl)
theorem unesc_cl {l:List UInt8} (h:Cl l):Cl (unesc l):=unescF_cl _ _ h
theorem dest_cl {l:List UInt8} (h:Cl l):Cl (dest l).1:=by
 unfold dest angled
 dsimp only
 split
 ·split
  ·exact unesc_cl (h.sub ((List.drop_sublist _ _).trans (List.take_sublist _ _)))
  ·exact Cl.nil
 ·split
  ·exact Cl.nil
  ·exact unesc_cl (h.sub (List.take_sublist _ _))
theorem title_cl {l:List UInt8} (h:Cl l):Cl (title l).1:=by
 unfold title;split
 ·exact Cl.nil
 ·rename_i c r
  dsimp only
  split
  ·split
   ·exact unesc_cl (h.sub ((List.drop_sublist _ _).trans (List.take_sublist _ _)))
   ·exact Cl.nil
  ·exact Cl.nil
theorem trimL_sub (s set:List UInt8):(Lib.trimLeftS s set).Sublist s:=List.dropWhile_sublist _
theorem plain_cl {l:List UInt8} (h:Cl l):Cl (plainL l):=by
 have h1:(Lib.trimRightS (Lib.trimLeftS l blanks) blanks).Sublist (Lib.trimLeftS l blanks):=rstrip_sub _ _;exact h.sub (h1.trans (trimL_sub _ _))
theorem link_cl {l:List UInt8} (h:Cl l):Cl (linkL l).1∧Cl (linkL l).2.1:=by
 unfold linkL;split
 ·exact ⟨Cl.nil,Cl.nil⟩
 ·split
  ·exact ⟨dest_cl h,Cl.nil⟩
  ·split
   ·exact ⟨dest_cl h,title_cl (h.sub ((trimL_sub _ _).trans (List.drop_sublist _ _)))⟩
   ·exact ⟨Cl.nil,Cl.nil⟩
theorem name_noq {l:List UInt8} (h:Cl l):NoQ (nameL l).1:=by
 have hf:NoQ (fold l):=foldGo_noq _ _ _ _ h NoQ.nil;unfold nameL;split
 ·exact NoQ.nil
 ·split
  ·exact NoQ.nil
  ·exact hf
def DfNoQ (d:DefL):Prop:=NoQ d.name∧NoQ d.text∧NoQ d.url∧NoQ d.title
theorem none_noq:DfNoQ DefL.none:=⟨NoQ.nil,NoQ.nil,NoQ.nil,NoQ.nil⟩
theorem lineOf_noq {n r:List UInt8} (hn:Cl n) (hr:Cl r):DfNoQ (lineOf n r).1:=by
 unfold lineOf;split
 ·split
  ·exact ⟨name_noq (hn.sub (pre_sub 94 n)),(plain_cl hr).noq,NoQ.nil,NoQ.nil⟩
  ·exact none_noq
 ·split
  ·exact ⟨name_noq hn,NoQ.nil,(link_cl hr).1.noq,(link_cl hr).2.noq⟩
  ·exact none_noq
theorem def_noq {l:List UInt8} (h:Cl l):DfNoQ (lineL l).1:=by
 have h1:=h.sub (pre_sub 91 l);unfold lineL;split
 ·exact none_noq
 ·split
  ·exact lineOf_noq (h1.sub (cut_sub 93 _).1) ((h1.sub (cut_sub 93 _).2).sub ((trimL_sub _ _).trans (pre_sub 58 _)))
  ·exact none_noq
theorem restoreGo_cl {ts:List AtomT} (h:∀a∈ts,Cl a.label∧Cl a.text):∀(f:Nat) (l:List UInt8),Cl l→Cl (restoreGo f l ts)
 |0,l,_=>by rw [restoreGo];exact Cl.nil
 |f+1,[],_=>by rw [restoreGo];exact Cl.nil
 |f+1,c::l,hl=>by
  have h1:Cl l:=hl.sub (List.sublist_cons_self ..);have hc:=hl c (List.mem_cons_self ..);rw [restoreGo];split
  ·split
   ·rename_i n m hn;refine Cl.app ?_ (restoreGo_cl h f _ (hl.sub (List.drop_sublist _ _)));split
    ·rename_i a ha;exact (h a (List.mem_of_getElem? ha)).2
    ·exact Cl.nil
   ·exact Cl.cons hc (restoreGo_cl h f l h1)
  ·exact Cl.cons hc (restoreGo_cl h f l h1)
theorem restore_cl {ts:List AtomT} (h:∀a∈ts,Cl a.label∧Cl a.text) {l:List UInt8} (hl:Cl l):Cl (restoreL l ts):=restoreGo_cl h _ _ hl
theorem para_cl:∀(f:Nat) (b:VwSt) (t:List UInt8),QSt b→Cl t→QSt (paraV f b t).2
 |0,b,t,hb,_=>by rw [paraV];exact hb
 |f+1,b,t,hb,ht=>by
  have hd:=def_noq (restore_cl hb.at' (ht.sub (cut_sub 10 t).1));have ht2:=ht.sub (cut_sub 10 t).2;rw [paraV];split
  ·exact hb
  ·dsimp only
   split
   ·exact hb
   ·split
    ·refine para_cl f _ _ (hb.diag 4 (NoQ.app ?_ hd.1)) ht2;split
     ·unfold NoQ;decide
     ·exact NoQ.nil
    ·exact para_cl f _ _ ⟨hb.bl,hb.at',all_app hb.df hd,hb.dg⟩ ht2
theorem tidy_step_cl {b:VwSt} {x:BlkL} (hb:QSt b) (hx:Cl x.text∧Cl x.info):QSt (tidyStep b x):=by
 unfold tidyStep;split
 ·have hp:=para_cl (x.text.length+1) b x.text hb hx.1;have hs:=(para_sz (x.text.length+1) b x.text).2
  dsimp only
  split
  ·exact hp
  ·exact ⟨all_app hp.bl ⟨hx.1.sub hs,hx.2⟩,hp.at',hp.df,hp.dg⟩
 ·split
  ·exact ⟨all_app hb.bl ⟨restore_cl hb.at' hx.1,restore_cl hb.at' hx.2⟩,hb.at',hb.df,hb.dg⟩
  ·exact ⟨all_app hb.bl hx,hb.at',hb.df,hb.dg⟩
theorem tidy_fold_cl:∀(l:List BlkL) (b:VwSt),(∀x∈l,Cl x.text∧Cl x.info)→QSt b→QSt (l.foldl tidyStep b)
 |[],b,_,hb=>hb
 |x::l,b,h,hb=>tidy_fold_cl l _ (fun y hy=>h y (List.mem_cons_of_mem _ hy)) (tidy_step_cl hb (h x (List.mem_cons_self ..)))
theorem tidy_cl {b:VwSt} (hb:QSt b):QSt (tidyV b):=tidy_fold_cl _ _ hb.bl ⟨fun x h=>(by cases h),hb.at',hb.df,hb.dg⟩
theorem none_cl:QSt VwSt.none:=⟨fun x h=>(by cases h),fun x h=>(by cases h),fun x h=>(by cases h),fun x h=>(by cases h)⟩
theorem build_cl {z:SeerL} {doc:List UInt8} (h:QSt ((frameL (linesL (repairL doc))).foldl (partV z) (VwSt.none,[],none)).1):QSt (buildL z doc):=tidy_cl h
theorem dec_stop (x b:List UInt8) (hx:x≠[]):(Lib.decodeL (x++10::b)).2≤x.length:=by
 have hl:0<x.length:=List.length_pos_iff.2 hx;have hg:∀k,k=x.length→((x++10::b).getD k 0).toNat=10:=by
  rintro k rfl;simp [List.getD]
 rw [Lib.decodeL_N];rcases Lib.decodeN_shape (x++10::b).length ((x++10::b).getD 0 0).toNat ((x++10::b).getD 1 0).toNat ((x++10::b).getD 2 0).toNat ((x++10::b).getD 3 0).toNat with ⟨c,e⟩|⟨c1,c2,c3,cv,e⟩|⟨c1,c2,c3,c4,cv,cs,e⟩|⟨c1,c2,c3,c4,c5,cv,cw,e⟩|e
 ·rw [e];exact hl
 ·rw [e];dsimp only;by_cases h1:1=x.length
  ·rw [hg 1 h1]at c3;omega
  ·omega
 ·rw [e];dsimp only;by_cases h1:1=x.length
  ·rw [hg 1 h1]at c3;omega
  ·by_cases h2:2=x.length
   ·rw [hg 2 h2]at c4;omega
   ·omega
 ·rw [e];dsimp only;by_cases h1:1=x.length
  ·rw [hg 1 h1]at c3;omega
  ·by_cases h2:2=x.length
   ·rw [hg 2 h2]at c4;omega
   ·by_cases h3:3=x.length
    ·rw [hg 3 h3]at c5;omega
    ·omega
 ·rw [e];exact hl
theorem dec_last {L:List UInt8} (hL:L≠[]) (h:L.getD ((Lib.decodeL L).2 - 1) 0=13):(Lib.decodeL L).1=13:=by
 cases L with
 |nil=>exact absurd rfl hL
 |cons c t=>
  by_cases hc:c.toNat<128
  ·rw [Lib.decodeL_ascii c t hc]at h⊢;simp at h;rw [h];rfl
  ·exfalso;have h0:((c::t).getD 0 0).toNat=c.toNat:=rfl;have h13:(13:UInt8).toNat=13:=rfl;rw [Lib.decodeL_N]at h;rcases Lib.decodeN_shape (c::t).length ((c::t).getD 0 0).toNat ((c::t).getD 1 0).toNat ((c::t).getD 2 0).toNat ((c::t).getD 3 0).toNat with ⟨c,e⟩|⟨c1,c2,c3,cv,e⟩|⟨c1,c2,c3,c4,cv,cs,e⟩|⟨c1,c2,c3,c4,c5,cv,cw,e⟩|e
   ·omega
   ·rw [e]at h;dsimp only [Nat.reduceSub]at h;rw [h]at c3;omega
   ·rw [e]at h;dsimp only [Nat.reduceSub]at h;rw [h]at c4;omega
   ·rw [e]at h;dsimp only [Nat.reduceSub]at h;rw [h]at c5;omega
   ·rw [e]at h;dsimp only [Nat.reduceSub]at h;rw [h]at h0;omega
def repP (s:List UInt8) (i:Nat):List UInt8:=
 if (Lib.decodeL (s.drop i)).1=0∨(Lib.decodeL (s.drop i)).1=65533 then badL else if (Lib.decodeL (s.drop i)).1=13 then [10]else if (Lib.decodeL (s.drop i)).1=10∧0<i∧s[i - 1]? =some 13 then []else Lib.encodeRune ((Lib.decodeL (s.drop i)).1:Int)
theorem rep_step {s:List UInt8} {i:Nat} (hi:i<s.length) (f:Nat):repairGo (f+1) s i=repP s i++repairGo f s (i+(Lib.decodeL (s.drop i)).2):=by
 rw [repairGo,if_neg (by omega)];rfl
theorem repP_cl {s t:List UInt8} {i:Nat} (hi:i<s.length) (ht:(s.drop i).take (Lib.decodeL (s.drop i)).2=t) (h:Cl t):Cl (repP s i):=by
 unfold repP;split
 ·unfold Cl;decide
 ·rename_i h1;split
  ·unfold Cl;decide
  ·split
   ·exact Cl.nil
   ·rw [Lib.encode_decode _ (fun e=>by rw [List.drop_eq_nil_iff]at e;omega) (fun e=>h1 (Or.inr e.1)),ht];exact h
theorem rep_to (a b:List UInt8) (ha:Cl a):∀(k i f:Nat) (acc:List UInt8),a.length≤i+k→i≤a.length→(a++10::b).length≤i+f→
  (0<i→(a++10::b)[i - 1]? =some 13→∃u,acc=u++[10])→Cl acc→
  ∃X g,Cl X∧(a++10::b).length≤a.length+1+g∧acc++repairGo f (a++10::b) i=X++10::repairGo g (a++10::b) (a.length+1):=by
 intro k;induction k with
 |zero=>
  intro i f acc h1 h2 hf hc hacc;obtain rfl:i=a.length:=(by omega);obtain ⟨g,rfl⟩:∃g,f=g+1:=⟨f - 1,by simp at hf;omega⟩
  have hd:(a++10::b).drop a.length=10::b:=List.drop_left ..;have hdec:Lib.decodeL (10::b)=(10,1):=Lib.decodeL_ascii 10 b (by decide);rw [rep_step (by simp),hd,hdec];have hp:repP (a++10::b) a.length=if (0<a.length∧(a++10::b)[a.length - 1]? =some 13)then []else [10]:=by
   unfold repP;rw [hd,hdec];simp only;rw [if_neg (by decide),if_neg (by decide)];by_cases hq:0<a.length∧(a++10::b)[a.length - 1]? =some 13
   ·rw [if_pos hq,if_pos ⟨trivial,hq⟩]
   ·rw [if_neg hq,if_neg (fun e=>hq e.2)];decide
  rw [hp];by_cases hq:0<a.length∧(a++10::b)[a.length - 1]? =some 13
  ·obtain ⟨u,rfl⟩:=hc hq.1 hq.2;rw [if_pos hq];exact ⟨u,g,hacc.sub (List.sublist_append_left ..),by omega,by simp⟩
  ·rw [if_neg hq];exact ⟨acc,g,hacc,by omega,by simp⟩
 |succ k ih=>
  intro i f acc h1 h2 hf hc hacc;by_cases hi:i=a.length
  ·exact ih i f acc (by omega) h2 hf hc hacc
  ·obtain ⟨g,rfl⟩:∃g,f=g+1:=⟨f - 1,by simp at hf;omega⟩
   have hd:(a++10::b).drop i=a.drop i++10::b:=List.drop_append_of_le_length (by omega);have hne:a.drop i≠[]:=fun e=>by rw [List.drop_eq_nil_iff]at e;omega
   have hst:=dec_stop (a.drop i) b hne;have hw:=Lib.decodeL_width (a.drop i++10::b);rw [List.length_drop]at hst;rw [rep_step (by simp;omega),←List.append_assoc];have hcl:Cl (repP (a++10::b) i):=by
    refine repP_cl (by simp;omega) rfl ?_;rw [hd,List.take_append_of_le_length (by rw [List.length_drop];exact hst)];exact ha.sub ((List.take_sublist _ _).trans (List.drop_sublist _ _))
   refine ih _ g _ (by rw [hd];omega) (by rw [hd];omega) (by rw [hd];omega) (fun h0 h13=>?_) (hacc.app hcl);have h14:((a++10::b).drop i).getD ((Lib.decodeL ((a++10::b).drop i)).2 - 1) 0=13:=by
    rw [List.getD_eq_getElem?_getD,List.getElem?_drop];rw [show i+((Lib.decodeL ((a++10::b).drop i)).2 - 1)=i+(Lib.decodeL ((a++10::b).drop i)).2 - 1 by rw [hd];omega,h13];rfl
   have h15:=dec_last (by rw [hd];simp) h14;refine ⟨acc,?_⟩;unfold repP;rw [h15,if_neg (by decide),if_pos rfl]
theorem rep_mid:∀(m p r:List UInt8) (f:Nat),(∀c∈m,okB c=true)→p.getLast? ≠some 13→(p++(m++r)).length≤p.length+f→
  ∃g,(p++(m++r)).length≤p.length+m.length+g∧repairGo f (p++(m++r)) p.length=m++repairGo g (p++(m++r)) (p.length+m.length)
 |[],p,r,f,_,_,hf=>⟨f,by simpa using hf,by simp⟩
 |c::m,p,r,f,h,hp,hf=>by
  obtain ⟨g,rfl⟩:∃g,f=g+1:=⟨f - 1,by simp at hf;omega⟩
  have ho:=h c (List.mem_cons_self ..);unfold okB at ho;simp only [Bool.and_eq_true,bne_iff_ne,decide_eq_true_eq]at ho;obtain ⟨⟨h0,h1⟩,h2⟩:=ho;have hn0:c.toNat≠0:=fun e=>h0 (UInt8.toNat.inj e);have hn13:c.toNat≠13:=fun e=>h2 (UInt8.toNat.inj e);have hd:(p++(c::m++r)).drop p.length=c::(m++r):=List.drop_left ..;have hcr:¬(c.toNat=10∧0<p.length∧(p++(c::m++r))[p.length - 1]? =some 13):=by
   rintro ⟨_,h3,e⟩;rw [List.getElem?_append_left (by omega),←List.getLast?_eq_getElem?]at e;exact hp e
  have hs:p++(c::m++r)=(p++[c])++(m++r):=(by simp);obtain ⟨k,hk1,hk2⟩:=rep_mid m (p++[c]) r g (fun d hd=>h d (List.mem_cons_of_mem _ hd)) (by simp;exact h2) (by rw [←hs];simp at hf⊢;omega);refine ⟨k,by rw [hs];simp at hk1⊢;omega,?_⟩;rw [rep_step (by simp),hd,Lib.decodeL_ascii c _ h1];have hpp:repP (p++(c::m++r)) p.length=[c]:=by
   unfold repP;rw [hd,Lib.decodeL_ascii c _ h1];simp only;rw [if_neg (by omega),if_neg hn13,if_neg hcr,enc_ascii c h1]
  rw [hpp,hs];rw [List.length_append,List.length_singleton]at hk2;rw [hk2,List.length_cons,show p.length+1+m.length=p.length+(m.length+1) by omega];rfl
theorem rep_tail:∀(f:Nat) (s:List UInt8) (i:Nat),Cl (s.drop i)→Cl (repairGo f s i)
 |0,s,i,_=>by rw [repairGo];exact Cl.nil
 |f+1,s,i,h=>by
  by_cases hi:s.length≤i
  ·rw [repairGo,if_pos hi];exact Cl.nil
  ·rw [rep_step (by omega)];refine (repP_cl (by omega) rfl (h.sub (List.take_sublist _ _))).app (rep_tail f s _ ?_);rw [←List.drop_drop];exact h.sub (List.drop_sublist _ _)
theorem rep_doc (a m b:List UInt8) (ha:Cl a) (hb:Cl b) (hm:∀c∈m,okB c=true):∃X Y,Cl X∧Cl Y∧repairL (a++10::(m++b))=X++10::(m++Y):=by
 obtain ⟨X,g,hX,hg,e⟩:=rep_to a (m++b) ha a.length 0 (a++10::(m++b)).length [] (by omega) (by omega) (by omega) (fun h=>absurd h (by omega)) Cl.nil;have hs:a++10::(m++b)=(a++[10])++(m++b):=(by simp);obtain ⟨k,hk,e2⟩:=rep_mid m (a++[10]) b g hm (by simp) (by rw [←hs];simp at hg⊢;omega);rw [←hs,List.length_append,List.length_singleton]at e2;refine ⟨X,repairGo k (a++10::(m++b)) (a.length+1+m.length),hX,rep_tail _ _ _ ?_,?_⟩
 ·rw [hs,show a.length+1+m.length=(a++[10]++m).length by simp;omega,←List.append_assoc,List.drop_left];exact hb
 ·unfold repairL;rw [List.nil_append]at e;rw [e,e2]
theorem lines_two:∀(X Z:List UInt8),∃x L,linesL (X++10::Z)=(x::L)++linesL Z∧∀l∈x::L,∀c∈l,c∈X
 |[],Z=>⟨[],[],by simp [linesL],fun l hl c hc=>by rw [List.mem_singleton.1 hl]at hc;cases hc⟩
 |d::X,Z=>by
  obtain ⟨x,L,e,h⟩:=lines_two X Z;by_cases hd:d=10
  ·refine ⟨[],x::L,by rw [List.cons_append,linesL,if_pos hd,e];rfl,fun l hl c hc=>?_⟩;rcases List.mem_cons.1 hl with rfl|hl
   ·cases hc
   ·exact List.mem_cons_of_mem _ (h l hl c hc)
  ·refine ⟨d::x,L,by rw [List.cons_append,linesL,if_neg hd,e];rfl,fun l hl c hc=>?_⟩;rcases List.mem_cons.1 hl with rfl|hl
   ·rcases List.mem_cons.1 hc with rfl|hc
    ·exact List.mem_cons_self ..
    ·exact List.mem_cons_of_mem _ (h x (List.mem_cons_self ..) c hc)
   ·exact List.mem_cons_of_mem _ (h l (List.mem_cons_of_mem _ hl) c hc)
theorem lines_mid (Z:List UInt8):∀(ls:List (List UInt8)),(∀x∈ls,(10:UInt8)∉x)→linesL (joinL ls++Z)=ls++linesL Z
 |[],_=>rfl
 |x::ls,h=>by
  rw [show joinL (x::ls)++Z=x++10::(joinL ls++Z) by unfold joinL;simp,lines_one x (h x (List.mem_cons_self ..)),lines_mid Z ls (fun y hy=>h y (List.mem_cons_of_mem _ hy))];rfl
def highS:List UInt8:=[104,105,103,104]
def qqqS:List UInt8:=[113,113,113]
def spanS:List UInt8:=[123,124,104,105,103,104,58,113,113,113,124,125]
def divS:List UInt8:=[58,58,58,123,104,105,103,104,125]
def endS:List UInt8:=[58,58,58]
def headS:List UInt8:=[35,32,113,113,113,32,123,61,104,105,103,104,125]
def midS (k:Nat):List (List UInt8):=if k=0 then [spanS]else if k=1 then [divS,qqqS,endS]else [headS]
theorem lines_doc (a b:List UInt8) (ls:List (List UInt8)) (ha:Cl a) (hb:Cl b) (hm:∀c∈joinL ls,okB c=true) (hn:∀x∈ls,(10:UInt8)∉x):
  ∃L M,(∀s∈L,Cl s)∧(∀s∈M,Cl s)∧linesL (repairL (a++10::(joinL ls++b)))=L++(ls++M):=by
 obtain ⟨X,Y,hX,hY,e⟩:=rep_doc a (joinL ls) b ha hb hm;obtain ⟨x,L,e2,h⟩:=lines_two X (joinL ls++Y);refine ⟨x::L,linesL Y,fun s hs c hc=>hX c (h s hs c hc),fun s hs c hc=>hY c (lines_mem Y s hs c hc),?_⟩;rw [e,e2,lines_mid Y ls hn]
theorem sees_high {z:SeerL} (h:z.see1 highS=false) (u:List (List UInt8)):z.sees (u++[highS])=false:=by
 simp [SeerL.sees,h]
theorem line_span {z:SeerL} (h:z.see1 highS=false):LnOk z spanS:=fun b u hb=>by
 have h1:(headingL spanS).2.2=false:=(by decide);have h2:spansL spanS=[⟨true,highS,qqqS⟩]:=(by decide);unfold lineV;rw [h1,if_neg (by decide),h2,List.foldl_cons,List.foldl_nil];unfold pieceV;simp only [sees_high h];exact ⟨Cl.nil,hb⟩
theorem line_head1 {z:SeerL} (h:z.see1 highS=false):LnOk z headS:=fun b u hb=>by
 have h1:(headingL headS).2.2=true:=(by decide);have h2:(headingL headS).2.1=highS:=(by decide);unfold lineV;rw [h1,if_pos rfl,h2,sees_high h,if_neg (by decide)];exact ⟨Cl.nil,hb⟩
theorem opens_cl {s:List UInt8} (h:Cl s):Cl (opensD s).1:=by
 have h1:Cl (rtrimS s):=h.sub (rstrip_sub _ _);have h2:=h1.sub (trimPre_sub (rtrimS s) [58,58,58,123]);unfold opensD
 dsimp only
 split
 ·exact Cl.nil
 ·split
  ·exact h2.sub (List.dropLast_sublist _)
  ·exact h2
def LnOk2 (z:SeerL) (s:List UInt8):Prop:=LnOk z s∧((opensD s).2=true→Cl (opensD s).1)
theorem clean_ok2 (z:SeerL) {s:List UInt8} (h:Cl s):LnOk2 z s:=⟨line_cl z h,fun _=>opens_cl h⟩
theorem step_ok {z:SeerL} {s:List UInt8} (hs:LnOk2 z s) (st:FrSt) (h:∀p∈st.out,PtOk z p):∀p∈(frameStep st s).out,PtOk z p:=by
 refine frame_step_all s (fun d ho=>⟨fun x hx=>(by cases hx),hs.2 ho⟩) (fun d=>⟨fun x hx=>(by rw [List.mem_singleton.1 hx];exact hs.1),Cl.nil⟩) (fun p hp=>hp) (fun p hp=>⟨fun x hx=>?_,hp.2⟩) st h;rcases List.mem_append.1 hx with hx|hx
 ·exact hp.1 x hx
 ·rw [List.mem_singleton.1 hx];exact hs.1
theorem fold_ok {z:SeerL}:∀(l:List (List UInt8)) (st:FrSt),(∀s∈l,LnOk2 z s)→(∀p∈st.out,PtOk z p)→∀p∈(l.foldl frameStep st).out,PtOk z p
 |[],st,_,h=>h
 |s::l,st,hl,h=>fold_ok l _ (fun x hx=>hl x (List.mem_cons_of_mem _ hx)) (step_ok (hl s (List.mem_cons_self ..)) st h)
theorem frame_ok {z:SeerL} {l:List (List UInt8)} (h:∀s∈l,LnOk2 z s):∀p∈frameL l,PtOk z p:=fold_ok l _ h (fun p hp=>by cases hp)
theorem mod_left {α:Type} (f:α→α):∀(A C:List α) (i:Nat),i<A.length→(A++C).modify i f=A.modify i f++C
 |[],C,i,h=>by simp at h
 |a::A,C,0,_=>by simp
 |a::A,C,i+1,h=>by
  rw [List.cons_append,List.modify_succ_cons,List.modify_succ_cons,mod_left f A C i (by simpa using h)];rfl
theorem mod_right {α:Type} (f:α→α):∀(A C:List α) (k:Nat),(A++C).modify (A.length+k) f=A++C.modify k f
 |[],C,k=>by simp
 |a::A,C,k=>by
  rw [List.cons_append,List.length_cons,show A.length+1+k=A.length+k+1 by omega,List.modify_succ_cons,mod_right f A C k];rfl
theorem mod_two {α:Type} (f:α→α) (A B:List α) (x y:α) (k:Nat):(A++x::y::B).modify (A.length+2+k) f=A++x::y::B.modify k f:=by
 rw [show A++x::y::B=(A++[x,y])++B by simp,show A.length+2+k=(A++[x,y]).length+k by simp,mod_right];simp
def InnLt (st:FrSt):Prop:=∀i∈st.inn,i<st.out.length
theorem step_inn (st:FrSt) (s:List UInt8) (h:InnLt st):InnLt (frameStep st s):=by
 unfold frameStep InnLt;split
 ·intro i hi;rw [List.length_append,List.length_singleton];rcases List.mem_append.1 hi with hi|hi
  ·have:=h i hi;omega
  ·rw [List.mem_singleton.1 hi];omega
 ·split
  ·intro i hi;rw [List.length_modify];exact h i (List.dropLast_subset _ hi)
  ·split
   ·intro i hi;rw [List.length_modify];exact h i hi
   ·intro i hi;rw [List.length_append];have:=h i hi;omega
theorem fold_inn:∀(l:List (List UInt8)) (st:FrSt),InnLt st→InnLt (l.foldl frameStep st)
 |[],st,h=>h
 |s::l,st,h=>fold_inn l _ (step_inn st s h)
structure HidIn (z:SeerL) (d:Nat) (st:FrSt) (A B:List PartL):Prop where
 out:st.out=A++⟨d,true,highS,false,[]⟩::⟨d+1,false,[],false,[qqqS]⟩::B
 a:∀p∈A,PtOk z p
 b:∀p∈B,PtOk z p
 run:st.run=true→B≠[]
 inn:∀i∈st.inn,i<A.length∨A.length+2≤i
theorem opn_ok {z:SeerL} {l:List PartL} (h:∀p∈l,PtOk z p) (k:Nat):∀p∈l.modify k (fun p=>{p with opn:=false}),PtOk z p:=modify_all (u:=fun p:PartL=>{p with opn:=false}) (fun p hp=>hp) l k h
theorem hid_step {z:SeerL} {d:Nat} {st:FrSt} {A B:List PartL} (h:HidIn z d st A B) {s:List UInt8} (hs:LnOk2 z s):∃A' B',HidIn z d (frameStep st s) A' B':=by
 have hlen:st.out.length=A.length+2+B.length:=(by rw [h.out];simp;omega);unfold frameStep;split
 ·rename_i ho;refine ⟨A,B++[⟨st.inn.length,true,(opensD s).1,true,[]⟩],by rw [h.out];simp,h.a,all_app h.b ⟨fun x hx=>(by cases hx),hs.2 ho⟩,fun e=>(by cases e),fun i hi=>?_⟩;rcases List.mem_append.1 hi with hi|hi
  ·exact h.inn i hi
  ·rw [List.mem_singleton.1 hi,hlen];exact Or.inr (by omega)
 ·split
  ·rename_i hsh;have hne:st.inn≠[]:=List.length_pos_iff.1 hsh.2;obtain ⟨j,hj⟩:∃j,st.inn.getLast?.getD 0=j:=⟨_,rfl⟩
   have hjm:j∈st.inn:=by
    rw [List.getLast?_eq_some_getLast hne]at hj;rw [←hj];exact List.getLast_mem hne
   rw [hj];rcases h.inn j hjm with hlt|hge
   ·refine ⟨A.modify j (fun p=>{p with opn:=false}),B,by rw [h.out,mod_left _ _ _ _ hlt],opn_ok h.a j,h.b,fun e=>(by cases e),fun i hi=>?_⟩;rw [List.length_modify];exact h.inn i (List.dropLast_subset _ hi)
   ·obtain ⟨q,rfl⟩:∃q,j=A.length+2+q:=⟨j - (A.length+2),by omega⟩
    refine ⟨A,B.modify q (fun p=>{p with opn:=false}),?_,h.a,opn_ok h.b _,fun e=>(by cases e),fun i hi=>h.inn i (List.dropLast_subset _ hi)⟩
    dsimp only
    rw [h.out,mod_two]
  ·split
   ·rename_i hrun;have hB:=List.length_pos_iff.2 (h.run hrun);obtain ⟨q,hq⟩:∃q,B.length=q+1:=⟨B.length - 1,by omega⟩
    refine ⟨A,B.modify q (fun p=>{p with lines:=p.lines++[s]}),?_,h.a,?_,fun _ e=>?_,h.inn⟩
    ·dsimp only
     rw [show st.out.length - 1=A.length+2+q by omega,h.out,mod_two]
    ·exact modify_all (u:=fun p:PartL=>{p with lines:=p.lines++[s]}) (fun p hp=>⟨all_app hp.1 hs.1,hp.2⟩) _ _ h.b
    ·have:=congrArg List.length e;rw [List.length_modify]at this;simp at this;rw [this]at hB;simp at hB
   ·exact ⟨A,B++[⟨st.inn.length,false,[],false,[s]⟩],by rw [h.out];simp,h.a,all_app h.b ⟨fun x hx=>by rw [List.mem_singleton.1 hx];exact hs.1,Cl.nil⟩,fun _=>by simp,h.inn⟩
theorem hid_fold {z:SeerL} {d:Nat}:∀(l:List (List UInt8)) (st:FrSt) (A B:List PartL),(∀s∈l,LnOk2 z s)→HidIn z d st A B→∃A' B',HidIn z d (l.foldl frameStep st) A' B'
 |[],st,A,B,_,h=>⟨A,B,h⟩
 |s::l,st,A,B,hl,h=>by
  obtain ⟨A1,B1,h1⟩:=hid_step h (hl s (List.mem_cons_self ..));exact hid_fold l _ A1 B1 (fun x hx=>hl x (List.mem_cons_of_mem _ hx)) h1
theorem hid_three {z:SeerL} (st:FrSt) (h:∀p∈st.out,PtOk z p) (hi:InnLt st):HidIn z st.inn.length ([divS,qqqS,endS].foldl frameStep st) st.out []:=by
 have o1:opensD divS=(highS,true):=(by decide);have o2:(opensD qqqS).2=false:=(by decide);have o3:(opensD endS).2=false:=(by decide);have s2:shutsD qqqS=false:=(by decide);have s3:shutsD endS=true:=(by decide);have e1:frameStep st divS=⟨st.out++[⟨st.inn.length,true,highS,true,[]⟩],st.inn++[st.out.length],false⟩:=by
  unfold frameStep;rw [o1];rfl
 have e2:frameStep ⟨st.out++[⟨st.inn.length,true,highS,true,[]⟩],st.inn++[st.out.length],false⟩ qqqS=⟨st.out++[⟨st.inn.length,true,highS,true,[]⟩]++[⟨st.inn.length+1,false,[],false,[qqqS]⟩],st.inn++[st.out.length],true⟩:=by
  unfold frameStep;simp [o2,s2]
 have e3:frameStep ⟨st.out++[⟨st.inn.length,true,highS,true,[]⟩]++[⟨st.inn.length+1,false,[],false,[qqqS]⟩],st.inn++[st.out.length],true⟩ endS=⟨st.out++[⟨st.inn.length,true,highS,false,[]⟩,⟨st.inn.length+1,false,[],false,[qqqS]⟩],st.inn,false⟩:=by
  unfold frameStep;rw [o3,if_neg (by decide),if_pos ⟨s3,by simp⟩];simp only [List.getLast?_append,List.getLast?_singleton,Option.some_or,Option.getD_some,List.dropLast_concat];rw [List.append_assoc];have hm:(st.out++(([⟨st.inn.length,true,highS,true,[]⟩]:List PartL)++([⟨st.inn.length+1,false,[],false,[qqqS]⟩]:List PartL))).modify st.out.length (fun p:PartL=>{p with opn:=false})=st.out++(([⟨st.inn.length,true,highS,true,[]⟩]:List PartL)++([⟨st.inn.length+1,false,[],false,[qqqS]⟩]:List PartL)).modify 0 (fun p:PartL=>{p with opn:=false}):=mod_right _ _ _ 0;rw [hm];simp
 rw [List.foldl_cons,List.foldl_cons,List.foldl_cons,List.foldl_nil,e1,e2,e3];exact ⟨rfl,h,fun p hp=>(by cases hp),fun e=>(by cases e),fun i hi2=>Or.inl (hi i hi2)⟩
theorem hid_two {z:SeerL} (h:z.see1 highS=false) (d:Nat) (q:VwSt×List (List UInt8)×Option Nat):(partV z (partV z q ⟨d,true,highS,false,[]⟩) ⟨d+1,false,[],false,[qqqS]⟩).1=q.1:=by
 obtain ⟨b,u,o⟩:=q;by_cases ho:(o.any fun h=>decide (h<d))=true
 ·have e1:partV z (b,u,o) ⟨d,true,highS,false,[]⟩=(b,u,o):=(by unfold partV;rw [if_pos ho]);have ho2:(o.any fun h=>decide (h<d+1))=true:=by
   cases o with
   |none=>cases ho
   |some k=>simp at ho⊢;omega
  rw [e1];unfold partV;rw [if_pos ho2]
 ·have e1:partV z (b,u,o) ⟨d,true,highS,false,[]⟩=(b,u.take d++[highS],some d):=by
   unfold partV;rw [if_neg ho];simp [sees_high h]
  rw [e1];unfold partV;rw [if_pos (by simp)]
theorem seen_pre {z:SeerL} (h:z.see1 highS=false) (a b:List UInt8) (ha:Cl a) (hb:Cl b) (k:Nat):QSt ((frameL (linesL (repairL (a++10::(joinL (midS k)++b))))).foldl (partV z) (VwSt.none,[],none)).1:=by
 have hk:midS k=[spanS]∨midS k=[divS,qqqS,endS]∨midS k=[headS]:=by
  unfold midS;split
  ·exact Or.inl rfl
  ·split
   ·exact Or.inr (Or.inl rfl)
   ·exact Or.inr (Or.inr rfl)
 obtain ⟨L,M,hL,hM,e⟩:=lines_doc a b (midS k) ha hb (by rcases hk with e|e|e<;>rw [e]<;>decide) (by rcases hk with e|e|e<;>rw [e]<;>decide);rw [e];have hone:∀s:List UInt8,LnOk z s→(opensD s).2=false→QSt ((frameL (L++([s]++M))).foldl (partV z) (VwSt.none,[],none)).1:=fun s hs ho=>by
  refine parts_cl z _ _ (frame_ok fun x hx=>?_) none_cl;rcases List.mem_append.1 hx with hx|hx
  ·exact clean_ok2 z (hL x hx)
  ·rcases List.mem_append.1 hx with hx|hx
   ·rw [List.mem_singleton.1 hx];exact ⟨hs,fun e=>by rw [ho]at e;cases e⟩
   ·exact clean_ok2 z (hM x hx)
 rcases hk with hk|hk|hk
 ·rw [hk];exact hone _ (line_span h) (by decide)
 ·rw [hk];unfold frameL;rw [List.foldl_append,List.foldl_append];have h1:=fold_ok (z:=z) L ⟨[],[],false⟩ (fun x hx=>clean_ok2 z (hL x hx)) (fun p hp=>by cases hp);have h2:=fold_inn L ⟨[],[],false⟩ (fun i hi=>by cases hi);obtain ⟨A,B,h3⟩:=hid_fold M _ _ _ (fun x hx=>clean_ok2 z (hM x hx)) (hid_three _ h1 h2);rw [h3.out,List.foldl_append,List.foldl_cons,List.foldl_cons];exact parts_cl z _ _ h3.b (by rw [hid_two h];exact parts_cl z _ _ h3.a none_cl)
 ·rw [hk];exact hone _ (line_head1 h) (by decide)
theorem heading_lb (s:List UInt8):(headingL s).2.1.length≤40:=by
 unfold headingL
 dsimp only
 split
 ·exact Nat.zero_le _
 ·split
  ·exact Nat.zero_le _
  ·split
   ·exact Nat.zero_le _
   ·rename_i h;split
    ·exact Nat.zero_le _
    ·exact (label_ne (by simpa using h)).2
theorem spansGo_lb:∀(n:Nat) (s acc:List UInt8),∀p∈spansGo n s acc,p.label.length≤40
 |0,s,acc,p,hp=>by simp [spansGo]at hp
 |n+1,s,acc,p,hp=>by
  have hg:p∈(if acc=[]then []else [(⟨false,[],acc⟩:PieceF)])→p.label.length≤40:=by
   split
   ·intro h;cases h
   ·intro h;simp at h;rw [h];exact Nat.zero_le _
  cases s with
  |nil=>
   rw [spansGo]at hp;try dsimp only at hp
   exact hg hp
  |cons c t=>
   rw [spansGo]at hp;try dsimp only at hp
   split at hp
   ·exact spansGo_lb n t (acc++[c]) p hp
   ·rename_i h0;rcases List.mem_append.1 hp with hp|hp
    ·exact hg hp
    ·rcases List.mem_cons.1 hp with rfl|hp
     ·exact (label_ne (span_lab _ h0)).2
     ·exact spansGo_lb n _ [] p hp
structure LbSt (b:VwSt):Prop where
 at':∀a∈b.atoms,a.label.length≤40
 dg:∀d∈b.diags,d.text.length≤100
theorem LbSt.diag {b:VwSt} (h:LbSt b) (k:Nat) {t:List UInt8} (ht:t.length≤100):LbSt (b.diag k t):=⟨h.at',all_app h.dg ht⟩
theorem LbSt.label {b:VwSt} (h:LbSt b) (z:SeerL) {x:List UInt8} (hx:x.length≤40):LbSt (b.label z x):=by
 unfold VwSt.label;split
 ·exact h.diag 1 (by omega)
 ·exact h
theorem pieces_lb (z:SeerL) (under:List (List UInt8)):∀(l:List PieceF) (q:List UInt8×VwSt),(∀p∈l,p.label.length≤40)→LbSt q.2→LbSt (l.foldl (pieceV z under) q).2
 |[],q,_,hq=>hq
 |p::l,q,h,hq=>by
  refine pieces_lb z under l _ (fun x hx=>h x (List.mem_cons_of_mem _ hx)) ?_;have hp:=h p (List.mem_cons_self ..);unfold pieceV;split
  ·exact hq
  ·split
   ·have hb:=hq.label z hp;exact ⟨all_app hb.at' hp,hb.dg⟩
   ·exact hq
theorem line_lb (z:SeerL) (b:VwSt) (s:List UInt8) (under:List (List UInt8)) (hb:LbSt b):LbSt (lineV z b s under).2:=by
 unfold lineV;split
 ·split
  ·exact pieces_lb z _ _ _ (spansGo_lb _ _ _) (hb.label z (heading_lb s))
  ·exact hb
 ·exact pieces_lb z _ _ _ (spansGo_lb _ _ _) hb
theorem linesV_lb (z:SeerL) (under:List (List UInt8)):∀(l:List (List UInt8)) (b:VwSt),LbSt b→LbSt (linesV z under l b).2
 |[],b,hb=>hb
 |s::l,b,hb=>by
  rw [linesV];exact linesV_lb z under l _ (line_lb z b s under hb)
theorem part_lb (z:SeerL) {q:VwSt×List (List UInt8)×Option Nat} {p:PartL} (h:p.div=true→p.label.length≤40) (hq:LbSt q.1):LbSt (partV z q p).1:=by
 unfold partV;split
 ·exact hq
 ·dsimp only
  split
  ·have:=linesV_lb z (q.2.1.take p.depth) p.lines q.1 hq;unfold runV;exact ⟨this.at',this.dg⟩
  ·rename_i hd;have hl:=h (by simpa using hd);split
   ·exact hq
   ·have h1:=hq.label z hl;split
    ·exact ⟨(h1.diag 2 (t:=p.label) (by omega)).at',(h1.diag 2 (t:=p.label) (by omega)).dg⟩
    ·exact ⟨h1.at',h1.dg⟩
theorem parts_lb (z:SeerL):∀(l:List PartL) (q:VwSt×List (List UInt8)×Option Nat),(∀p∈l,p.div=true→p.label.length≤40)→LbSt q.1→LbSt (l.foldl (partV z) q).1
 |[],q,_,hq=>hq
 |p::l,q,h,hq=>parts_lb z l _ (fun x hx=>h x (List.mem_cons_of_mem _ hx)) (part_lb z (h p (List.mem_cons_self ..)) hq)
theorem unescF_len:∀(n:Nat) (l:List UInt8),Cl l→(unescF n l).length≤l.length
 |0,l,_=>by rw [unescF];exact Nat.zero_le _
 |n+1,[],_=>by rw [unescF];exact Nat.zero_le _
 |n+1,c::l,h=>by
  have hl:Cl l:=h.sub (List.sublist_cons_self ..);have hc:=h c (List.mem_cons_self ..);rw [unescF];split
  ·have:=unescF_len n (l.drop 1) (hl.sub (List.drop_sublist _ _));rw [List.length_append,List.length_take,List.length_cons];rw [List.length_drop]at this;omega
  ·rw [entAt_other c l (by rintro rfl;exact absurd hc (by decide)),if_neg (by simp)];have:=unescF_len n l hl;rw [List.length_cons,List.length_cons];omega
theorem unesc_sub_len {l s:List UInt8} (h:Cl l) (hs:s.Sublist l):(unesc s).length≤l.length:=Nat.le_trans (unescF_len _ _ (h.sub hs)) hs.length_le
theorem dest_len {l:List UInt8} (h:Cl l):(dest l).1.length≤l.length:=by
 unfold dest angled
 dsimp only
 split
 ·split
  ·exact unesc_sub_len h ((List.drop_sublist _ _).trans (List.take_sublist _ _))
  ·exact Nat.zero_le _
 ·split
  ·exact Nat.zero_le _
  ·exact unesc_sub_len h (List.take_sublist _ _)
theorem title_len {l:List UInt8} (h:Cl l):(title l).1.length≤l.length:=by
 unfold title;split
 ·exact Nat.zero_le _
 ·rename_i c r
  dsimp only
  split
  ·split
   ·exact unesc_sub_len h ((List.drop_sublist _ _).trans (List.take_sublist _ _))
   ·exact Nat.zero_le _
  ·exact Nat.zero_le _
def DfLen (N:Nat) (d:DefL):Prop:=d.name.length≤60∧d.text.length≤N∧d.url.length≤N∧d.title.length≤N
theorem none_len (N:Nat):DfLen N DefL.none:=⟨Nat.zero_le _,Nat.zero_le _,Nat.zero_le _,Nat.zero_le _⟩
theorem nameL_len (l:List UInt8):(nameL l).1.length≤60:=by
 unfold nameL;split
 ·exact Nat.zero_le _
 ·split
  ·exact Nat.zero_le _
  ·rename_i h;simp only;omega
theorem lk_len {l:List UInt8} (h:Cl l):(linkL l).1.length≤l.length∧(linkL l).2.1.length≤l.length:=by
 unfold linkL;split
 ·exact ⟨Nat.zero_le _,Nat.zero_le _⟩
 ·split
  ·exact ⟨dest_len h,Nat.zero_le _⟩
  ·split
   ·have hs:=(trimL_sub (l.drop (dest l).2.1) blanks).trans (List.drop_sublist _ _);exact ⟨dest_len h,Nat.le_trans (title_len (h.sub hs)) hs.length_le⟩
   ·exact ⟨Nat.zero_le _,Nat.zero_le _⟩
theorem lineOf_len {n r:List UInt8} {N:Nat} (hr:Cl r) (hN:r.length≤N):DfLen N (lineOf n r).1:=by
 have hp:(plainL r).length≤N:=by
  have h1:(Lib.trimRightS (Lib.trimLeftS r blanks) blanks).Sublist (Lib.trimLeftS r blanks):=rstrip_sub _ _;exact Nat.le_trans (h1.trans (trimL_sub _ _)).length_le hN
 unfold lineOf;split
 ·split
  ·exact ⟨nameL_len _,hp,Nat.zero_le _,Nat.zero_le _⟩
  ·exact none_len N
 ·split
  ·exact ⟨nameL_len _,Nat.zero_le _,Nat.le_trans (lk_len hr).1 hN,Nat.le_trans (lk_len hr).2 hN⟩
  ·exact none_len N
theorem df_len3 {l:List UInt8} {N:Nat} (h:Cl l) (hN:l.length≤N):DfLen N (lineL l).1:=by
 have h1:=h.sub (pre_sub 91 l);unfold lineL;split
 ·exact none_len N
 ·split
  ·have hs:=(((trimL_sub _ blanks).trans (pre_sub 58 _)).trans (cut_sub 93 (preAt 91 l).1).2).trans (pre_sub 91 l);exact lineOf_len (h.sub hs) (Nat.le_trans hs.length_le hN)
  ·exact none_len N
structure LnSt (b:VwSt):Prop where
 bl:∀x∈b.blocks,x.text.length≤1000000000000∧x.info.length≤1000000000000
 at':∀a∈b.atoms,a.label.length≤40∧a.text.length≤24001
 df:∀d∈b.defs,DfLen 1000000000000 d
 dg:∀d∈b.diags,d.text.length≤100
theorem rs_len {b:VwSt} (h:LnSt b) {l:List UInt8} (hl:l.length≤500000):(restoreL l b.atoms).length≤1000000000000:=by
 have h1:=restore_sz (M:=24001) (fun a ha=>(h.at' a ha).2) l;have h2:=ms_le_len (f:=fZ) (b:=1) l (fun c _=>by unfold fZ;split<;>omega);have h3:ms fZ l*24001≤500000*24001:=Nat.mul_le_mul_right _ (by omega);omega
theorem para_len:∀(f:Nat) (b:VwSt) (t:List UInt8),LnSt b→QSt b→Cl t→t.length≤500000→LnSt (paraV f b t).2
 |0,b,t,hb,_,_,_=>by rw [paraV];exact hb
 |f+1,b,t,hb,hq,ht,hl=>by
  have hc:=(cut_sub 10 t).1;have hn:=def_noq (restore_cl hq.at' (ht.sub hc));have hd:=df_len3 (restore_cl hq.at' (ht.sub hc)) (rs_len hb (Nat.le_trans hc.length_le hl));have ht2:=ht.sub (cut_sub 10 t).2;have hl2:=Nat.le_trans (cut_sub 10 t).2.length_le hl;rw [paraV];split
  ·exact hb
  ·dsimp only
   split
   ·exact hb
   ·split
    ·refine para_len f _ _ ⟨hb.bl,hb.at',hb.df,all_app hb.dg ?_⟩ (hq.diag 4 (NoQ.app ?_ hn.1)) ht2 hl2
     ·have:=hd.1;simp only [List.length_append];split
      ·simp only [List.length_cons,List.length_nil];omega
      ·simp only [List.length_nil];omega
     ·split
      ·unfold NoQ;decide
      ·exact NoQ.nil
    ·exact para_len f _ _ ⟨hb.bl,hb.at',all_app hb.df hd,hb.dg⟩ ⟨hq.bl,hq.at',all_app hq.df hn,hq.dg⟩ ht2 hl2
theorem tidy_step_len {b:VwSt} {x:BlkL} (hb:LnSt b) (hq:QSt b) (hx:Cl x.text∧Cl x.info) (hl:x.text.length≤500000∧x.info.length≤500000):LnSt (tidyStep b x):=by
 unfold tidyStep;split
 ·have hp:=para_len (x.text.length+1) b x.text hb hq hx.1 hl.1;have hs:=(para_sz (x.text.length+1) b x.text).2.length_le
  dsimp only
  split
  ·exact hp
  ·exact ⟨all_app hp.bl ⟨by simp only;omega,by simp only;omega⟩,hp.at',hp.df,hp.dg⟩
 ·split
  ·exact ⟨all_app hb.bl ⟨rs_len hb hl.1,rs_len hb hl.2⟩,hb.at',hb.df,hb.dg⟩
  ·exact ⟨all_app hb.bl ⟨by omega,by omega⟩,hb.at',hb.df,hb.dg⟩
theorem tidy_fold_len:∀(l:List BlkL) (b:VwSt),(∀x∈l,(Cl x.text∧Cl x.info)∧x.text.length≤500000∧x.info.length≤500000)→LnSt b→QSt b→LnSt (l.foldl tidyStep b)
 |[],b,_,hb,_=>hb
 |x::l,b,h,hb,hq=>by
  obtain ⟨h1,h2⟩:=h x (List.mem_cons_self ..);exact tidy_fold_len l _ (fun y hy=>h y (List.mem_cons_of_mem _ hy)) (tidy_step_len hb hq h1 h2) (tidy_step_cl hq h1)
theorem bufo_all {z:SeerL} {l:List PartL} {R:BuSt} (ok:PartsOk l):∀(n i:Nat) (q:BuSt),i+n=l.length→BuFo z l R i q→BuFo z l R l.length R
 |0,i,q,hn,h=>by
  obtain rfl:i=l.length:=(by omega);have:=h.fo;rw [List.drop_length]at this;obtain rfl:q=R:=this;exact h
 |n+1,i,q,hn,h=>bufo_all ok n (i+1) _ (by omega) (h.next ok (List.getElem?_eq_getElem (show i<l.length by omega)))
theorem tidy_cnt:∀(l:List BlkL) (b:VwSt),(∀x∈l,x.text.length≤500000)→(l.foldl tidyStep b).blocks.length≤b.blocks.length+l.length∧(l.foldl tidyStep b).atoms=b.atoms∧(l.foldl tidyStep b).defs.length≤b.defs.length+500000*l.length∧(l.foldl tidyStep b).diags.length≤b.diags.length+500000*l.length
 |[],b,_=>⟨by simp,rfl,by simp,by simp⟩
 |x::l,b,h=>by
  obtain ⟨h1,h2,h3,h4⟩:=tidy_cnt l (tidyStep b x) (fun y hy=>h y (List.mem_cons_of_mem _ hy));obtain ⟨p,hb⟩:=tidy_sz b x;have hx:=h x (List.mem_cons_self ..);have p2:=p.nd;have p3:=p.ng;have p4:=p.at';simp only at p2 p3 p4;rw [List.foldl_cons,List.length_cons];exact ⟨by omega,by rw [h2,p4],by omega,by omega⟩
theorem build_cnt {z:SeerL} {doc:List UInt8} (hd:doc.length≤6000):(buildL z doc).blocks.length≤1000000∧(buildL z doc).atoms.length≤1000000∧(buildL z doc).defs.length≤1000000000000∧(buildL z doc).diags.length≤1000000000000:=by
 obtain ⟨ok,_,_⟩:=parts_ok doc hd;have hf:=bufo_all ok (frameL (linesL (repairL doc))).length 0 _ (by omega) (BuFo.start z ok rfl);have h1:=hf.na;have h2:=hf.ng;have h3:=hf.nb;have h4:=hf.df;unfold buildL tidyV;obtain ⟨g1,g2,g3,g4⟩:=tidy_cnt _ {((frameL (linesL (repairL doc))).foldl (partV z) (VwSt.none,[],none)).1 with blocks:=[]} (fun x hx=>(hf.bt x hx).1);have h5:=congrArg List.length h4
 dsimp only [List.length_nil]at g1 g3 g4 h5
 refine ⟨by omega,by rw [g2];dsimp only;omega,by omega,by omega⟩
theorem build_len {z:SeerL} {doc:List UInt8} (hd:doc.length≤6000) (h:QSt ((frameL (linesL (repairL doc))).foldl (partV z) (VwSt.none,[],none)).1):LnSt (buildL z doc):=by
 obtain ⟨ok,_,_⟩:=parts_ok doc hd;have hf:=bufo_all ok (frameL (linesL (repairL doc))).length 0 _ (by omega) (BuFo.start z ok rfl);have hl:=parts_lb z _ (VwSt.none,[],none) ok.lab ⟨fun a ha=>(by cases ha),fun d hd=>(by cases hd)⟩;unfold buildL tidyV;refine tidy_fold_len _ _ (fun x hx=>⟨h.bl x hx,(hf.bt x hx).1,(hf.bt x hx).2.1⟩) ⟨fun x hx=>(by cases hx),fun a ha=>⟨hl.at' a ha,hf.mt a ha⟩,?_,hl.dg⟩ ⟨fun x hx=>(by cases hx),h.at',h.df,h.dg⟩;intro d hd2;have:=hf.df;simp only at hd2;rw [this]at hd2;cases hd2
end Go.Proofs.YtkphljggkajlkaaGreatDoor
