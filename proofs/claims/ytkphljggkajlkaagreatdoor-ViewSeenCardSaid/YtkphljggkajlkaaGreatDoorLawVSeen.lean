/-
  LawVSeen: a part of the proof.
-/
import Derived.Test.YtkphljggkajlkaaGreatDoorVwBZ
import Derived.Test.YtkphljggkajlkaaGreatDoorVwBZa
namespace Go.Proofs.YtkphljggkajlkaaGreatDoor
open Go.RowKit
set_option maxRecDepth 100000
set_option linter.unusedVariables false
set_option linter.unusedSimpArgs false
theorem cl_take {l:List UInt8} {k:Nat} {c:UInt8} (h:Cl (l.take k)) (hk:l[k]? =some c) (hc:cleanB c=true):Cl (l.take (k+1)):=by
 obtain ⟨h1,rfl⟩:=List.getElem?_eq_some_iff.1 hk;rw [List.take_succ_eq_append_getElem h1];exact h.app (Cl.cons hc Cl.nil)
theorem clean_byte (c:UInt8):(c=113∨c=81∨c=38)∨(((c.toNat:Int)==113)=false∧((c.toNat:Int)==81)=false∧((c.toNat:Int)==38)=false∧cleanB c=true):=by
 by_cases h1:c=113
 ·exact Or.inl (Or.inl h1)
 ·by_cases h2:c=81
  ·exact Or.inl (Or.inr (Or.inl h2))
  ·by_cases h3:c=38
   ·exact Or.inl (Or.inr (Or.inr h3))
   ·have n1:c.toNat≠113:=fun e=>h1 (UInt8.toNat_inj.1 e);have n2:c.toNat≠81:=fun e=>h2 (UInt8.toNat_inj.1 e);have n3:c.toNat≠38:=fun e=>h3 (UInt8.toNat_inj.1 e);refine Or.inr ⟨by simp;omega,by simp;omega,by simp;omega,?_⟩;unfold cleanB;simp [h1,h2,h3]
theorem rem3 (n:Int):∃J:Nat,J<3∧(wrap64 (n.tmod 3+3)).tmod 3=(J:Int)∧(n.tmod 3==0)=decide (J=0):=by
 have h1:=Int.lt_tmod_of_pos n (show (0:Int)<3 by decide);have h2:=Int.tmod_lt_of_pos n (show (0:Int)<3 by decide);obtain ⟨r,hr⟩:∃r,n.tmod 3=r:=⟨_,rfl⟩
 rw [hr]at h1 h2⊢;have:r= -2∨r= -1∨r=0∨r=1∨r=2:=(by omega);rcases this with rfl|rfl|rfl|rfl|rfl
 ·exact ⟨1,by decide,by decide+kernel,by decide⟩
 ·exact ⟨2,by decide,by decide+kernel,by decide⟩
 ·exact ⟨0,by decide,by decide+kernel,by decide⟩
 ·exact ⟨1,by decide,by decide+kernel,by decide⟩
 ·exact ⟨2,by decide,by decide+kernel,by decide⟩
def twoT (a b:ByteArray):List (List UInt8):=[a.data.toList,b.data.toList]
def secretB (J:Nat):ByteArray:=if J=0 then ⟨#[123,124,104,105,103,104,58,113,113,113,124,125]⟩else if J=1 then ⟨#[10,58,58,58,123,104,105,103,104,125,10,113,113,113,10,58,58,58,10]⟩else ⟨#[10,35,32,113,113,113,32,123,61,104,105,103,104,125,10]⟩
theorem doc_zero (a b:List UInt8):(a++[10])++(secretB 0).data.toList++(10::b)=a++10::(joinL (midS 0)++b):=by
 simp [secretB,midS,joinL,spanS]
theorem doc_more (a b:List UInt8) {J:Nat} (h:0<J):a++(secretB J).data.toList++b=a++10::(joinL (midS J)++b):=by
 by_cases h1:J=1
 ·subst h1;simp [secretB,midS,joinL,divS,qqqS,endS]
 ·simp [secretB,midS,joinL,headS,h1,show¬J=0 by omega]
theorem secret_cell (w:World) {J:Nat} (hJ:J<3):(w.alloc (.cells #[.string ⟨#[123,124,104,105,103,104,58,113,113,113,124,125]⟩,.string ⟨#[10,58,58,58,123,104,105,103,104,125,10,113,113,113,10,58,58,58,10]⟩,.string ⟨#[10,35,32,113,113,113,32,123,61,104,105,103,104,125,10]⟩] 9)).cell? ⟨w.heap.size,J,none⟩=some (.string (secretB J)):=by
 have:J=0∨J=1∨J=2:=(by omega);rcases this with rfl|rfl|rfl<;>simp [secretB]
theorem cell_keep2 {w w':World} {p:Addr} {v:Value} (hb:Below w.heap.size w w') (h:w.cell? p=some v):w'.cell? p=some v:=(hb.cell (World.block_lt_of_cell? _ _ h)).trans h
theorem has_none (s:ByteArray) (h:NoQ s.data.toList) (hz:s.size≤1000000000000) (w:World):
  Calls Tryz.prog 9 #[.string s] w fun e w'=>e=.returned (.bool false)∧w'=w:=by
 have H:=Lib.hid h;clear h;go_enter Tryz.func9,Tryz.ntmps9
 go_wp2_with fail;go_loop [3] (fun u3=>∃i:Nat,i≤s.size∧u3=.int .i64 i) (fun u3=>s.size - (intOf u3).toNat)
 case atStart=>exact ⟨0,Nat.zero_le _,rfl⟩
 case round=>
  obtain ⟨i,hi,rfl⟩:=hrel;by_cases hlt:i<s.size
  ·have hg:=Lib.data_getElem? s i hlt;obtain ⟨d,hd⟩:∃d,s[i]=d:=⟨_,rfl⟩
   rw [hd]at hg;have k0:((d.toNat:Int)==113)=false:=by
    have h1:d≠113:=fun e=>H.out (by rw [←e];exact List.mem_of_getElem? hg);have h2:d.toNat≠113:=fun e=>h1 (UInt8.toNat_inj.1 e);simp;omega
   clear hg;go_wp2_with fail;go_round;case rel=>exact ⟨i+1,by omega,by go_num⟩
   case measure=>simp [intOf];omega
  ·obtain rfl:i=s.size:=(by omega);go_wp2_with fail;go_ret;exact ⟨rfl,rfl⟩
theorem RowR.dgn {w:World} {g o n:Nat} {l:List DiagL} (h:RowR w 2 (some ⟨g,o,none⟩) n (l.flatMap diagCells)) (k:Nat) (x:DiagL) (hk:l[k]? =some x):
  w.cell? ⟨g,o+k*2,none⟩=some (.int .i64 (x.kind:Int))∧w.cell? ⟨g,o+k*2+1,none⟩=some (.string ⟨x.text.toArray⟩):=
 ⟨h.cell (fun _=>rfl) k 0 x _ hk (by omega) rfl,h.cell (fun _=>rfl) k 1 x _ hk (by omega) rfl⟩
set_option maxHeartbeats 8000000 in
theorem law_vseen (k:Int) (ahead behind:ByteArray) (n:Int) (_wk:(Lit.int .i64 k).wf=true) (_wn:(Lit.int .i64 n).wf=true) (w:World) (hE:EnvI w):
  Calls Tryz.prog 3 #[.int .i64 k,.string ahead,.string behind,.int .i64 n] w fun e w'=>e=.returned (.bool true)∧Below w.heap.size w w':=by
 by_cases h1:(300:Int)<(ahead.size:Int)
 ·go_enter Tryz.func3,Tryz.ntmps3
  go_wp2_with fail;refine (alive23_any _ hE).mono ?_;rintro e w1 ⟨rfl,b1⟩;go_wp2_with fail;go_ret;exact ⟨rfl,b1⟩
 ·by_cases h2:(300:Int)<(behind.size:Int)
  ·go_enter Tryz.func3,Tryz.ntmps3
   go_wp2_with fail;refine (alive23_any _ hE).mono ?_;rintro e w1 ⟨rfl,b1⟩;go_wp2_with fail;go_ret;exact ⟨rfl,b1⟩
  ·have HE:=Lib.hid hE;clear hE;go_enter Tryz.func3,Tryz.ntmps3
   go_wp2_with fail;refine (alive23_any _ HE.out).mono ?_;rintro e w1 ⟨rfl,b1⟩;go_wp2_with fail;refine (see_any k _).mono ?_;rintro e w2 ⟨sb,v,K,rfl,hse,b2⟩;have HB2:=Lib.hid (below_step b1 b2);have HSE:=Lib.hid hse;have hs:=sees_str hse highS;rw [show (⟨highS.toArray⟩:ByteArray)=⟨#[104,105,103,104]⟩from rfl]at hs;have HS:=Lib.hid hs;clear b1 b2 hse hs;go_wp2_with fail;refine HS.out.mono ?_;rintro e w3 ⟨rfl,hb3⟩;have HB3:=Lib.hid (below_step HB2.out hb3);have HSE3:=Lib.hid (HSE.out.below hb3);clear hb3 HS HSE HB2;obtain ⟨see,hsee⟩:∃b,(diaSeer K).see1 highS=b:=⟨_,rfl⟩
   rw [hsee];have HSN0:=Lib.hid hsee;clear hsee;cases see
   ·have HSN:Hid ((diaSeer K).see1 highS=false):=HSN0;clear HSN0;go_upto_region 7 with (fail)
    have hrow:StrR (w3.alloc (.cells #[.string ahead,.string behind] 9)) (some ⟨w3.heap.size,0,none⟩) (twoT ahead behind):=by
     have:=row_new2 w3 [.string ahead,.string behind] 9 1 2 w3.heap.size rfl rfl (by omega);unfold StrR twoT strV;simp only [List.map_cons,List.map_nil,Lib.mk_data];exact this
    have HR:=Lib.hid hrow;have hbA:=(Below.refl w3.heap.size w3).alloc (Nat.le_refl _) (.cells #[.string ahead,.string behind] 9);have HSA:=Lib.hid (HSE3.out.below hbA);have HBA0:=Lib.hid (below_step HB3.out hbA);clear hrow hbA;obtain ⟨WT,hWT⟩:∃W,w3.alloc (.cells #[.string ahead,.string behind] 9)=W:=⟨_,rfl⟩
    obtain ⟨tb,htb⟩:∃n,w3.heap.size=n:=⟨_,rfl⟩
    rw [hWT,htb]at HR;rw [hWT]at HSA HBA0⊢;rw [htb];clear hWT htb;go_loopw [55] (fun u55 wr=>∃i:Nat,u55=.int .i64 (i:Int)∧i≤2∧wr=WT∧Hid (∀q:Nat,q<i→∀x,(twoT ahead behind)[q]? =some x→Cl x)) (fun u55 _=>2 - (intOf u55).toNat)
    case atStart=>exact ⟨0,by go_num,by omega,rfl,Lib.hid (fun q hq=>absurd hq (by omega))⟩
    case round=>
     obtain ⟨i,rfl,hi,rfl,HN⟩:=hrel;by_cases hlt:i<2
     ·obtain ⟨x,hx⟩:∃x,(twoT ahead behind)[i]? =some x:=⟨_,List.getElem?_eq_getElem hlt⟩
      have cx:=HR.out.at' i x hx;rw [Nat.zero_add]at cx;obtain ⟨X,hX⟩:∃X:ByteArray,(⟨x.toArray⟩:ByteArray)=X:=⟨_,rfl⟩
      have hXl:X.data.toList=x:=(by rw [←hX]);rw [hX]at cx;have hX3:X.size≤300:=by
       rw [Lib.size_eq,hXl];have hm:=List.mem_of_getElem? hx;unfold twoT at hm;simp only [List.mem_cons,List.not_mem_nil,or_false]at hm;rcases hm with rfl|rfl<;>rw [←Lib.size_eq]<;>omega
      have HXL:=Lib.hid (And.intro hXl hx);have hil:(i:Int)<2:=(by omega);clear hX hXl hx;go_wp2_with fail;go_loop [13] (fun u13=>∃q:Nat,q≤X.size∧u13=.int .i64 q∧Hid (Cl (X.data.toList.take q))) (fun u13=>X.size - (intOf u13).toNat)
      case atStart=>exact ⟨0,Nat.zero_le _,rfl,Lib.hid (by simpa using Cl.nil)⟩
      case round=>
       obtain ⟨q,hq,rfl,HL⟩:=hrel;by_cases hqt:q<X.size
       ·have hg:=Lib.data_getElem? X q hqt;obtain ⟨d,hd⟩:∃d,X[q]=d:=⟨_,rfl⟩
        rw [hd]at hg;rcases clean_byte d with h0|⟨q1,q2,q3,hc⟩
        ·have hno:(((d.toNat:Int)==113)=true)∨(((d.toNat:Int)==113)=false∧((d.toNat:Int)==81)=true)∨(((d.toNat:Int)==113)=false∧((d.toNat:Int)==81)=false∧((d.toNat:Int)==38)=true):=by
          rcases h0 with rfl|rfl|rfl
          ·exact Or.inl rfl
          ·exact Or.inr (Or.inl ⟨rfl,rfl⟩)
          ·exact Or.inr (Or.inr ⟨rfl,rfl,rfl⟩)
         clear hg h0;rcases hno with q1|⟨q1,q2⟩|⟨q1,q2,q3⟩
         ·go_wp2_with fail;go_ret;exact ⟨rfl,HBA0.out⟩
         ·go_wp2_with fail;go_ret;exact ⟨rfl,HBA0.out⟩
         ·go_wp2_with fail;go_ret;exact ⟨rfl,HBA0.out⟩
        ·have HN2:=Lib.hid (cl_take HL.out hg hc);clear hg hc;go_wp2_with fail;go_round;case rel=>exact ⟨q+1,by omega,by go_num,HN2⟩
         case measure=>simp [intOf];omega
       ·obtain rfl:q=X.size:=(by omega);have HN2:=Lib.hid (show∀q:Nat,q<i+1→∀y,(twoT ahead behind)[q]? =some y→Cl y from fun q hq y hy=>by
         rcases Nat.lt_succ_iff_lt_or_eq.1 hq with h|h
         ·exact HN.out q h y hy
         ·subst h;rw [HXL.out.2]at hy;obtain rfl:=Option.some.inj hy;have:=HL.out;rw [take_all,HXL.out.1]at this;exact this)
        clear cx;go_wp2_with fail;go_roundw;case rel=>exact ⟨i+1,by go_num,by omega,by first|rfl|trivial,HN2⟩
        case measure=>simp [intOf];omega
     ·obtain rfl:i=2:=(by omega);have HCL:=Lib.hid (And.intro (HN.out 0 (by omega) _ rfl) (HN.out 1 (by omega) _ rfl));have ha3:ahead.size≤300:=(by omega);have hb3:behind.size≤300:=(by omega);obtain ⟨J,hJ,hrem,hrem0⟩:=rem3 n;obtain ⟨W,hW⟩:∃W,W=wr:=⟨_,rfl⟩
      have cJ:=secret_cell wr hJ;obtain ⟨S,hS⟩:∃S,secretB J=S:=⟨_,rfl⟩
      rw [hS]at cJ;have hSs:S.size≤19:=by
       rw [←hS];have:J=0∨J=1∨J=2:=(by omega);rcases this with rfl|rfl|rfl<;>decide
      have hJi:(J:Int)<3:=(by omega);have hJn:(0:Int)≤(J:Int):=(by omega);have hbl:=(Below.refl wr.heap.size wr).alloc (Nat.le_refl _) (.cells #[.string ⟨#[123,124,104,105,103,104,58,113,113,113,124,125]⟩,.string ⟨#[10,58,58,58,123,104,105,103,104,125,10,113,113,113,10,58,58,58,10]⟩,.string ⟨#[10,35,32,113,113,113,32,123,61,104,105,103,104,125,10]⟩] 9);have HSE4:=Lib.hid (HSA.out.below hbl);have HB4:=Lib.hid (below_step HBA0.out hbl);have HSS:=Lib.hid hS;clear HN hbl hS HSA HBA0 HR hW W;go_upto_region 16 with (fail)
      obtain ⟨W4,hW4⟩:∃W,wr.alloc (.cells #[.string ⟨#[123,124,104,105,103,104,58,113,113,113,124,125]⟩,.string ⟨#[10,58,58,58,123,104,105,103,104,125,10,113,113,113,10,58,58,58,10]⟩,.string ⟨#[10,35,32,113,113,113,32,123,61,104,105,103,104,125,10]⟩] 9)=W:=⟨_,rfl⟩
      rw [hW4]at HSE4 HB4⊢;clear hW4 cJ hrem;by_cases hJ0:J=0
      ·have hz:(n.tmod 3==0)=true:=(by rw [hrem0,hJ0];rfl);clear hrem0;obtain ⟨DOC,hD⟩:∃D:ByteArray,((ahead++(⟨#[10]⟩:ByteArray))++S++((⟨#[10]⟩:ByteArray)++behind))=D:=⟨_,rfl⟩
       have hdl:DOC.data.toList=ahead.data.toList++10::(joinL (midS J)++behind.data.toList):=by
        rw [←hD,←HSS.out,hJ0,←doc_zero];simp only [ByteArray.data_append,Array.toList_append];simp
       have hds:DOC.size≤6000:=by
        rw [←hD];simp only [ByteArray.size_append,show (⟨#[10]⟩:ByteArray).size=1 from rfl];omega
       have z1:(ahead++(⟨#[10]⟩:ByteArray)).size=ahead.size+1:=(by rw [ByteArray.size_append];rfl);have z2:((⟨#[10]⟩:ByteArray)++behind).size=1+behind.size:=(by rw [ByteArray.size_append];rfl);have z3:(ahead++(⟨#[10]⟩:ByteArray)++S).size=ahead.size+1+S.size:=(by rw [ByteArray.size_append,z1]);obtain ⟨st,hst⟩:∃st,buildL (diaSeer K) DOC.data.toList=st:=⟨_,rfl⟩
       have hpre:=seen_pre (z:=diaSeer K) HSN.out ahead.data.toList behind.data.toList HCL.out.1 HCL.out.2 J;rw [←hdl]at hpre;have hd6:DOC.data.toList.length≤6000:=(by rw [←Lib.size_eq];exact hds);have hln:=build_len hd6 hpre;have hct:=build_cnt (z:=diaSeer K) hd6;have hqs:=build_cl hpre;rw [hst]at hln hct hqs;have HQ:=Lib.hid hqs;have HLN:=Lib.hid hln;have HCT:=Lib.hid hct;have HV:=Lib.hid (view_any HSE4.out (HE.out.below HB4.out) DOC hds _ hst);clear hqs hst hds hdl hln hct hpre hd6;go_wp2_with fail;clear z1 z2 z3 hz hJi hJn hSs HSS HCL;refine (HV.out).mono ?_;rintro e w3 ⟨o0,o1,o2,o3,c0,c1,c2,c3,rfl,hv,hb3⟩;have hse3:=(HSE4.out).below hb3;have hbA:=(Below.refl w3.heap.size w3).alloc (Nat.le_refl _) (.cells #[.slice o0 st.blocks.length c0,.slice o1 st.atoms.length c1,.slice o2 st.defs.length c2,.slice o3 st.diags.length c3] 34);have hvA:=hv.below hbA;have hseA:=hse3.below hbA;have hkA:=heap_alloc_new w3 (.cells #[.slice o0 st.blocks.length c0,.slice o1 st.atoms.length c1,.slice o2 st.defs.length c2,.slice o3 st.diags.length c3] 34);have HBA:=Lib.hid ((below_step HB4.out hb3).trans (hbA.mono (below_step HB4.out hb3).size));go_upto_region 19 with (fail)
       try simp only [List.length_cons,List.length_nil,List.length_replicate,Nat.zero_add,Nat.reduceAdd]
       generalize w3.alloc (.cells #[.slice o0 st.blocks.length c0,.slice o1 st.atoms.length c1,.slice o2 st.defs.length c2,.slice o3 st.diags.length c3] 34)=WA at hvA hseA hkA HBA⊢;obtain ⟨vb,hvb⟩:∃n,w3.heap.size=n:=⟨_,rfl⟩
       rw [hvb]at hkA⊢;have HKA:=Lib.hid hkA;have HVA:=Lib.hid hvA;have HSA:=Lib.hid hseA;clear hv hb3 hse3 hbA hvA hseA hkA hvb;obtain ⟨nb,hnn⟩:∃n,st.blocks.length=n:=⟨_,rfl⟩
       have Hnb:=Lib.hid hnn;have hnc:nb≤1000000000000:=(by rw [←hnn];have:=HCT.out;omega);have kk:WA.cell? ⟨vb,0,none⟩=some (.slice o0 nb c0):=(by rw [cell_of_row WA vb _ _ _ _ HKA.out,hnn];rfl);clear hnn;go_wp2_with fail;clear kk;go_loopw [106] (fun ui wr=>∃j:Nat,ui=.int .i64 (j:Int)∧j≤nb∧Below WA.heap.size WA wr) (fun ui _=>nb - (intOf ui).toNat)
       case atStart=>exact ⟨0,by go_num,Nat.zero_le _,Below.refl _ _⟩
       case round=>
        rename World=>W1
        obtain ⟨j,rfl,hj,hbq⟩:=hrel;have HBQ:=Lib.hid hbq;clear hbq;by_cases hlt:j<nb
        ·have hji:(j:Int)<(nb:Int):=(by omega);obtain ⟨x,hx⟩:∃x,st.blocks[j]? =some x:=⟨_,List.getElem?_eq_getElem (by rw [Hnb.out];exact hlt)⟩
         obtain ⟨g0,i0,rfl⟩:=RowR.addr HVA.out.bl (by rw [Hnb.out];omega);obtain ⟨p0,p1,p2,p3,p4,p5⟩:=RowR.blk (HVA.out.below HBQ.out).bl j x hx;have hq:=HQ.out.bl x (List.mem_of_getElem? hx);have HT0:=Lib.hid (has_none ⟨x.text.toArray⟩ hq.1.noq (by rw [Lib.size_eq];show x.text.length≤_;have:=HLN.out.bl x (List.mem_of_getElem? hx);omega));have HT1:=Lib.hid (has_none ⟨x.info.toArray⟩ hq.2.noq (by rw [Lib.size_eq];show x.info.length≤_;have:=HLN.out.bl x (List.mem_of_getElem? hx);omega));clear hq hx;go_upto_region 22 with (fail)
         have HBB:=Lib.hid (HBQ.out.alloc HBQ.out.size (.cells #[.int .i64 (x.kind:Int),.int .i64 (x.depth:Int),.int .i64 x.n,.bool x.tight,.string ⟨x.text.toArray⟩,.string ⟨x.info.toArray⟩] 37));have hkB:=heap_alloc_new W1 (.cells #[.int .i64 (x.kind:Int),.int .i64 (x.depth:Int),.int .i64 x.n,.bool x.tight,.string ⟨x.text.toArray⟩,.string ⟨x.info.toArray⟩] 37);generalize W1.alloc (.cells #[.int .i64 (x.kind:Int),.int .i64 (x.depth:Int),.int .i64 x.n,.bool x.tight,.string ⟨x.text.toArray⟩,.string ⟨x.info.toArray⟩] 37)=WB at HBB hkB⊢;obtain ⟨bb,hbb⟩:∃n,W1.heap.size=n:=⟨_,rfl⟩
         rw [hbb]at hkB⊢;have k0:WB.cell? ⟨bb,4,none⟩=some (.string ⟨x.text.toArray⟩):=(by rw [cell_of_row WB bb _ _ _ _ hkB];rfl);have k1:WB.cell? ⟨bb,5,none⟩=some (.string ⟨x.info.toArray⟩):=(by rw [cell_of_row WB bb _ _ _ _ hkB];rfl);clear p0 p1 p2 p3 p4 p5 hkB hbb;go_wp2_with fail;refine (HT0.out _).mono ?_;rintro e w' ⟨rfl,hw'⟩;obtain rfl:=hw'.symm;go_wp2_with fail;refine (HT1.out _).mono ?_;rintro e w' ⟨rfl,hw'⟩;obtain rfl:=hw'.symm;go_wp2_with fail;go_roundw;case rel=>exact ⟨j+1,by go_num,by omega,HBB.out⟩
         case measure=>simp [intOf];omega
        ·obtain rfl:j=nb:=(by omega);have HKA:=Lib.hid ((HBQ.out.block vb (Array.getElem?_eq_some_iff.1 HKA.out).1).trans HKA.out);have HVA:=Lib.hid (HVA.out.below HBQ.out);have HBA:=Lib.hid (below_step HBA.out HBQ.out);clear HBQ hlt hj Hnb;obtain ⟨na,hnn⟩:∃n,st.atoms.length=n:=⟨_,rfl⟩
         have Hna:=Lib.hid hnn;have hnc:na≤1000000000000:=(by rw [←hnn];have:=HCT.out;omega);have kk:W1.cell? ⟨vb,1,none⟩=some (.slice o1 na c1):=(by rw [cell_of_row W1 vb _ _ _ _ HKA.out,hnn];rfl);clear hnn;go_wp2_with fail;clear kk;go_loopw [122] (fun ui wr=>∃j:Nat,ui=.int .i64 (j:Int)∧j≤na∧Below W1.heap.size W1 wr) (fun ui _=>na - (intOf ui).toNat)
         case atStart=>exact ⟨0,by go_num,Nat.zero_le _,Below.refl _ _⟩
         case round=>
          rename World=>W2
          obtain ⟨j,rfl,hj,hbq⟩:=hrel;have HBQ:=Lib.hid hbq;clear hbq;by_cases hlt:j<na
          ·have hji:(j:Int)<(na:Int):=(by omega);obtain ⟨x,hx⟩:∃x,st.atoms[j]? =some x:=⟨_,List.getElem?_eq_getElem (by rw [Hna.out];exact hlt)⟩
           obtain ⟨g0,i0,rfl⟩:=RowR.addr HVA.out.at' (by rw [Hna.out];omega);obtain ⟨p0,p1⟩:=RowR.atm (HVA.out.below HBQ.out).at' j x hx;have hq:=HQ.out.at' x (List.mem_of_getElem? hx);have HT0:=Lib.hid (has_none ⟨x.text.toArray⟩ hq.2.noq (by rw [Lib.size_eq];show x.text.length≤_;have:=HLN.out.at' x (List.mem_of_getElem? hx);omega));have HT1:=Lib.hid (has_none ⟨x.label.toArray⟩ hq.1.noq (by rw [Lib.size_eq];show x.label.length≤_;have:=HLN.out.at' x (List.mem_of_getElem? hx);omega));clear hq hx;go_upto_region 28 with (fail)
           have HBB:=Lib.hid (HBQ.out.alloc HBQ.out.size (.cells #[.string ⟨x.label.toArray⟩,.string ⟨x.text.toArray⟩] 40));have hkB:=heap_alloc_new W2 (.cells #[.string ⟨x.label.toArray⟩,.string ⟨x.text.toArray⟩] 40);generalize W2.alloc (.cells #[.string ⟨x.label.toArray⟩,.string ⟨x.text.toArray⟩] 40)=WB at HBB hkB⊢;obtain ⟨bb,hbb⟩:∃n,W2.heap.size=n:=⟨_,rfl⟩
           rw [hbb]at hkB⊢;have k0:WB.cell? ⟨bb,1,none⟩=some (.string ⟨x.text.toArray⟩):=(by rw [cell_of_row WB bb _ _ _ _ hkB];rfl);have k1:WB.cell? ⟨bb,0,none⟩=some (.string ⟨x.label.toArray⟩):=(by rw [cell_of_row WB bb _ _ _ _ hkB];rfl);clear p0 p1 hkB hbb;go_wp2_with fail;refine (HT0.out _).mono ?_;rintro e w' ⟨rfl,hw'⟩;obtain rfl:=hw'.symm;go_wp2_with fail;refine (HT1.out _).mono ?_;rintro e w' ⟨rfl,hw'⟩;obtain rfl:=hw'.symm;go_wp2_with fail;go_roundw;case rel=>exact ⟨j+1,by go_num,by omega,HBB.out⟩
           case measure=>simp [intOf];omega
          ·obtain rfl:j=na:=(by omega);have HKA:=Lib.hid ((HBQ.out.block vb (Array.getElem?_eq_some_iff.1 HKA.out).1).trans HKA.out);have HVA:=Lib.hid (HVA.out.below HBQ.out);have HBA:=Lib.hid (below_step HBA.out HBQ.out);clear HBQ hlt hj Hna;obtain ⟨nd,hnn⟩:∃n,st.defs.length=n:=⟨_,rfl⟩
           have Hnd:=Lib.hid hnn;have hnc:nd≤1000000000000:=(by rw [←hnn];have:=HCT.out;omega);have kk:W2.cell? ⟨vb,2,none⟩=some (.slice o2 nd c2):=(by rw [cell_of_row W2 vb _ _ _ _ HKA.out,hnn];rfl);clear hnn;go_wp2_with fail;clear kk;go_loopw [138] (fun ui wr=>∃j:Nat,ui=.int .i64 (j:Int)∧j≤nd∧Below W2.heap.size W2 wr) (fun ui _=>nd - (intOf ui).toNat)
           case atStart=>exact ⟨0,by go_num,Nat.zero_le _,Below.refl _ _⟩
           case round=>
            rename World=>W3
            obtain ⟨j,rfl,hj,hbq⟩:=hrel;have HBQ:=Lib.hid hbq;clear hbq;by_cases hlt:j<nd
            ·have hji:(j:Int)<(nd:Int):=(by omega);obtain ⟨x,hx⟩:∃x,st.defs[j]? =some x:=⟨_,List.getElem?_eq_getElem (by rw [Hnd.out];exact hlt)⟩
             obtain ⟨g0,i0,rfl⟩:=RowR.addr HVA.out.df (by rw [Hnd.out];omega);obtain ⟨p0,p1,p2,p3,p4⟩:=RowR.dfn (HVA.out.below HBQ.out).df j x hx;have hq:=HQ.out.df x (List.mem_of_getElem? hx);have HT0:=Lib.hid (has_none ⟨x.name.toArray⟩ hq.1 (by rw [Lib.size_eq];show x.name.length≤_;have:=HLN.out.df x (List.mem_of_getElem? hx);unfold DfLen at this;omega));have HT1:=Lib.hid (has_none ⟨x.text.toArray⟩ hq.2.1 (by rw [Lib.size_eq];show x.text.length≤_;have:=HLN.out.df x (List.mem_of_getElem? hx);unfold DfLen at this;omega));have HT2:=Lib.hid (has_none ⟨x.url.toArray⟩ hq.2.2.1 (by rw [Lib.size_eq];show x.url.length≤_;have:=HLN.out.df x (List.mem_of_getElem? hx);unfold DfLen at this;omega));have HT3:=Lib.hid (has_none ⟨x.title.toArray⟩ hq.2.2.2 (by rw [Lib.size_eq];show x.title.length≤_;have:=HLN.out.df x (List.mem_of_getElem? hx);unfold DfLen at this;omega));clear hq hx;go_upto_region 34 with (fail)
             have HBB:=Lib.hid (HBQ.out.alloc HBQ.out.size (.cells #[.string ⟨x.name.toArray⟩,.string ⟨x.url.toArray⟩,.string ⟨x.title.toArray⟩,.string ⟨x.text.toArray⟩,.bool x.note] 42));have hkB:=heap_alloc_new W3 (.cells #[.string ⟨x.name.toArray⟩,.string ⟨x.url.toArray⟩,.string ⟨x.title.toArray⟩,.string ⟨x.text.toArray⟩,.bool x.note] 42);generalize W3.alloc (.cells #[.string ⟨x.name.toArray⟩,.string ⟨x.url.toArray⟩,.string ⟨x.title.toArray⟩,.string ⟨x.text.toArray⟩,.bool x.note] 42)=WB at HBB hkB⊢;obtain ⟨bb,hbb⟩:∃n,W3.heap.size=n:=⟨_,rfl⟩
             rw [hbb]at hkB⊢;have k0:WB.cell? ⟨bb,0,none⟩=some (.string ⟨x.name.toArray⟩):=(by rw [cell_of_row WB bb _ _ _ _ hkB];rfl);have k1:WB.cell? ⟨bb,3,none⟩=some (.string ⟨x.text.toArray⟩):=(by rw [cell_of_row WB bb _ _ _ _ hkB];rfl);have k2:WB.cell? ⟨bb,1,none⟩=some (.string ⟨x.url.toArray⟩):=(by rw [cell_of_row WB bb _ _ _ _ hkB];rfl);have k3:WB.cell? ⟨bb,2,none⟩=some (.string ⟨x.title.toArray⟩):=(by rw [cell_of_row WB bb _ _ _ _ hkB];rfl);clear p0 p1 p2 p3 p4 hkB hbb;go_wp2_with fail;refine (HT0.out _).mono ?_;rintro e w' ⟨rfl,hw'⟩;obtain rfl:=hw'.symm;go_wp2_with fail;refine (HT1.out _).mono ?_;rintro e w' ⟨rfl,hw'⟩;obtain rfl:=hw'.symm;go_wp2_with fail;refine (HT2.out _).mono ?_;rintro e w' ⟨rfl,hw'⟩;obtain rfl:=hw'.symm;go_wp2_with fail;refine (HT3.out _).mono ?_;rintro e w' ⟨rfl,hw'⟩;obtain rfl:=hw'.symm;go_wp2_with fail;go_roundw;case rel=>exact ⟨j+1,by go_num,by omega,HBB.out⟩
             case measure=>simp [intOf];omega
            ·obtain rfl:j=nd:=(by omega);have HKA:=Lib.hid ((HBQ.out.block vb (Array.getElem?_eq_some_iff.1 HKA.out).1).trans HKA.out);have HVA:=Lib.hid (HVA.out.below HBQ.out);have HBA:=Lib.hid (below_step HBA.out HBQ.out);clear HBQ hlt hj Hnd;obtain ⟨ng,hnn⟩:∃n,st.diags.length=n:=⟨_,rfl⟩
             have Hng:=Lib.hid hnn;have hnc:ng≤1000000000000:=(by rw [←hnn];have:=HCT.out;omega);have kk:W3.cell? ⟨vb,3,none⟩=some (.slice o3 ng c3):=(by rw [cell_of_row W3 vb _ _ _ _ HKA.out,hnn];rfl);clear hnn;go_wp2_with fail;clear kk;go_loopw [164] (fun ui wr=>∃j:Nat,ui=.int .i64 (j:Int)∧j≤ng∧Below W3.heap.size W3 wr) (fun ui _=>ng - (intOf ui).toNat)
             case atStart=>exact ⟨0,by go_num,Nat.zero_le _,Below.refl _ _⟩
             case round=>
              rename World=>W4
              obtain ⟨j,rfl,hj,hbq⟩:=hrel;have HBQ:=Lib.hid hbq;clear hbq;by_cases hlt:j<ng
              ·have hji:(j:Int)<(ng:Int):=(by omega);obtain ⟨x,hx⟩:∃x,st.diags[j]? =some x:=⟨_,List.getElem?_eq_getElem (by rw [Hng.out];exact hlt)⟩
               obtain ⟨g0,i0,rfl⟩:=RowR.addr HVA.out.dg (by rw [Hng.out];omega);obtain ⟨p0,p1⟩:=RowR.dgn (HVA.out.below HBQ.out).dg j x hx;have hq:=HQ.out.dg x (List.mem_of_getElem? hx);have HT0:=Lib.hid (has_none ⟨x.text.toArray⟩ hq (by rw [Lib.size_eq];show x.text.length≤_;have:=HLN.out.dg x (List.mem_of_getElem? hx);omega));clear hq hx;go_upto_region 40 with (fail)
               have HBB:=Lib.hid (HBQ.out.alloc HBQ.out.size (.cells #[.int .i64 (x.kind:Int),.string ⟨x.text.toArray⟩] 44));have hkB:=heap_alloc_new W4 (.cells #[.int .i64 (x.kind:Int),.string ⟨x.text.toArray⟩] 44);generalize W4.alloc (.cells #[.int .i64 (x.kind:Int),.string ⟨x.text.toArray⟩] 44)=WB at HBB hkB⊢;obtain ⟨bb,hbb⟩:∃n,W4.heap.size=n:=⟨_,rfl⟩
               rw [hbb]at hkB⊢;have k0:WB.cell? ⟨bb,1,none⟩=some (.string ⟨x.text.toArray⟩):=(by rw [cell_of_row WB bb _ _ _ _ hkB];rfl);clear p0 p1 hkB hbb;go_wp2_with fail;refine (HT0.out _).mono ?_;rintro e w' ⟨rfl,hw'⟩;obtain rfl:=hw'.symm;go_wp2_with fail;go_roundw;case rel=>exact ⟨j+1,by go_num,by omega,HBB.out⟩
               case measure=>simp [intOf];omega
              ·obtain rfl:j=ng:=(by omega);have HKA:=Lib.hid ((HBQ.out.block vb (Array.getElem?_eq_some_iff.1 HKA.out).1).trans HKA.out);have HVA:=Lib.hid (HVA.out.below HBQ.out);have HBA:=Lib.hid (below_step HBA.out HBQ.out);clear HBQ hlt hj Hng;go_wp2_with fail;go_ret;exact ⟨rfl,HBA.out⟩
      ·have hz:(n.tmod 3==0)=false:=(by rw [hrem0];simp [hJ0]);clear hrem0;obtain ⟨DOC,hD⟩:∃D:ByteArray,(ahead++S++behind)=D:=⟨_,rfl⟩
       have hdl:DOC.data.toList=ahead.data.toList++10::(joinL (midS J)++behind.data.toList):=by
        rw [←hD,←HSS.out,←doc_more _ _ (by omega)];simp only [ByteArray.data_append,Array.toList_append]
       have hds:DOC.size≤6000:=by
        rw [←hD];simp only [ByteArray.size_append];omega
       have z3:(ahead++S).size=ahead.size+S.size:=(by rw [ByteArray.size_append]);obtain ⟨st,hst⟩:∃st,buildL (diaSeer K) DOC.data.toList=st:=⟨_,rfl⟩
       have hpre:=seen_pre (z:=diaSeer K) HSN.out ahead.data.toList behind.data.toList HCL.out.1 HCL.out.2 J;rw [←hdl]at hpre;have hd6:DOC.data.toList.length≤6000:=(by rw [←Lib.size_eq];exact hds);have hln:=build_len hd6 hpre;have hct:=build_cnt (z:=diaSeer K) hd6;have hqs:=build_cl hpre;rw [hst]at hln hct hqs;have HQ:=Lib.hid hqs;have HLN:=Lib.hid hln;have HCT:=Lib.hid hct;have HV:=Lib.hid (view_any HSE4.out (HE.out.below HB4.out) DOC hds _ hst);clear hqs hst hds hdl hln hct hpre hd6;go_wp2_with fail;clear z3 hz hJi hJn hSs HSS HCL;refine (HV.out).mono ?_;rintro e w3 ⟨o0,o1,o2,o3,c0,c1,c2,c3,rfl,hv,hb3⟩;have hse3:=(HSE4.out).below hb3;have hbA:=(Below.refl w3.heap.size w3).alloc (Nat.le_refl _) (.cells #[.slice o0 st.blocks.length c0,.slice o1 st.atoms.length c1,.slice o2 st.defs.length c2,.slice o3 st.diags.length c3] 34);have hvA:=hv.below hbA;have hseA:=hse3.below hbA;have hkA:=heap_alloc_new w3 (.cells #[.slice o0 st.blocks.length c0,.slice o1 st.atoms.length c1,.slice o2 st.defs.length c2,.slice o3 st.diags.length c3] 34);have HBA:=Lib.hid ((below_step HB4.out hb3).trans (hbA.mono (below_step HB4.out hb3).size));go_upto_region 19 with (fail)
       try simp only [List.length_cons,List.length_nil,List.length_replicate,Nat.zero_add,Nat.reduceAdd]
       generalize w3.alloc (.cells #[.slice o0 st.blocks.length c0,.slice o1 st.atoms.length c1,.slice o2 st.defs.length c2,.slice o3 st.diags.length c3] 34)=WA at hvA hseA hkA HBA⊢;obtain ⟨vb,hvb⟩:∃n,w3.heap.size=n:=⟨_,rfl⟩
       rw [hvb]at hkA⊢;have HKA:=Lib.hid hkA;have HVA:=Lib.hid hvA;have HSA:=Lib.hid hseA;clear hv hb3 hse3 hbA hvA hseA hkA hvb;obtain ⟨nb,hnn⟩:∃n,st.blocks.length=n:=⟨_,rfl⟩
       have Hnb:=Lib.hid hnn;have hnc:nb≤1000000000000:=(by rw [←hnn];have:=HCT.out;omega);have kk:WA.cell? ⟨vb,0,none⟩=some (.slice o0 nb c0):=(by rw [cell_of_row WA vb _ _ _ _ HKA.out,hnn];rfl);clear hnn;go_wp2_with fail;clear kk;go_loopw [106] (fun ui wr=>∃j:Nat,ui=.int .i64 (j:Int)∧j≤nb∧Below WA.heap.size WA wr) (fun ui _=>nb - (intOf ui).toNat)
       case atStart=>exact ⟨0,by go_num,Nat.zero_le _,Below.refl _ _⟩
       case round=>
        rename World=>W1
        obtain ⟨j,rfl,hj,hbq⟩:=hrel;have HBQ:=Lib.hid hbq;clear hbq;by_cases hlt:j<nb
        ·have hji:(j:Int)<(nb:Int):=(by omega);obtain ⟨x,hx⟩:∃x,st.blocks[j]? =some x:=⟨_,List.getElem?_eq_getElem (by rw [Hnb.out];exact hlt)⟩
         obtain ⟨g0,i0,rfl⟩:=RowR.addr HVA.out.bl (by rw [Hnb.out];omega);obtain ⟨p0,p1,p2,p3,p4,p5⟩:=RowR.blk (HVA.out.below HBQ.out).bl j x hx;have hq:=HQ.out.bl x (List.mem_of_getElem? hx);have HT0:=Lib.hid (has_none ⟨x.text.toArray⟩ hq.1.noq (by rw [Lib.size_eq];show x.text.length≤_;have:=HLN.out.bl x (List.mem_of_getElem? hx);omega));have HT1:=Lib.hid (has_none ⟨x.info.toArray⟩ hq.2.noq (by rw [Lib.size_eq];show x.info.length≤_;have:=HLN.out.bl x (List.mem_of_getElem? hx);omega));clear hq hx;go_upto_region 22 with (fail)
         have HBB:=Lib.hid (HBQ.out.alloc HBQ.out.size (.cells #[.int .i64 (x.kind:Int),.int .i64 (x.depth:Int),.int .i64 x.n,.bool x.tight,.string ⟨x.text.toArray⟩,.string ⟨x.info.toArray⟩] 37));have hkB:=heap_alloc_new W1 (.cells #[.int .i64 (x.kind:Int),.int .i64 (x.depth:Int),.int .i64 x.n,.bool x.tight,.string ⟨x.text.toArray⟩,.string ⟨x.info.toArray⟩] 37);generalize W1.alloc (.cells #[.int .i64 (x.kind:Int),.int .i64 (x.depth:Int),.int .i64 x.n,.bool x.tight,.string ⟨x.text.toArray⟩,.string ⟨x.info.toArray⟩] 37)=WB at HBB hkB⊢;obtain ⟨bb,hbb⟩:∃n,W1.heap.size=n:=⟨_,rfl⟩
         rw [hbb]at hkB⊢;have k0:WB.cell? ⟨bb,4,none⟩=some (.string ⟨x.text.toArray⟩):=(by rw [cell_of_row WB bb _ _ _ _ hkB];rfl);have k1:WB.cell? ⟨bb,5,none⟩=some (.string ⟨x.info.toArray⟩):=(by rw [cell_of_row WB bb _ _ _ _ hkB];rfl);clear p0 p1 p2 p3 p4 p5 hkB hbb;go_wp2_with fail;refine (HT0.out _).mono ?_;rintro e w' ⟨rfl,hw'⟩;obtain rfl:=hw'.symm;go_wp2_with fail;refine (HT1.out _).mono ?_;rintro e w' ⟨rfl,hw'⟩;obtain rfl:=hw'.symm;go_wp2_with fail;go_roundw;case rel=>exact ⟨j+1,by go_num,by omega,HBB.out⟩
         case measure=>simp [intOf];omega
        ·obtain rfl:j=nb:=(by omega);have HKA:=Lib.hid ((HBQ.out.block vb (Array.getElem?_eq_some_iff.1 HKA.out).1).trans HKA.out);have HVA:=Lib.hid (HVA.out.below HBQ.out);have HBA:=Lib.hid (below_step HBA.out HBQ.out);clear HBQ hlt hj Hnb;obtain ⟨na,hnn⟩:∃n,st.atoms.length=n:=⟨_,rfl⟩
         have Hna:=Lib.hid hnn;have hnc:na≤1000000000000:=(by rw [←hnn];have:=HCT.out;omega);have kk:W1.cell? ⟨vb,1,none⟩=some (.slice o1 na c1):=(by rw [cell_of_row W1 vb _ _ _ _ HKA.out,hnn];rfl);clear hnn;go_wp2_with fail;clear kk;go_loopw [122] (fun ui wr=>∃j:Nat,ui=.int .i64 (j:Int)∧j≤na∧Below W1.heap.size W1 wr) (fun ui _=>na - (intOf ui).toNat)
         case atStart=>exact ⟨0,by go_num,Nat.zero_le _,Below.refl _ _⟩
         case round=>
          rename World=>W2
          obtain ⟨j,rfl,hj,hbq⟩:=hrel;have HBQ:=Lib.hid hbq;clear hbq;by_cases hlt:j<na
          ·have hji:(j:Int)<(na:Int):=(by omega);obtain ⟨x,hx⟩:∃x,st.atoms[j]? =some x:=⟨_,List.getElem?_eq_getElem (by rw [Hna.out];exact hlt)⟩
           obtain ⟨g0,i0,rfl⟩:=RowR.addr HVA.out.at' (by rw [Hna.out];omega);obtain ⟨p0,p1⟩:=RowR.atm (HVA.out.below HBQ.out).at' j x hx;have hq:=HQ.out.at' x (List.mem_of_getElem? hx);have HT0:=Lib.hid (has_none ⟨x.text.toArray⟩ hq.2.noq (by rw [Lib.size_eq];show x.text.length≤_;have:=HLN.out.at' x (List.mem_of_getElem? hx);omega));have HT1:=Lib.hid (has_none ⟨x.label.toArray⟩ hq.1.noq (by rw [Lib.size_eq];show x.label.length≤_;have:=HLN.out.at' x (List.mem_of_getElem? hx);omega));clear hq hx;go_upto_region 28 with (fail)
           have HBB:=Lib.hid (HBQ.out.alloc HBQ.out.size (.cells #[.string ⟨x.label.toArray⟩,.string ⟨x.text.toArray⟩] 40));have hkB:=heap_alloc_new W2 (.cells #[.string ⟨x.label.toArray⟩,.string ⟨x.text.toArray⟩] 40);generalize W2.alloc (.cells #[.string ⟨x.label.toArray⟩,.string ⟨x.text.toArray⟩] 40)=WB at HBB hkB⊢;obtain ⟨bb,hbb⟩:∃n,W2.heap.size=n:=⟨_,rfl⟩
           rw [hbb]at hkB⊢;have k0:WB.cell? ⟨bb,1,none⟩=some (.string ⟨x.text.toArray⟩):=(by rw [cell_of_row WB bb _ _ _ _ hkB];rfl);have k1:WB.cell? ⟨bb,0,none⟩=some (.string ⟨x.label.toArray⟩):=(by rw [cell_of_row WB bb _ _ _ _ hkB];rfl);clear p0 p1 hkB hbb;go_wp2_with fail;refine (HT0.out _).mono ?_;rintro e w' ⟨rfl,hw'⟩;obtain rfl:=hw'.symm;go_wp2_with fail;refine (HT1.out _).mono ?_;rintro e w' ⟨rfl,hw'⟩;obtain rfl:=hw'.symm;go_wp2_with fail;go_roundw;case rel=>exact ⟨j+1,by go_num,by omega,HBB.out⟩
           case measure=>simp [intOf];omega
          ·obtain rfl:j=na:=(by omega);have HKA:=Lib.hid ((HBQ.out.block vb (Array.getElem?_eq_some_iff.1 HKA.out).1).trans HKA.out);have HVA:=Lib.hid (HVA.out.below HBQ.out);have HBA:=Lib.hid (below_step HBA.out HBQ.out);clear HBQ hlt hj Hna;obtain ⟨nd,hnn⟩:∃n,st.defs.length=n:=⟨_,rfl⟩
           have Hnd:=Lib.hid hnn;have hnc:nd≤1000000000000:=(by rw [←hnn];have:=HCT.out;omega);have kk:W2.cell? ⟨vb,2,none⟩=some (.slice o2 nd c2):=(by rw [cell_of_row W2 vb _ _ _ _ HKA.out,hnn];rfl);clear hnn;go_wp2_with fail;clear kk;go_loopw [138] (fun ui wr=>∃j:Nat,ui=.int .i64 (j:Int)∧j≤nd∧Below W2.heap.size W2 wr) (fun ui _=>nd - (intOf ui).toNat)
           case atStart=>exact ⟨0,by go_num,Nat.zero_le _,Below.refl _ _⟩
           case round=>
            rename World=>W3
            obtain ⟨j,rfl,hj,hbq⟩:=hrel;have HBQ:=Lib.hid hbq;clear hbq;by_cases hlt:j<nd
            ·have hji:(j:Int)<(nd:Int):=(by omega);obtain ⟨x,hx⟩:∃x,st.defs[j]? =some x:=⟨_,List.getElem?_eq_getElem (by rw [Hnd.out];exact hlt)⟩
             obtain ⟨g0,i0,rfl⟩:=RowR.addr HVA.out.df (by rw [Hnd.out];omega);obtain ⟨p0,p1,p2,p3,p4⟩:=RowR.dfn (HVA.out.below HBQ.out).df j x hx;have hq:=HQ.out.df x (List.mem_of_getElem? hx);have HT0:=Lib.hid (has_none ⟨x.name.toArray⟩ hq.1 (by rw [Lib.size_eq];show x.name.length≤_;have:=HLN.out.df x (List.mem_of_getElem? hx);unfold DfLen at this;omega));have HT1:=Lib.hid (has_none ⟨x.text.toArray⟩ hq.2.1 (by rw [Lib.size_eq];show x.text.length≤_;have:=HLN.out.df x (List.mem_of_getElem? hx);unfold DfLen at this;omega));have HT2:=Lib.hid (has_none ⟨x.url.toArray⟩ hq.2.2.1 (by rw [Lib.size_eq];show x.url.length≤_;have:=HLN.out.df x (List.mem_of_getElem? hx);unfold DfLen at this;omega));have HT3:=Lib.hid (has_none ⟨x.title.toArray⟩ hq.2.2.2 (by rw [Lib.size_eq];show x.title.length≤_;have:=HLN.out.df x (List.mem_of_getElem? hx);unfold DfLen at this;omega));clear hq hx;go_upto_region 34 with (fail)
             have HBB:=Lib.hid (HBQ.out.alloc HBQ.out.size (.cells #[.string ⟨x.name.toArray⟩,.string ⟨x.url.toArray⟩,.string ⟨x.title.toArray⟩,.string ⟨x.text.toArray⟩,.bool x.note] 42));have hkB:=heap_alloc_new W3 (.cells #[.string ⟨x.name.toArray⟩,.string ⟨x.url.toArray⟩,.string ⟨x.title.toArray⟩,.string ⟨x.text.toArray⟩,.bool x.note] 42);generalize W3.alloc (.cells #[.string ⟨x.name.toArray⟩,.string ⟨x.url.toArray⟩,.string ⟨x.title.toArray⟩,.string ⟨x.text.toArray⟩,.bool x.note] 42)=WB at HBB hkB⊢;obtain ⟨bb,hbb⟩:∃n,W3.heap.size=n:=⟨_,rfl⟩
             rw [hbb]at hkB⊢;have k0:WB.cell? ⟨bb,0,none⟩=some (.string ⟨x.name.toArray⟩):=(by rw [cell_of_row WB bb _ _ _ _ hkB];rfl);have k1:WB.cell? ⟨bb,3,none⟩=some (.string ⟨x.text.toArray⟩):=(by rw [cell_of_row WB bb _ _ _ _ hkB];rfl);have k2:WB.cell? ⟨bb,1,none⟩=some (.string ⟨x.url.toArray⟩):=(by rw [cell_of_row WB bb _ _ _ _ hkB];rfl);have k3:WB.cell? ⟨bb,2,none⟩=some (.string ⟨x.title.toArray⟩):=(by rw [cell_of_row WB bb _ _ _ _ hkB];rfl);clear p0 p1 p2 p3 p4 hkB hbb;go_wp2_with fail;refine (HT0.out _).mono ?_;rintro e w' ⟨rfl,hw'⟩;obtain rfl:=hw'.symm;go_wp2_with fail;refine (HT1.out _).mono ?_;rintro e w' ⟨rfl,hw'⟩;obtain rfl:=hw'.symm;go_wp2_with fail;refine (HT2.out _).mono ?_;rintro e w' ⟨rfl,hw'⟩;obtain rfl:=hw'.symm;go_wp2_with fail;refine (HT3.out _).mono ?_;rintro e w' ⟨rfl,hw'⟩;obtain rfl:=hw'.symm;go_wp2_with fail;go_roundw;case rel=>exact ⟨j+1,by go_num,by omega,HBB.out⟩
             case measure=>simp [intOf];omega
            ·obtain rfl:j=nd:=(by omega);have HKA:=Lib.hid ((HBQ.out.block vb (Array.getElem?_eq_some_iff.1 HKA.out).1).trans HKA.out);have HVA:=Lib.hid (HVA.out.below HBQ.out);have HBA:=Lib.hid (below_step HBA.out HBQ.out);clear HBQ hlt hj Hnd;obtain ⟨ng,hnn⟩:∃n,st.diags.length=n:=⟨_,rfl⟩
             have Hng:=Lib.hid hnn;have hnc:ng≤1000000000000:=(by rw [←hnn];have:=HCT.out;omega);have kk:W3.cell? ⟨vb,3,none⟩=some (.slice o3 ng c3):=(by rw [cell_of_row W3 vb _ _ _ _ HKA.out,hnn];rfl);clear hnn;go_wp2_with fail;clear kk;go_loopw [164] (fun ui wr=>∃j:Nat,ui=.int .i64 (j:Int)∧j≤ng∧Below W3.heap.size W3 wr) (fun ui _=>ng - (intOf ui).toNat)
             case atStart=>exact ⟨0,by go_num,Nat.zero_le _,Below.refl _ _⟩
             case round=>
              rename World=>W4
              obtain ⟨j,rfl,hj,hbq⟩:=hrel;have HBQ:=Lib.hid hbq;clear hbq;by_cases hlt:j<ng
              ·have hji:(j:Int)<(ng:Int):=(by omega);obtain ⟨x,hx⟩:∃x,st.diags[j]? =some x:=⟨_,List.getElem?_eq_getElem (by rw [Hng.out];exact hlt)⟩
               obtain ⟨g0,i0,rfl⟩:=RowR.addr HVA.out.dg (by rw [Hng.out];omega);obtain ⟨p0,p1⟩:=RowR.dgn (HVA.out.below HBQ.out).dg j x hx;have hq:=HQ.out.dg x (List.mem_of_getElem? hx);have HT0:=Lib.hid (has_none ⟨x.text.toArray⟩ hq (by rw [Lib.size_eq];show x.text.length≤_;have:=HLN.out.dg x (List.mem_of_getElem? hx);omega));clear hq hx;go_upto_region 40 with (fail)
               have HBB:=Lib.hid (HBQ.out.alloc HBQ.out.size (.cells #[.int .i64 (x.kind:Int),.string ⟨x.text.toArray⟩] 44));have hkB:=heap_alloc_new W4 (.cells #[.int .i64 (x.kind:Int),.string ⟨x.text.toArray⟩] 44);generalize W4.alloc (.cells #[.int .i64 (x.kind:Int),.string ⟨x.text.toArray⟩] 44)=WB at HBB hkB⊢;obtain ⟨bb,hbb⟩:∃n,W4.heap.size=n:=⟨_,rfl⟩
               rw [hbb]at hkB⊢;have k0:WB.cell? ⟨bb,1,none⟩=some (.string ⟨x.text.toArray⟩):=(by rw [cell_of_row WB bb _ _ _ _ hkB];rfl);clear p0 p1 hkB hbb;go_wp2_with fail;refine (HT0.out _).mono ?_;rintro e w' ⟨rfl,hw'⟩;obtain rfl:=hw'.symm;go_wp2_with fail;go_roundw;case rel=>exact ⟨j+1,by go_num,by omega,HBB.out⟩
               case measure=>simp [intOf];omega
              ·obtain rfl:j=ng:=(by omega);have HKA:=Lib.hid ((HBQ.out.block vb (Array.getElem?_eq_some_iff.1 HKA.out).1).trans HKA.out);have HVA:=Lib.hid (HVA.out.below HBQ.out);have HBA:=Lib.hid (below_step HBA.out HBQ.out);clear HBQ hlt hj Hng;go_wp2_with fail;go_ret;exact ⟨rfl,HBA.out⟩
   ·clear HSN0;go_wp2_with fail;go_ret;exact ⟨rfl,HB3.out⟩
end Go.Proofs.YtkphljggkajlkaaGreatDoor
