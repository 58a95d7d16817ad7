/-
  LawVAtoms: a part of the proof.
-/
import Derived.Test.YtoccgnleiekomaaGreatDoorVwBZ
import Derived.Test.YtoccgnleiekomaaGreatDoorVwBZe
import Derived.Test.YtoccgnleiekomaaGreatDoorVwBZf
import Derived.Test.YtoccgnleiekomaaGreatDoorVwBO
namespace Go.Proofs.YtoccgnleiekomaaGreatDoor
open Go.RowKit
set_option maxRecDepth 100000
set_option linter.unusedVariables false
set_option linter.unusedSimpArgs false
theorem and_lab (a:Int):bits .and .i64 a 3=(labN a:Int):=by
 have:=labN_lt a;show IntKind.i64.wrap ((labN a:Nat):Int)=_;exact wrap_small _ (by omega) (by omega)
def labsTo (P:Nat→Int) (n:Nat):List Nat:=(List.range n).map fun i=>labN (P i)
theorem labsTo_succ (P:Nat→Int) (n:Nat):labsTo P (n+1)=labsTo P n++[labN (P n)]:=by simp [labsTo,List.range_succ]
theorem labsTo_len (P:Nat→Int) (n:Nat):(labsTo P n).length=n:=by simp [labsTo]
theorem labsTo_at (P:Nat→Int) {n i:Nat} (h:i<n):(labsTo P n)[i]? =some (labN (P i)):=by simp [labsTo,h]
theorem labsTo_take (P:Nat→Int) {n i:Nat} (h:i≤n):(labsTo P n).take i=labsTo P i:=by
 unfold labsTo;rw [←List.map_take,List.take_range,Nat.min_eq_left h]
theorem labOf_some {x:Nat} (h:x<4):diaNames[x]? =some (labOf x):=by
 have:x=0∨x=1∨x=2∨x=3:=(by omega);rcases this with rfl|rfl|rfl|rfl<;>rfl
theorem one_lit2 (W:World) (c:UInt8) (v:Int) (h:(c.toNat:Int)=v) (g:Nat) (hg:g=W.heap.size):
  (convert 39 9 (.slice (some ⟨g,0,none⟩) 1 1)).run Tryz.prog (W.alloc (.cells #[.int .u8 v] 5))=.ok (.string ⟨#[c]⟩) (W.alloc (.cells #[.int .u8 v] 5)):=by
 rw [←h];exact one_byte W c g hg
theorem cell_keep {w w':World} {p:Addr} {v:Value} (hb:Below w.heap.size w w') (h:w.cell? p=some v):w'.cell? p=some v:=(hb.cell (World.block_lt_of_cell? _ _ h)).trans h
def wantL (K:Nat) (xs:List Nat):List (List UInt8):=(resA (diaSeer K) 0 xs).map (·.text)
theorem wantL_snoc (K:Nat) (P:Nat→Int) (i:Nat):wantL K (labsTo P (i+1))=wantL K (labsTo P i)++if (diaSeer K).see1 (labOf (labN (P i)))=true then [atomText1 i]else []:=by
 unfold wantL;rw [labsTo_succ,resA_snoc,labsTo_len,Nat.zero_add,List.map_append];split<;>rfl
theorem wantL_len (K:Nat) (xs:List Nat):(wantL K xs).length=(resA (diaSeer K) 0 xs).length:=List.length_map ..
theorem wantL_le (K:Nat) (P:Nat→Int) (i:Nat):(wantL K (labsTo P i)).length≤i:=by
 rw [wantL_len];have:=resA_le (diaSeer K) (labsTo P i) 0
 rwa [labsTo_len]at this
theorem labs_ok (P:Nat→Int) (n K:Nat):∀x∈labsTo P n,x<4∧(diaSeer K).unk (labOf x)=false:=by
 intro x hx;obtain ⟨i,_,rfl⟩:=List.mem_map.1 hx;exact ⟨labN_lt _,dia_known (labOf_some (labN_lt _)) K⟩
theorem resA_txt (z:SeerL):∀(xs:List Nat) (i:Nat),∀a∈resA z i xs,a.text.length≤1000000
 |[],i,a,h=>by cases h
 |x::xs,i,a,h=>by
  rw [resA]at h;split at h
  ·rcases List.mem_cons.1 h with rfl|h
   ·show (atomText1 i).length≤_;simp [atomText1]
   ·exact resA_txt z xs (i+1) a h
  ·exact resA_txt z xs (i+1) a h
theorem textV_len:∀n:Fin 12,(textV n.val).length≤10:=by decide+kernel
theorem atoms_at {st:VwSt} {K i j:Nat} {P:Nat→Int} (h:st.blocks=(resT (diaSeer K) 0 0 (labsTo P i)).map paraOf∧st.atoms=resA (diaSeer K) 0 (labsTo P i)) (hj:j<i):
  ((diaSeer K).see1 (labOf (labN (P j)))=false→st.blocks[j]? =some (paraOf hidT))∧
  ((diaSeer K).see1 (labOf (labN (P j)))=true→st.blocks[j]? =some (paraOf (textV (wantL K (labsTo P j)).length))∧st.atoms[(wantL K (labsTo P j)).length]? =some ⟨labOf (labN (P j)),atomText1 j⟩∧(wantL K (labsTo P i))[(wantL K (labsTo P j)).length]? =some (atomText1 j)):=by
 have h1:=resT_at (diaSeer K) (labsTo P i) 0 0 j _ (labsTo_at P hj);rw [labsTo_take P (by omega),Nat.zero_add,←wantL_len]at h1;refine ⟨fun hs=>?_,fun hs=>?_⟩
 ·rw [h.1,List.getElem?_map,h1,hs];rfl
 ·have h2:=resA_at (diaSeer K) (labsTo P i) 0 j _ (labsTo_at P hj) hs;rw [labsTo_take P (by omega),Nat.zero_add,←wantL_len]at h2;refine ⟨?_,by rw [h.2,h2],?_⟩
  ·rw [h.1,List.getElem?_map,h1,hs];rfl
  ·rw [show wantL K (labsTo P i)=(resA (diaSeer K) 0 (labsTo P i)).map (·.text)from rfl,List.getElem?_map,h2];rfl
set_option maxHeartbeats 8000000 in
theorem law_vatoms (k:Int) (a:Option Addr) (len cap:Nat) (w:World) (_wk:(Lit.int .i64 k).wf=true) (P:Nat→Int) (hP:IsRow1 (Value.int .i64) w a len P) (hE:EnvI w):
  Calls Tryz.prog 9 #[.int .i64 k,.slice a len cap] w fun e w'=>e=.returned (.bool true)∧Below w.heap.size w w':=by
 by_cases h12:(12:Int)<(len:Int)
 ·go_enter Tryz.func9,Tryz.ntmps9
  go_wp2_with fail;refine (alive23_any _ hE).mono ?_;rintro e w1 ⟨rfl,b1⟩;go_wp2_with fail;go_ret;exact ⟨rfl,b1⟩
 ·obtain ⟨is,hsi,hs0,hs1,hs2⟩:=info_parts infoStr;have HE:=Lib.hid hE;have HPP:=Lib.hid hP;clear hE hP;go_enter Tryz.func9,Tryz.ntmps9
  go_wp2_with fail;refine (alive23_any _ HE.out).mono ?_;rintro e w1 ⟨rfl,b1⟩;go_wp2_with fail;refine (see_any k _).mono ?_;rintro e w2 ⟨sb,v,K,rfl,hse,b2⟩;have HB2:=Lib.hid (below_step b1 b2);have HSE:=Lib.hid hse;clear b1 b2 hse;have hl12:len≤12:=(by omega);go_wp2_with fail;go_loopw [7,8,35] (fun u7 u8 u35 wr=>∃(i:Nat) (D:ByteArray),u7=.string D∧u35=.int .i64 (i:Int)∧i≤len∧Hid (D.data.toList=atomsDoc (labsTo P i))∧D.size≤30*i∧StrOwn w2.heap.size wr u8 (wantL K (labsTo P i))∧Below w2.heap.size w2 wr) (fun _ _ u35 _=>len - (intOf u35).toNat)
  case atStart=>exact ⟨0,⟨#[]⟩,rfl,by go_num,Nat.zero_le _,Lib.hid rfl,Nat.zero_le _,World.ownsRow_nil _ _ _ _,Below.refl _ _⟩
  case round=>
   obtain ⟨i,D,rfl,rfl,hi,HD,hDz,hown,hbw⟩:=hrel;have HBW:=Lib.hid hbw;have HO:=Lib.hid hown;have hwl:=wantL_le K P i;obtain ⟨vao,vc,hv,_,_,_⟩:=own_slice hown;subst hv;obtain ⟨l,hl⟩:∃l,wantL K (labsTo P i)=l:=⟨_,rfl⟩
   rw [hl]at HO hwl⊢;have HL:=Lib.hid hl;clear hbw hown hl;by_cases hlt:i<len
   ·have hii:(i:Int)<(len:Int):=(by omega);obtain ⟨pb,po,ha,_,hcell,_⟩:=(HPP.out.below (below_step HB2.out HBW.out) (Nat.le_refl _))
    have ha2:=ha (by omega);subst ha2;have cx:=hcell i hlt;obtain ⟨X,hX⟩:∃X,labN (P i)=X:=⟨_,rfl⟩
    have hX4:X<4:=(by rw [←hX];exact labN_lt _);have hand:=and_lab (P i);rw [hX]at hand;have hx:=labOf_some hX4;obtain ⟨L,hL⟩:∃L:ByteArray,(⟨(labOf X).toArray⟩:ByteArray)=L:=⟨_,rfl⟩
    have hLl:L.data.toList=labOf X:=(by rw [←hL]);have hLs:L.size≤5:=(by rw [Lib.size_eq,hLl];exact (dia_letters hx).2.2);have cJ:=dia_cell wr hx;rw [hL]at cJ;have hXi:(X:Int)<4:=(by omega);have hXn:(0:Int)≤(X:Int):=(by omega);have hbA:=(Below.refl wr.heap.size wr).alloc (Nat.le_refl _) (.cells #[.string ⟨#[108,111,119]⟩,.string ⟨#[108,101,102,116]⟩,.string ⟨#[114,105,103,104,116]⟩,.string ⟨#[104,105,103,104]⟩] 9);have HLX:=Lib.hid (And.intro hL (And.intro hLl hX));have HBA:=Lib.hid hbA;clear hx hL hLl hX hbA ha hcell;go_upto_region 12 with (fail)
    clear cx cJ hand;obtain ⟨WA,hWA⟩:∃W,wr.alloc (.cells #[.string ⟨#[108,111,119]⟩,.string ⟨#[108,101,102,116]⟩,.string ⟨#[114,105,103,104,116]⟩,.string ⟨#[104,105,103,104]⟩] 9)=W:=⟨_,rfl⟩
    rw [hWA]at HBA⊢;clear hWA;have hi12:i<12:=(by omega);obtain ⟨c,hc⟩:∃c,UInt8.ofNat (97+i)=c:=⟨_,rfl⟩
    have hcn:(c.toNat:Int)=97+(i:Int):=by
     rw [←hc,UInt8.toNat_ofNat_of_lt' (by show 97+i<256;omega)];omega
    have cvq:=one_lit2 WA c (97+(i:Int)) hcn WA.heap.size rfl;obtain ⟨T,hT⟩:∃T:ByteArray,(⟨#[116]⟩:ByteArray)++(⟨#[c]⟩:ByteArray)=T:=⟨_,rfl⟩
    have hTl:T.data.toList=atomText1 i:=by
     rw [←hT,ByteArray.data_append,Array.toList_append];unfold atomText1;rw [hc];rfl
    have hTs:T.size=2:=(by rw [←hT,ByteArray.size_append];rfl);have HCN:=Lib.hid (And.intro hc hTl);have HBB:=Lib.hid (HBA.out.trans (((Below.refl WA.heap.size WA).alloc (Nat.le_refl _) (.cells #[.int .u8 (97+(i:Int))] 5)).mono HBA.out.size));clear hc hTl hcn;go_upto_region 13 with (fail)
    obtain ⟨WB,hWB⟩:∃W,WA.alloc (.cells #[.int .u8 (97+(i:Int))] 5)=W:=⟨_,rfl⟩
    rw [hWB]at HBB⊢;clear hWB cvq hT HBA;have hDn:∀E:ByteArray,(⟨#[112,32,123,124]⟩:ByteArray)++L++(⟨#[58]⟩:ByteArray)++T++(⟨#[124,125,32,113,10,10]⟩:ByteArray)=E→(D++E).data.toList=atomsDoc (labsTo P (i+1))∧(D++E).size≤30*(i+1)∧E.size≤30:=by
     rintro E rfl;refine ⟨?_,?_,?_⟩
     ·rw [labsTo_succ,doc_snoc,labsTo_len,←HD.out,HLX.out.2.2];simp only [ByteArray.data_append,Array.toList_append,HLX.out.2.1,HCN.out.2];simp [atomLine]
     ·simp only [ByteArray.size_append,hTs,show (⟨#[112,32,123,124]⟩:ByteArray).size=4 from rfl,show (⟨#[58]⟩:ByteArray).size=1 from rfl,show (⟨#[124,125,32,113,10,10]⟩:ByteArray).size=6 from rfl];omega
     ·simp only [ByteArray.size_append,hTs,show (⟨#[112,32,123,124]⟩:ByteArray).size=4 from rfl,show (⟨#[58]⟩:ByteArray).size=1 from rfl,show (⟨#[124,125,32,113,10,10]⟩:ByteArray).size=6 from rfl];omega
    have HDN:=Lib.hid hDn;have z1:((⟨#[112,32,123,124]⟩:ByteArray)++L).size=4+L.size:=(by rw [ByteArray.size_append];rfl);have z2:((⟨#[112,32,123,124]⟩:ByteArray)++L++(⟨#[58]⟩:ByteArray)).size=5+L.size:=(by rw [ByteArray.size_append,z1,show (⟨#[58]⟩:ByteArray).size=1 from rfl];omega);have z3:((⟨#[112,32,123,124]⟩:ByteArray)++L++(⟨#[58]⟩:ByteArray)++T).size=7+L.size:=(by rw [ByteArray.size_append,z2,hTs];omega);clear hDn;go_upto_region 14 with (fail)
    obtain ⟨E,hE'⟩:∃E:ByteArray,(⟨#[112,32,123,124]⟩:ByteArray)++L++(⟨#[58]⟩:ByteArray)++T++(⟨#[124,125,32,113,10,10]⟩:ByteArray)=E:=⟨_,rfl⟩
    have HDN2:=Lib.hid (HDN.out E hE');rw [hE'];clear hE' z1 z2 z3 HDN;have HSB:=Lib.hid (HSE.out.below (HBW.out.trans (HBB.out.mono HBW.out.size)));have hs:=sees_str HSB.out (labOf X);rw [HLX.out.1]at hs;have HSS:=Lib.hid hs;clear hs;go_wp2_with fail;refine HSS.out.mono ?_;rintro e w5 ⟨rfl,hb5⟩;have HB5:=Lib.hid (HBB.out.trans (hb5.mono HBB.out.size));have HO5:=Lib.hid (own_below HO.out HB5.out);have HW5:=Lib.hid (HBW.out.trans (HB5.out.mono HBW.out.size));have hws:=wantL_snoc K P i;rw [HL.out,HLX.out.2.2]at hws;have HWS:=Lib.hid hws;clear hb5 hws HO HBB HB5 HSB;obtain ⟨see,hsee⟩:∃b,(diaSeer K).see1 (labOf X)=b:=⟨_,rfl⟩
    rw [hsee]at HWS⊢;clear hsee;cases see
    ·have HWE:=Lib.hid (show wantL K (labsTo P (i+1))=l by have:=HWS.out;simpa using this);go_wp2_with fail;go_roundw;case rel=>exact ⟨i+1,_,rfl,by go_num,by omega,Lib.hid HDN2.out.1,HDN2.out.2.1,by rw [HWE.out];exact HO5.out,HW5.out⟩
     case measure=>simp [intOf];omega
    ·have HWE:=Lib.hid (show wantL K (labsTo P (i+1))=l++[atomText1 i] by have:=HWS.out;simpa using this)
     go_wp2_with (first
      |(at_builtin;refine wpList_append_own _ rfl _ _ 27 rfl w2.heap.size 9 is (.string ⟨#[]⟩) 1 16 Tryz.underlying27 hsi hs0 hs1 hs2 rfl (by decide) _ _ _ rfl (World.ownsRow.alloc HO5.out _) ⟨w5.heap.size,0,none⟩ 1 1 [.string T] rfl rfl ?d1 ?d2 ?d3 ?d4 ?d5 ?_))
     case d1=>exact cells_new _ _ _ _ rfl
     case d2=>intro u hu;simp at hu;rcases hu with rfl;rfl
     case d3=>unfold maxLen;omega
     case d4=>omega
     case d5=>have:=HW5.out.size;simp;omega
     intro v4 w4 hown4 hgrow4 _;have hg1:=(World.grownBy_alloc w5 (.cells #[.string T] 9) (Value.slice vao l.length vc).ownBlock).trans hgrow4;have hB4:=HW5.out.grown hg1 HW5.out.size (fun j hj=>(World.ownsRow.lt HO5.out j hj).1);have HO4:=Lib.hid (StrOwn.snoc hown4 HCN.out.2);have HB4:=Lib.hid hB4;clear hown4 hgrow4 hg1 hB4;go_wp2_with fail;go_roundw;case rel=>exact ⟨i+1,_,rfl,by go_num,by omega,Lib.hid HDN2.out.1,HDN2.out.2.1,by rw [HWE.out];exact HO4.out,HB4.out⟩
     case measure=>simp [intOf];omega
   ·obtain rfl:i=len:=(by omega);have HSE2:=Lib.hid (HSE.out.below HBW.out);have HB3:=Lib.hid (below_step HB2.out HBW.out);obtain ⟨st,hst⟩:∃st,buildL (diaSeer K) D.data.toList=st:=⟨_,rfl⟩
    have hlaw:=atoms_law (diaSeer K) (labsTo P i) (by rw [labsTo_len];omega) (labs_ok P i K);rw [←HD.out,hst]at hlaw;have hds:D.size≤6000:=(by omega);have HV:=Lib.hid (view_any HSE2.out (HE.out.below HB3.out) D hds _ hst);have lB:st.blocks.length=i:=(by rw [hlaw.1,List.length_map,resT_len,labsTo_len]);have lA:st.atoms.length=l.length:=(by rw [hlaw.2,←wantL_len,HL.out]);have HLW:=Lib.hid hlaw;have HLN:=Lib.hid (And.intro lB lA);have HB0:=Lib.hid (Below.refl wr.heap.size wr);clear hst hlaw HD hDz hds lB lA;go_wp2_with fail;refine (HV.out).mono ?_;rintro e w3 ⟨o0,o1,o2,o3,c0,c1,c2,c3,rfl,hv,hb3⟩;have hse3:=(HSE2.out).below hb3;have hbA:=(Below.refl w3.heap.size w3).alloc (Nat.le_refl _) (.cells #[.slice o0 st.blocks.length c0,.slice o1 st.atoms.length c1,.slice o2 st.defs.length c2,.slice o3 st.diags.length c3] 33);have hvA:=hv.below hbA;have hseA:=hse3.below hbA;have hkA:=heap_alloc_new w3 (.cells #[.slice o0 st.blocks.length c0,.slice o1 st.atoms.length c1,.slice o2 st.defs.length c2,.slice o3 st.diags.length c3] 33);have HBA:=Lib.hid ((below_step HB0.out hb3).trans (hbA.mono (below_step HB0.out hb3).size));go_upto_region 18 with (fail)
    try simp only [List.length_cons,List.length_nil,List.length_replicate,Nat.zero_add,Nat.reduceAdd]
    generalize w3.alloc (.cells #[.slice o0 st.blocks.length c0,.slice o1 st.atoms.length c1,.slice o2 st.defs.length c2,.slice o3 st.diags.length c3] 33)=WA at hvA hseA hkA HBA⊢;obtain ⟨vb,hvb⟩:∃n,w3.heap.size=n:=⟨_,rfl⟩
    rw [hvb]at hkA⊢;have HKA:=Lib.hid hkA;have HVA:=Lib.hid hvA;have HSA:=Lib.hid hseA;clear hv hb3 hse3 hbA hvA hseA hkA hvb;have k0:WA.cell? ⟨vb,0,none⟩=some (.slice o0 i c0):=(by rw [cell_of_row WA vb _ _ _ _ HKA.out,HLN.out.1];rfl);have k1:WA.cell? ⟨vb,1,none⟩=some (.slice o1 l.length c1):=(by rw [cell_of_row WA vb _ _ _ _ HKA.out,HLN.out.2];rfl);have HK1:=Lib.hid (And.intro k0 k1);go_wp2_with fail;clear k0 k1;go_loopw [14,87] (fun u14 u87 wq=>∃j:Nat,u14=.int .i64 ((wantL K (labsTo P j)).length:Int)∧u87=.int .i64 (j:Int)∧j≤i∧Below WA.heap.size WA wq) (fun _ u87 _=>i - (intOf u87).toNat)
    case atStart=>exact ⟨0,rfl,by go_num,Nat.zero_le _,Below.refl _ _⟩
    case round=>
     rename World=>wq
     obtain ⟨j,rfl,rfl,hj,hbq⟩:=hrel;have HBQ:=Lib.hid hbq;have hnl:=wantL_le K P j;obtain ⟨n,hn⟩:∃n,(wantL K (labsTo P j)).length=n:=⟨_,rfl⟩
     rw [hn]at hnl⊢;have HN:=Lib.hid hn;clear hbq hn;by_cases hlt:j<i
     ·have hii:(j:Int)<(i:Int):=(by omega);obtain ⟨pb,po,ha,_,hcell,_⟩:=(HPP.out.below (below_step (below_step HB3.out HBA.out) HBQ.out) (Nat.le_refl _))
      have ha2:=ha (by omega);subst ha2;have cx:=hcell j hlt;have hat:=atoms_at HLW.out hlt;rw [HN.out,HL.out]at hat;have hws:=wantL_snoc K P j;obtain ⟨X,hX⟩:∃X,labN (P j)=X:=⟨_,rfl⟩
      have hX4:X<4:=(by rw [←hX];exact labN_lt _);have hand:=and_lab (P j);rw [hX]at hand hat hws;have hx:=labOf_some hX4;obtain ⟨L,hL⟩:∃L:ByteArray,(⟨(labOf X).toArray⟩:ByteArray)=L:=⟨_,rfl⟩
      have cJ:=dia_cell wq hx;rw [hL]at cJ;have hXi:(X:Int)<4:=(by omega);have hXn:(0:Int)≤(X:Int):=(by omega);have HBC:=Lib.hid (HBQ.out.alloc HBQ.out.size (.cells #[.string ⟨#[108,111,119]⟩,.string ⟨#[108,101,102,116]⟩,.string ⟨#[114,105,103,104,116]⟩,.string ⟨#[104,105,103,104]⟩] 9));have HLX:=Lib.hid hL;have HAT:=Lib.hid hat;have HWS:=Lib.hid hws;clear hx hL hX ha hcell hat hws;go_upto_region 25 with (fail)
      clear cx cJ hand;obtain ⟨WC,hWC⟩:∃W,wq.alloc (.cells #[.string ⟨#[108,111,119]⟩,.string ⟨#[108,101,102,116]⟩,.string ⟨#[114,105,103,104,116]⟩,.string ⟨#[104,105,103,104]⟩] 9)=W:=⟨_,rfl⟩
      rw [hWC]at HBC⊢;have hs:=sees_str (HSA.out.below HBC.out) (labOf X);rw [HLX.out]at hs;have HSS:=Lib.hid hs;clear hWC hs;go_wp2_with fail;refine HSS.out.mono ?_;rintro e w5 ⟨rfl,hb5⟩;have HB5:=Lib.hid (HBC.out.trans (hb5.mono HBC.out.size));clear hb5 HBC;obtain ⟨see,hsee⟩:∃b,(diaSeer K).see1 (labOf X)=b:=⟨_,rfl⟩
      rw [hsee]at HWS HAT⊢;clear hsee;have hb0:=HVA.out.bl;obtain ⟨g0,i0,rfl⟩:=RowR.addr hb0 (by rw [HLN.out.1];omega);clear hb0;cases see
      ·have HWE:=Lib.hid (show (wantL K (labsTo P (j+1))).length=n by have:=HWS.out;rw [this,if_neg (by decide),List.append_nil];exact HN.out);obtain ⟨_,_,_,_,p4,_⟩:=RowR.blk (HVA.out.below HB5.out).bl j _ (HAT.out.1 rfl);have p4b:w5.cell? ⟨g0,i0+j*6+4,none⟩=some (.string ⟨#[112,32,32,113]⟩):=p4;have k0:=(HB5.out.cell (p:=⟨vb,0,none⟩) (Array.getElem?_eq_some_iff.1 HKA.out).1).trans HK1.out.1;clear p4;go_wp2_with fail;go_roundw;case rel=>exact ⟨j+1,by rw [HWE.out],by go_num,by omega,HB5.out⟩
       case measure=>simp [intOf];omega
      ·have HWE:=Lib.hid (show (wantL K (labsTo P (j+1))).length=n+1 by have:=HWS.out;rw [this,if_pos rfl,List.length_append,HN.out];rfl);have ha0:=HVA.out.at';obtain ⟨hB,hA,hW⟩:=HAT.out.2 rfl;have hnl2:n<l.length:=(List.getElem?_eq_some_iff.1 hW).1;have hni:(n:Int)<(l.length:Int):=(by omega);obtain ⟨g1,i1,rfl⟩:=RowR.addr ha0 (by rw [HLN.out.2];omega);obtain ⟨gw,ow,rfl⟩:=StrR.addr (StrOwn.r HO.out).1 (by omega);have HB6:=Lib.hid (HB5.out.trans ((Below.refl w5.heap.size w5).drew.mono HB5.out.size));have hv6:=HVA.out.below HB6.out;obtain ⟨_,_,_,_,p4,_⟩:=RowR.blk hv6.bl j _ hB;obtain ⟨q0,q1⟩:=RowR.atm hv6.at' n _ hA;have r0:=(StrOwn.r (own_below HO.out (HBA.out.trans (HB6.out.mono HBA.out.size)))).1.at' n _ hW;obtain ⟨T,hT⟩:∃T:ByteArray,(⟨(atomText1 j).toArray⟩:ByteArray)=T:=⟨_,rfl⟩
       obtain ⟨TV,hTV⟩:∃T:ByteArray,(⟨(textV n).toArray⟩:ByteArray)=T:=⟨_,rfl⟩
       have k0:=(HB6.out.cell (p:=⟨vb,0,none⟩) (Array.getElem?_eq_some_iff.1 HKA.out).1).trans HK1.out.1;have k1:=(HB6.out.cell (p:=⟨vb,1,none⟩) (Array.getElem?_eq_some_iff.1 HKA.out).1).trans HK1.out.2;have hTs:T.size=2:=(by rw [←hT];rfl);have HTX:=Lib.hid (And.intro hT hTV);have HF:Hid (w5.drew.cell? ⟨vb,0,none⟩=some (.slice (some ⟨g0,i0,none⟩) i c0)∧w5.drew.cell? ⟨vb,1,none⟩=some (.slice (some ⟨g1,i1,none⟩) l.length c1)∧w5.drew.cell? ⟨g1,i1+n*2,none⟩=some (.string L)∧w5.drew.cell? ⟨g1,i1+n*2+1,none⟩=some (.string T)∧w5.drew.cell? ⟨gw,ow+n,none⟩=some (.string T)∧w5.drew.cell? ⟨g0,i0+j*6+4,none⟩=some (.string TV)):=Lib.hid ⟨k0,k1,by rw [←HLX.out];exact q0,by rw [←hT];exact q1,by rw [←hT];exact r0,by rw [←hTV];exact p4⟩;clear k0 k1 q0 q1 r0 p4 hv6 ha0 hT hTV;have bT:=beq_self_bytes T;have bL:=beq_self_bytes L;have bY:=beq_self_bytes ((⟨#[112,32]⟩:ByteArray)++T++(⟨#[32,113]⟩:ByteArray));have hr:=vrestore_any TV (some ⟨g1,i1,none⟩) c1 st.atoms w5.drew ((HE.out.below (below_step (below_step HB3.out HBA.out) HB6.out))).env (fun _=>(HVA.out.below HB6.out).at') (by rw [←HTX.out.2];have:=textV_len ⟨n,by omega⟩;show (textV n).length≤_;simp only at this;omega) (by intro x hx;rw [HLW.out.2]at hx;exact resA_txt _ _ _ x hx);have hYe:(⟨(restoreL TV.data.toList st.atoms).toArray⟩:ByteArray)=(⟨#[112,32]⟩:ByteArray)++T++(⟨#[32,113]⟩:ByteArray):=by
        have h1:TV.data.toList=textV n:=(by rw [←HTX.out.2]);have h2:atomText st.atoms n=atomText1 j:=(by unfold atomText;rw [hA]);rw [h1,restore_text _ n (by omega),h2,←HTX.out.1];apply ByteArray.ext;apply Array.ext';simp only [ByteArray.data_append,Array.toList_append];simp
       rw [hYe,HLN.out.2]at hr;have HR:=Lib.hid hr;clear hr hYe hB hA hW hnl2;go_upto_region 28 with (fail)
       refine wp_region_I (S:=fun q W'=>((List.range 39).contains q=true)→(W'.cell? ⟨vb,0,none⟩=some (.slice (some ⟨g0,i0,none⟩) i c0)∧W'.cell? ⟨vb,1,none⟩=some (.slice (some ⟨g1,i1,none⟩) l.length c1)∧W'.cell? ⟨g1,i1+n*2,none⟩=some (.string L)∧W'.cell? ⟨g1,i1+n*2+1,none⟩=some (.string T)∧W'.cell? ⟨gw,ow+n,none⟩=some (.string T)∧W'.cell? ⟨g0,i0+j*6+4,none⟩=some (.string TV))) (by kernel_rfl) ?_;refine tkL 0 109 ?_ rfl (List.range 39) (by kernel_rfl) (fun _ _ _ h=>h) (by kernel_rfl) rfl (Or.inl ⟨by rfl,?_⟩) HF.out ?_;rotate_left
       ·rintro w' ⟨s0,s1,s2,s3,s4,s5⟩;go_simp<;>with_reducible rfl
       simp only [List.set];refine tkL 1 110 ?_ rfl (List.range 39) (by kernel_rfl) (fun _ _ _ h=>h) (by kernel_rfl) rfl (Or.inl ⟨by rfl,?_⟩) HF.out ?_;rotate_left
       ·rintro w' ⟨s0,s1,s2,s3,s4,s5⟩;go_simp<;>with_reducible rfl
       simp only [List.set];refine tkL 2 111 ?_ rfl (List.range 39) (by kernel_rfl) (fun _ _ _ h=>h) (by kernel_rfl) rfl (Or.inl ⟨by rfl,?_⟩) HF.out ?_;rotate_left
       ·rintro w' ⟨s0,s1,s2,s3,s4,s5⟩;go_simp<;>with_reducible rfl
       simp only [List.set];refine tkL 3 112 ?_ rfl (List.range 39) (by kernel_rfl) (fun _ _ _ h=>h) (by kernel_rfl) rfl (Or.inl ⟨by rfl,?_⟩) HF.out ?_;rotate_left
       ·rintro w' ⟨s0,s1,s2,s3,s4,s5⟩;go_simp<;>with_reducible rfl
       simp only [List.set];refine tkL 4 113 ?_ rfl (List.range 39) (by kernel_rfl) (fun _ _ _ h=>h) (by kernel_rfl) rfl (Or.inl ⟨by rfl,?_⟩) HF.out ?_;rotate_left
       ·rintro w' ⟨s0,s1,s2,s3,s4,s5⟩;go_simp<;>with_reducible rfl
       simp only [List.set];refine tkL 5 114 ?_ rfl (List.range 39) (by kernel_rfl) (fun _ _ _ h=>h) (by kernel_rfl) rfl (Or.inl ⟨by rfl,?_⟩) HF.out ?_;rotate_left
       ·rintro w' ⟨s0,s1,s2,s3,s4,s5⟩;go_simp<;>with_reducible rfl
       simp only [List.set];refine tkL 6 115 ?_ rfl (List.range 39) (by kernel_rfl) (fun _ _ _ h=>h) (by kernel_rfl) rfl (Or.inl ⟨by rfl,?_⟩) HF.out ?_;rotate_left
       ·rintro w' ⟨s0,s1,s2,s3,s4,s5⟩;go_simp<;>with_reducible rfl
       simp only [List.set];refine tkL 7 116 ?_ rfl (List.range 39) (by kernel_rfl) (fun _ _ _ h=>h) (by kernel_rfl) rfl (Or.inl ⟨by rfl,?_⟩) HF.out ?_;rotate_left
       ·rintro w' ⟨s0,s1,s2,s3,s4,s5⟩;go_simp<;>with_reducible rfl
       simp only [List.set];refine tkL 8 117 ?_ rfl (List.range 39) (by kernel_rfl) (fun _ _ _ h=>h) (by kernel_rfl) rfl (Or.inl ⟨by rfl,?_⟩) HF.out ?_;rotate_left
       ·rintro w' ⟨s0,s1,s2,s3,s4,s5⟩;go_simp<;>with_reducible rfl
       simp only [List.set];refine tkL 9 118 ?_ rfl (List.range 39) (by kernel_rfl) (fun _ _ _ h=>h) (by kernel_rfl) rfl (Or.inl ⟨by rfl,?_⟩) HF.out ?_;rotate_left
       ·rintro w' ⟨s0,s1,s2,s3,s4,s5⟩;go_simp<;>with_reducible rfl
       simp only [List.set];refine tkL 10 119 ?_ rfl (List.range 39) (by kernel_rfl) (fun _ _ _ h=>h) (by kernel_rfl) rfl (Or.inl ⟨by rfl,?_⟩) HF.out ?_;rotate_left
       ·rintro w' ⟨s0,s1,s2,s3,s4,s5⟩;go_simp<;>with_reducible rfl
       simp only [List.set];refine tkL 11 120 ?_ rfl (List.range 39) (by kernel_rfl) (fun _ _ _ h=>h) (by kernel_rfl) rfl (Or.inl ⟨by rfl,?_⟩) HF.out ?_;rotate_left
       ·rintro w' ⟨s0,s1,s2,s3,s4,s5⟩;go_simp<;>with_reducible rfl
       simp only [List.set];refine tkL 12 121 ?_ rfl (List.range 39) (by kernel_rfl) (fun _ _ _ h=>h) (by kernel_rfl) rfl (Or.inl ⟨by rfl,?_⟩) HF.out ?_;rotate_left
       ·rintro w' ⟨s0,s1,s2,s3,s4,s5⟩;go_simp<;>with_reducible rfl
       simp only [List.set];refine tkL 13 122 ?_ rfl (List.range 39) (by kernel_rfl) (fun _ _ _ h=>h) (by kernel_rfl) rfl (Or.inl ⟨by rfl,?_⟩) HF.out ?_;rotate_left
       ·rintro w' ⟨s0,s1,s2,s3,s4,s5⟩;go_simp<;>with_reducible rfl
       simp only [List.set];refine tkL 14 123 ?_ rfl (List.range 39) (by kernel_rfl) (fun _ _ _ h=>h) (by kernel_rfl) rfl (Or.inl ⟨by rfl,?_⟩) HF.out ?_;rotate_left
       ·rintro w' ⟨s0,s1,s2,s3,s4,s5⟩;go_simp<;>with_reducible rfl
       simp only [List.set];refine tkL 15 124 ?_ rfl (List.range 39) (by kernel_rfl) (fun _ _ _ h=>h) (by kernel_rfl) rfl (Or.inl ⟨by rfl,?_⟩) HF.out ?_;rotate_left
       ·rintro w' ⟨s0,s1,s2,s3,s4,s5⟩;go_simp<;>with_reducible rfl
       simp only [List.set];refine tkL 16 125 ?_ rfl (List.range 39) (by kernel_rfl) (fun _ _ _ h=>h) (by kernel_rfl) rfl (Or.inl ⟨by rfl,?_⟩) HF.out ?_;rotate_left
       ·rintro w' ⟨s0,s1,s2,s3,s4,s5⟩;go_simp<;>with_reducible rfl
       simp only [List.set];refine tkL 17 126 ?_ rfl (List.range 39) (by kernel_rfl) (fun _ _ _ h=>h) (by kernel_rfl) rfl (Or.inl ⟨by rfl,?_⟩) HF.out ?_;rotate_left
       ·rintro w' ⟨s0,s1,s2,s3,s4,s5⟩;go_simp<;>with_reducible rfl
       simp only [List.set];refine tkL 18 127 ?_ rfl (List.range 39) (by kernel_rfl) (fun _ _ _ h=>h) (by kernel_rfl) rfl (Or.inl ⟨by rfl,?_⟩) HF.out ?_;rotate_left
       ·rintro w' ⟨s0,s1,s2,s3,s4,s5⟩;go_simp<;>with_reducible rfl
       simp only [List.set];refine tkL 19 128 ?_ rfl (List.range 39) (by kernel_rfl) (fun _ _ _ h=>h) (by kernel_rfl) rfl (Or.inl ⟨by rfl,?_⟩) HF.out ?_;rotate_left
       ·rintro w' ⟨s0,s1,s2,s3,s4,s5⟩;go_simp<;>with_reducible rfl
       simp only [List.set];refine tkL 20 129 ?_ rfl (List.range 39) (by kernel_rfl) (fun _ _ _ h=>h) (by kernel_rfl) rfl (Or.inl ⟨by rfl,?_⟩) HF.out ?_;rotate_left
       ·rintro w' ⟨s0,s1,s2,s3,s4,s5⟩;go_simp<;>with_reducible rfl
       simp only [List.set];refine tkL 21 130 ?_ rfl (List.range 39) (by kernel_rfl) (fun _ _ _ h=>h) (by kernel_rfl) rfl (Or.inl ⟨by rfl,?_⟩) HF.out ?_;rotate_left
       ·rintro w' ⟨s0,s1,s2,s3,s4,s5⟩;go_simp<;>with_reducible rfl
       simp only [List.set];refine tkL 22 131 ?_ rfl (List.range 39) (by kernel_rfl) (fun _ _ _ h=>h) (by kernel_rfl) rfl (Or.inl ⟨by rfl,?_⟩) HF.out ?_;rotate_left
       ·rintro w' ⟨s0,s1,s2,s3,s4,s5⟩;go_simp<;>with_reducible rfl
       simp only [List.set];refine tkL 23 132 ?_ rfl (List.range 39) (by kernel_rfl) (fun _ _ _ h=>h) (by kernel_rfl) rfl (Or.inl ⟨by rfl,?_⟩) HF.out ?_;rotate_left
       ·rintro w' ⟨s0,s1,s2,s3,s4,s5⟩;go_simp<;>with_reducible rfl
       simp only [List.set];refine tkL 24 133 ?_ rfl (List.range 39) (by kernel_rfl) (fun _ _ _ h=>h) (by kernel_rfl) rfl (Or.inl ⟨by rfl,?_⟩) HF.out ?_;rotate_left
       ·rintro w' ⟨s0,s1,s2,s3,s4,s5⟩;go_simp<;>with_reducible rfl
       simp only [List.set];refine tkL 25 134 ?_ rfl (List.range 39) (by kernel_rfl) (fun _ _ _ h=>h) (by kernel_rfl) rfl (Or.inl ⟨by rfl,?_⟩) HF.out ?_;rotate_left
       ·rintro w' ⟨s0,s1,s2,s3,s4,s5⟩;go_simp<;>with_reducible rfl
       simp only [List.set];refine tkL 26 135 ?_ rfl (List.range 39) (by kernel_rfl) (fun _ _ _ h=>h) (by kernel_rfl) rfl (Or.inl ⟨by rfl,?_⟩) HF.out ?_;rotate_left
       ·rintro w' ⟨s0,s1,s2,s3,s4,s5⟩;go_simp<;>with_reducible rfl
       simp only [List.set];refine tkL 27 136 ?_ rfl (List.range 39) (by kernel_rfl) (fun _ _ _ h=>h) (by kernel_rfl) rfl (Or.inl ⟨by rfl,?_⟩) HF.out ?_;rotate_left
       ·rintro w' ⟨s0,s1,s2,s3,s4,s5⟩;go_simp<;>with_reducible rfl
       simp only [List.set];refine tkL 28 137 ?_ rfl (List.range 39) (by kernel_rfl) (fun _ _ _ h=>h) (by kernel_rfl) rfl (Or.inl ⟨by rfl,?_⟩) HF.out ?_;rotate_left
       ·rintro w' ⟨s0,s1,s2,s3,s4,s5⟩;go_simp<;>with_reducible rfl
       simp only [List.set];refine tkL 29 138 ?_ rfl (List.range 39) (by kernel_rfl) (fun _ _ _ h=>h) (by kernel_rfl) rfl (Or.inl ⟨by rfl,?_⟩) HF.out ?_;rotate_left
       ·rintro w' ⟨s0,s1,s2,s3,s4,s5⟩;go_simp<;>with_reducible rfl
       simp only [List.set];refine tkL 31 140 ?_ rfl (List.range 39) (by kernel_rfl) (fun _ _ _ h=>h) (by kernel_rfl) rfl (Or.inl ⟨by rfl,?_⟩) HF.out ?_;rotate_left
       ·rintro w' ⟨s0,s1,s2,s3,s4,s5⟩;go_simp<;>with_reducible rfl
       simp only [List.set];refine tkL 32 141 ?_ rfl (List.range 39) (by kernel_rfl) (fun _ _ _ h=>h) (by kernel_rfl) rfl (Or.inl ⟨by rfl,?_⟩) HF.out ?_;rotate_left
       ·rintro w' ⟨s0,s1,s2,s3,s4,s5⟩;go_simp<;>with_reducible rfl
       simp only [List.set];refine tkL 33 142 ?_ rfl (List.range 39) (by kernel_rfl) (fun _ _ _ h=>h) (by kernel_rfl) rfl (Or.inl ⟨by rfl,?_⟩) HF.out ?_;rotate_left
       ·rintro w' ⟨s0,s1,s2,s3,s4,s5⟩;go_simp<;>with_reducible rfl
       simp only [List.set];refine tkL 34 143 ?_ rfl (List.range 39) (by kernel_rfl) (fun _ _ _ h=>h) (by kernel_rfl) rfl (Or.inl ⟨by rfl,?_⟩) HF.out ?_;rotate_left
       ·rintro w' ⟨s0,s1,s2,s3,s4,s5⟩;go_simp<;>with_reducible rfl
       simp only [List.set];refine tkL 35 144 ?_ rfl (List.range 39) (by kernel_rfl) (fun _ _ _ h=>h) (by kernel_rfl) rfl (Or.inl ⟨by rfl,?_⟩) HF.out ?_;rotate_left
       ·rintro w' ⟨s0,s1,s2,s3,s4,s5⟩;go_simp<;>with_reducible rfl
       simp only [List.set];refine tkL 36 145 ?_ rfl (List.range 39) (by kernel_rfl) (fun _ _ _ h=>h) (by kernel_rfl) rfl (Or.inl ⟨by rfl,?_⟩) HF.out ?_;rotate_left
       ·rintro w' ⟨s0,s1,s2,s3,s4,s5⟩;go_simp<;>with_reducible rfl
       simp only [List.set];refine wpAnyI_one (i:=30) (by kernel_rfl) rfl (fun K' hK=>?_);have HKK:=Lib.hid hK;clear hK;go_simp
       refine HR.out.mono ?_;rintro e w8 ⟨rfl,hb8⟩;have HF8:=Lib.hid (And.intro (cell_keep hb8 HF.out.1) (And.intro (cell_keep hb8 HF.out.2.1) (And.intro (cell_keep hb8 HF.out.2.2.1) (And.intro (cell_keep hb8 HF.out.2.2.2.1) (And.intro (cell_keep hb8 HF.out.2.2.2.2.1) (cell_keep hb8 HF.out.2.2.2.2.2))))));have HB8:=Lib.hid (HB6.out.trans (hb8.mono HB6.out.size));clear hb8 HR;go_wp2_with fail;refine HKK.out _ _ ⟨fun _=>HF8.out,?_⟩;clear HKK K';try simp only [Act.put,List.setIfInBounds_toArray,List.set_cons_zero,List.set_cons_succ,List.getElem_toArray,List.getElem_cons_zero,List.getElem_cons_succ]
       refine wpAnyI_one (i:=37) (by kernel_rfl) rfl (fun K' hK=>?_);have HKK:=Lib.hid hK;clear hK;go_simp
       refine HKK.out _ _ ⟨fun _=>HF8.out,?_⟩;clear HKK K';try simp only [Act.put,List.setIfInBounds_toArray,List.set_cons_zero,List.set_cons_succ,List.getElem_toArray,List.getElem_cons_zero,List.getElem_cons_succ]
       refine wpAnyI_one (i:=38) (by kernel_rfl) rfl (fun K' hK=>?_);have HKK:=Lib.hid hK;clear hK;go_simp
       refine HKK.out _ _ ⟨fun _=>HF8.out,?_⟩;clear HKK K';try simp only [Act.put,List.setIfInBounds_toArray,List.set_cons_zero,List.set_cons_succ,List.getElem_toArray,List.getElem_cons_zero,List.getElem_cons_succ]
       refine wpAnyI_done (by kernel_rfl) ?_ _;go_wp2_with fail;go_roundw;case rel=>exact ⟨j+1,by rw [HWE.out];go_num,by go_num,by omega,HB8.out⟩
       case measure=>simp [intOf];omega
     ·obtain rfl:j=i:=(by omega);go_wp2_with fail;go_ret;exact ⟨rfl,below_step (below_step HB3.out HBA.out) HBQ.out⟩
end Go.Proofs.YtoccgnleiekomaaGreatDoor
