import Derived.Test.YtkphljggkajlkaaGreatDoorVwBC
import Derived.Test.YtkphljggkajlkaaGreatDoorVwBY
set_option linter.unusedVariables false
set_option linter.unusedSimpArgs false
namespace Go.Proofs.YtkphljggkajlkaaGreatDoor
open Go.RowKit
set_option maxRecDepth 100000
set_option linter.unusedVariables false
set_option linter.unusedSimpArgs false
theorem idx_first:∀(l:List (List UInt8)) (i:Nat) (y:List UInt8),l[i]? =some y→(∀j:Nat,j<i→l[j]? ≠some y)→l.idxOf y=i
 |[],i,y,h,_=>by simp at h
 |z::l,0,y,h,_=>by
  obtain rfl:z=y:=(by simpa using h);simp [List.idxOf_cons]
 |z::l,i+1,y,h,hn=>by
  have hz:(z==y)=false:=by
   have:=hn 0 (by omega);simpa using this
  rw [List.idxOf_cons,hz,idx_first l i y (by simpa using h) (fun j hj=>by have:=hn (j+1) (by omega);simpa using this)];rfl
theorem rem4 (k:Int):∃K:Nat,K<4∧(wrap64 (k.tmod 4+4)).tmod 4=(K:Int):=by
 have h1:=Int.lt_tmod_of_pos k (show (0:Int)<4 by decide);have h2:=Int.tmod_lt_of_pos k (show (0:Int)<4 by decide);obtain ⟨r,hr⟩:∃r,k.tmod 4=r:=⟨_,rfl⟩
 rw [hr]at h1 h2⊢;have:r= -3∨r= -2∨r= -1∨r=0∨r=1∨r=2∨r=3:=(by omega);rcases this with rfl|rfl|rfl|rfl|rfl|rfl|rfl
 ·exact ⟨1,by decide,by decide+kernel⟩
 ·exact ⟨2,by decide,by decide+kernel⟩
 ·exact ⟨3,by decide,by decide+kernel⟩
 ·exact ⟨0,by decide,by decide+kernel⟩
 ·exact ⟨1,by decide,by decide+kernel⟩
 ·exact ⟨2,by decide,by decide+kernel⟩
 ·exact ⟨3,by decide,by decide+kernel⟩
theorem dia_eq:diaNames=[[108,111,119],[108,101,102,116],[114,105,103,104,116],[104,105,103,104]]:=by decide+kernel
theorem dia_lits:diaNames.map strV=[.string ⟨#[108,111,119]⟩,.string ⟨#[108,101,102,116]⟩,.string ⟨#[114,105,103,104,116]⟩,.string ⟨#[104,105,103,104]⟩]:=by rw [dia_eq];rfl
theorem row_new2 (w:World) (xs:List Value) (T:TypeId) (size m b:Nat) (hb:b=w.heap.size) (hl:xs.length=m*size) (hm:0<m):RowR (w.alloc (.cells xs.toArray T)) size (some ⟨b,0,none⟩) m xs:=
 ⟨hl,fun h=>(by cases h),fun ad had=>by
  obtain rfl:=Option.some.inj had;exact ⟨rfl,cells_new w xs T b hb⟩⟩
set_option maxHeartbeats 4000000 in
theorem refAt_any {w:World} {ao:Option Addr} {cap:Nat} {l:List (List UInt8)} (x:List UInt8) (hR:StrR w ao l) (hl:l.length≤1000):
  Calls Tryz.prog 45 #[.slice ao l.length cap,.string ⟨x.toArray⟩] w fun e w'=>e=.returned (.int .i64 (pIdx l x))∧Below w.heap.size w w':=by
 have HR:=Lib.hid hR;clear hR;go_enter Tryz.func45,Tryz.ntmps45
 go_wp2_with fail;go_loopw [5] (fun u5 wr=>∃i:Nat,u5=.int .i64 (i:Int)∧i≤l.length∧Below w.heap.size w wr∧Hid (∀j:Nat,j<i→l[j]? ≠some x)) (fun u5 _=>l.length - (intOf u5).toNat)
 case atStart=>exact ⟨0,by go_num,Nat.zero_le _,Below.refl _ _,Lib.hid (fun j hj=>absurd hj (by omega))⟩
 case round=>
  obtain ⟨i,rfl,hi,hb,HN⟩:=hrel;have HB:=Lib.hid hb;by_cases hlt:i<l.length
  ·obtain ⟨y,hy⟩:∃y,l[i]? =some y:=⟨_,List.getElem?_eq_getElem hlt⟩
   obtain ⟨g,o,rfl⟩:=StrR.addr HR.out (by omega);have hc:=(HR.out.below hb).at' i y hy;clear hb;by_cases hq:y=x
   ·subst hq;have HV:=Lib.hid (show pIdx l y=(i:Int)from by
     unfold pIdx;rw [if_pos (by simpa using List.mem_of_getElem? hy)];rw [idx_first l i y hy HN.out])
    clear hy;go_wp2_with fail;go_ret;exact ⟨by rw [HV.out];rfl,HB.out⟩
   ·have HN2:=Lib.hid (show∀j:Nat,j<i+1→l[j]? ≠some x from fun j hj he=>by
     rcases Nat.lt_succ_iff_lt_or_eq.1 hj with h|h
     ·exact HN.out j h he
     ·subst h;rw [hy]at he;exact hq (Option.some.inj he))
    have hq2:(y==x)=false:=(by simpa using hq);clear hy;go_wp2_with fail;go_roundw;case rel=>exact ⟨i+1,by go_num,by omega,HB.out,HN2⟩
    case measure=>simp [intOf];omega
  ·clear hb;have HV:=Lib.hid (show pIdx l x= -1 from by
    unfold pIdx;rw [if_neg];intro hc;obtain ⟨j,hj⟩:=List.mem_iff_getElem?.1 (show x∈l by simpa using hc);exact HN.out j (by have:=(List.getElem?_eq_some_iff.1 hj).1;omega) hj)
   go_wp2_with fail;go_ret;exact ⟨by rw [HV.out];rfl,HB.out⟩
set_option maxHeartbeats 4000000 in
theorem reader4_any {w:World} {gn g ncap cp k:Nat} {x:List UInt8} (hR:StrR w (some ⟨gn,0,none⟩) diaNames) (hp:IsPairs w (some ⟨g,0,none⟩) 4 P4) (hk:k<4) (hx:diaNames[k]? =some x):
  Calls Tryz.prog 14 #[.slice (some ⟨gn,0,none⟩) 4 ncap,.slice (some ⟨g,0,none⟩) 4 cp,.string ⟨x.toArray⟩] w fun e w'=>∃v,e=.returned (.tuple #[v,.int .i64 0])∧Below w.heap.size w w':=by
 have HO:=Lib.hid (orders_any 4 P4 (some ⟨g,0,none⟩) 4 cp w (by omega) (by omega) (by omega) hp);have HA:=Lib.hid (fun W (hW:StrR W (some ⟨gn,0,none⟩) diaNames)=>refAt_any (cap:=ncap) x hW (by decide));rw [show diaNames.length=4 from rfl,dia_ix k x hx]at HA;have HR:=Lib.hid hR;have hk0:¬(k:Int)<0:=(by omega);clear hR hp hx;go_enter Tryz.func14,Tryz.ntmps14
 go_wp2_with fail;refine HO.out.mono ?_;rintro e w2 ⟨hb2,hpost⟩;rcases hpost with ⟨h1,_⟩|⟨_,h1,_⟩|⟨_,_,ob,rfl,hor⟩
 ·exact absurd P4_in h1
 ·exact absurd ((good_fine (by omega) P4_in).2 P4_fine) h1
 have HB2:=Lib.hid hb2;have HA2:=Lib.hid (HA.out w2 (HR.out.below hb2));have HOR:=Lib.hid hor;clear hb2 hor HO HA;go_wp2_with fail;refine HA2.out.mono ?_;rintro e w3 ⟨rfl,hb3⟩;have HB3:=Lib.hid (below_step HB2.out hb3);clear hb3;go_wp2_with fail
 go_ret2
 exact ⟨_,rfl,HB3.out.alloc HB3.out.size _⟩
set_option maxHeartbeats 4000000 in
theorem diamond_any (w:World):Calls Tryz.prog 12 #[] w fun e w'=>∃gn g,e=.returned (.agg #[.slice (some ⟨gn,0,none⟩) 4 4,.slice (some ⟨g,0,none⟩) 4 4])∧StrR w' (some ⟨gn,0,none⟩) diaNames∧IsPairs w' (some ⟨g,0,none⟩) 4 P4∧Below w.heap.size w w':=by
 go_enter Tryz.func12,Tryz.ntmps12
 go_wp2_with fail;refine bodyPost_ret (v:=.agg #[.slice (some ⟨w.heap.size+1,0,none⟩) 4 4,.slice (some ⟨w.heap.size+1+1,0,none⟩) 4 4]) (by simp [results,Tryz.results12,go_sem]) rfl ⟨w.heap.size+1,w.heap.size+1+1,rfl,?_,?_,?_⟩
 ·have h1:=row_new2 (w.alloc (.cells #[.slice (some ⟨w.heap.size+1,0,none⟩) 4 4,.slice (some ⟨w.heap.size+1+1,0,none⟩) 4 4] 51)) [.string ⟨#[108,111,119]⟩,.string ⟨#[108,101,102,116]⟩,.string ⟨#[114,105,103,104,116]⟩,.string ⟨#[104,105,103,104]⟩] 9 1 4 (w.heap.size+1) (by simp) rfl (by omega);have h2:=RowR.below h1 ((Below.refl _ _).alloc (Nat.le_refl _) (.cells #[.int .i64 0,.int .i64 1,.int .i64 0,.int .i64 2,.int .i64 1,.int .i64 3,.int .i64 2,.int .i64 3] 94));unfold StrR;rw [dia_lits];exact h2
 ·have hc:∀j u,([.int .i64 0,.int .i64 1,.int .i64 0,.int .i64 2,.int .i64 1,.int .i64 3,.int .i64 2,.int .i64 3]:List Value)[j]? =some u→(((w.alloc (.cells #[.slice (some ⟨w.heap.size+1,0,none⟩) 4 4,.slice (some ⟨w.heap.size+1+1,0,none⟩) 4 4] 51)).alloc (.cells #[.string ⟨#[108,111,119]⟩,.string ⟨#[108,101,102,116]⟩,.string ⟨#[114,105,103,104,116]⟩,.string ⟨#[104,105,103,104]⟩] 9)).alloc (.cells #[.int .i64 0,.int .i64 1,.int .i64 0,.int .i64 2,.int .i64 1,.int .i64 3,.int .i64 2,.int .i64 3] 94)).cell? ⟨w.heap.size+1+1,j,none⟩=some u:=fun j u h=>by
   have:=cells_new ((w.alloc (.cells #[.slice (some ⟨w.heap.size+1,0,none⟩) 4 4,.slice (some ⟨w.heap.size+1+1,0,none⟩) 4 4] 51)).alloc (.cells #[.string ⟨#[108,111,119]⟩,.string ⟨#[108,101,102,116]⟩,.string ⟨#[114,105,103,104,116]⟩,.string ⟨#[104,105,103,104]⟩] 9)) _ 94 (w.heap.size+1+1) (by simp) j u h;rw [add_at _ rfl,Nat.zero_add]at this;exact this
  refine ⟨w.heap.size+1+1,0,fun _=>rfl,fun _=>by simp,fun i hi=>?_⟩;have:i=0∨i=1∨i=2∨i=3:=(by omega);rcases this with rfl|rfl|rfl|rfl
  ·exact ⟨hc 0 _ rfl,hc 1 _ rfl⟩
  ·exact ⟨hc 2 _ rfl,hc 3 _ rfl⟩
  ·exact ⟨hc 4 _ rfl,hc 5 _ rfl⟩
  ·exact ⟨hc 6 _ rfl,hc 7 _ rfl⟩
 ·exact (((Below.refl _ _).alloc (Nat.le_refl _) _).alloc (by simp) _).alloc (by simp;omega) _
set_option maxHeartbeats 8000000 in
theorem see_k (k:Int) (K:Nat) (hK:K<4) (hk:(wrap64 (k.tmod 4+4)).tmod 4=(K:Int)) (w:World):Calls Tryz.prog 6 #[.int .i64 k] w fun e w'=>∃sb v,e=.returned (.tuple #[.pointer (some ⟨sb,0,none⟩),v])∧SeerAt w' sb K∧Below w.heap.size w w':=by
 go_enter Tryz.func6,Tryz.ntmps6
 go_wp2_with fail;refine (diamond_any _).mono ?_;rintro e w2 ⟨gn,g,rfl,hr,hp,hb⟩;obtain ⟨x,hx⟩:∃x,diaNames[K]? =some x:=⟨_,List.getElem?_eq_getElem (by show K<4;exact hK)⟩
 have hba:=(Below.refl w2.heap.size w2).alloc (Nat.le_refl _) (.cells #[.slice (some ⟨gn,0,none⟩) 4 4,.slice (some ⟨g,0,none⟩) 4 4] 51);have hpx:=heap_alloc_new w2 (.cells #[.slice (some ⟨gn,0,none⟩) 4 4,.slice (some ⟨g,0,none⟩) 4 4] 51);have hrA:=hr.below hba;have hpA:=pairs_below hba hp;have HB:=Lib.hid (hb.trans (hba.mono hb.size));go_upto_region 2 with (fail)
 generalize w2.alloc (.cells #[.slice (some ⟨gn,0,none⟩) 4 4,.slice (some ⟨g,0,none⟩) 4 4] 51)=W at hpx hrA hpA HB⊢;have cx:=hrA.at' K x hx;rw [Nat.zero_add]at cx;have c0:W.cell? ⟨w2.heap.size,0,none⟩=some (.slice (some ⟨gn,0,none⟩) 4 4):=(by rw [cell_of_row W _ _ _ _ _ hpx];rfl);have c1:W.cell? ⟨w2.heap.size,1,none⟩=some (.slice (some ⟨g,0,none⟩) 4 4):=(by rw [cell_of_row W _ _ _ _ _ hpx];rfl);have HN:=Lib.hid (new4_any (ncap:=4) (cp:=4) hrA hpA hK hx);have HPX:=Lib.hid hpx;have HR:=Lib.hid hrA;have HP:=Lib.hid hpA;have HX:=Lib.hid hx;have hKi:(K:Int)<4:=(by omega);have hKn:(0:Int)≤(K:Int):=(by omega);obtain ⟨pb,hpb⟩:∃n,w2.heap.size=n:=⟨_,rfl⟩
 rw [hpb]at c0 c1 HPX⊢;clear hr hp hb hba hpx hrA hpA hx hpb;go_wp2_with fail;refine HN.out.mono ?_;rintro e w3 ⟨sb,rfl,hse,hb3⟩;have HB3:=Lib.hid (below_step HB.out hb3);have HSE:=Lib.hid hse;have hpx3:=(hb3.block pb (Array.getElem?_eq_some_iff.1 HPX.out).1).trans HPX.out;have HRD:=Lib.hid (reader4_any (ncap:=4) (cp:=4) (HR.out.below hb3) (pairs_below hb3 HP.out) hK HX.out);clear c0 c1 cx hse hb3;have c0:w3.cell? ⟨pb,0,none⟩=some (.slice (some ⟨gn,0,none⟩) 4 4):=(by rw [cell_of_row w3 pb _ _ _ _ hpx3];rfl);have c1:w3.cell? ⟨pb,1,none⟩=some (.slice (some ⟨g,0,none⟩) 4 4):=(by rw [cell_of_row w3 pb _ _ _ _ hpx3];rfl);clear hpx3;go_wp2_with fail;refine HRD.out.mono ?_;rintro e w4 ⟨v,rfl,hb4⟩;have HB4:=Lib.hid (below_step HB3.out hb4);have HSE4:=Lib.hid (HSE.out.below hb4);clear hb4 c0 c1;go_wp2_with fail
 go_ret2
 exact ⟨sb,v,rfl,HSE4.out,HB4.out⟩
theorem see_any (k:Int) (w:World):Calls Tryz.prog 6 #[.int .i64 k] w fun e w'=>∃sb v K,e=.returned (.tuple #[.pointer (some ⟨sb,0,none⟩),v])∧SeerAt w' sb K∧Below w.heap.size w w':=by
 obtain ⟨K,hK,hk⟩:=rem4 k;refine (see_k k K hK hk w).mono ?_;rintro e w2 ⟨sb,v,h1,h2,h3⟩;exact ⟨sb,v,K,h1,h2,h3⟩
structure VwAt (w:World) (st:VwSt) (o0 o1 o2 o3:Option Addr) (c0 c1 c2 c3:Nat):Prop where
 bl:RowR w 6 o0 st.blocks.length (st.blocks.flatMap blkCells)
 at':RowR w 2 o1 st.atoms.length (st.atoms.flatMap atomCells)
 df:RowR w 5 o2 st.defs.length (defCells st.defs)
 dg:RowR w 2 o3 st.diags.length (st.diags.flatMap diagCells)
theorem VwAt.below {w w':World} {st:VwSt} {o0 o1 o2 o3:Option Addr} {c0 c1 c2 c3:Nat} (h:VwAt w st o0 o1 o2 o3 c0 c1 c2 c3) (hb:Below w.heap.size w w'):VwAt w' st o0 o1 o2 o3 c0 c1 c2 c3:=
 ⟨RowR.below h.bl hb,RowR.below h.at' hb,RowR.below h.df hb,RowR.below h.dg hb⟩
theorem view_any {w:World} {sb k:Nat} (hS:SeerAt w sb k) (hE:EnvI w) (doc:ByteArray) (hd:doc.size≤6000) (st:VwSt) (hst:buildL (diaSeer k) doc.data.toList=st):
  Calls Tryz.prog 8 #[.pointer (some ⟨sb,0,none⟩),.string doc] w fun e w'=>∃o0 o1 o2 o3 c0 c1 c2 c3,e=.returned (.agg #[.slice o0 st.blocks.length c0,.slice o1 st.atoms.length c1,.slice o2 st.defs.length c2,.slice o3 st.diags.length c3])∧VwAt w' st o0 o1 o2 o3 c0 c1 c2 c3∧Below w.heap.size w w':=by
 refine (build_any (RdAt.of hS) (EnvB.of hE) doc hd).mono ?_;rintro e w' ⟨b,V,rfl,h,hb⟩;rw [hst]at h;obtain ⟨o0,c0,e0,r0,_⟩:=own_slice h.bl;obtain ⟨o1,c1,e1,r1,_⟩:=own_slice h.at';obtain ⟨o2,c2,e2,r2,_⟩:=own_slice h.df;obtain ⟨o3,c3,e3,r3,_⟩:=own_slice h.dg;exact ⟨o0,o1,o2,o3,c0,c1,c2,c3,by rw [e0,e1,e2,e3],⟨r0,r1,r2,r3⟩,hb⟩
def aliveDoc:ByteArray:=⟨#[97,32,123,124,104,105,103,104,58,32,98,124,125,123,124,108,101,102,116,58,99,124,125,10,10,91,120,93,58,32,47,121,10,58,58,58,123,114,105,103,104,116,125,10,104,105,100,100,101,110,10,58,58,58,10]⟩
def aliveSt:VwSt:=⟨[⟨1,0,0,false,[97,32,0,48,0],[]⟩],[⟨[108,101,102,116],[99]⟩],[⟨[120],[47,121],[],[],false⟩],[],[⟨[120],[47,121],[],[],false⟩]⟩
theorem vw_ext {a b:VwSt} (h1:a.blocks=b.blocks) (h2:a.atoms=b.atoms) (h3:a.defs=b.defs) (h4:a.diags=b.diags) (h5:a.tab=b.tab):a=b:=by
 obtain ⟨a1,a2,a3,a4,a5⟩:=a;obtain ⟨b1,b2,b3,b4,b5⟩:=b;simp only at h1 h2 h3 h4 h5;rw [h1,h2,h3,h4,h5]
set_option maxHeartbeats 4000000 in
theorem alive_st:buildL (diaSeer 1) aliveDoc.data.toList=aliveSt:=vw_ext (by decide+kernel) (by decide+kernel) (by decide+kernel) (by decide+kernel) (by decide+kernel)
set_option maxHeartbeats 8000000 in
theorem alive23_any (w:World) (hE:EnvI w):Calls Tryz.prog 5 #[] w fun e w'=>e=.returned (.bool true)∧Below w.heap.size w w':=by
 have HE:=Lib.hid hE;clear hE;go_enter Tryz.func5,Tryz.ntmps5
 go_wp2_with fail;refine (see_k 1 1 (by decide) (by decide+kernel) _).mono ?_;rintro e w2 ⟨sb,v,rfl,hse,hb2⟩;have HB2:=Lib.hid hb2;have HV:=Lib.hid (view_any hse (HE.out.below hb2) aliveDoc (by decide) aliveSt alive_st);clear hse hb2;go_wp2_with fail;refine HV.out.mono ?_;rintro e w3 ⟨o0,o1,o2,o3,c0,c1,c2,c3,rfl,hv,hb3⟩;simp only [aliveSt,List.length_cons,List.length_nil]at hv⊢;have HB3:=Lib.hid (below_step HB2.out hb3);obtain ⟨g0,i0,rfl⟩:=RowR.addr hv.bl (by decide);obtain ⟨g1,i1,rfl⟩:=RowR.addr hv.at' (by decide);obtain ⟨g2,i2,rfl⟩:=RowR.addr hv.df (by decide);have hbA:=(Below.refl w3.heap.size w3).alloc (Nat.le_refl _) (.cells #[.slice (some ⟨g0,i0,none⟩) 1 c0,.slice (some ⟨g1,i1,none⟩) 1 c1,.slice (some ⟨g2,i2,none⟩) 1 c2,.slice o3 0 c3] 34);have hvA:=hv.below hbA;obtain ⟨_,_,_,_,p4,_⟩:=RowR.blk hvA.bl 0 _ rfl;obtain ⟨_,q1⟩:=RowR.atm hvA.at' 0 _ rfl;obtain ⟨_,r1,_⟩:=RowR.dfn hvA.df 0 _ rfl;have HB4:=Lib.hid (HB3.out.alloc HB3.out.size (.cells #[.slice (some ⟨g0,i0,none⟩) 1 c0,.slice (some ⟨g1,i1,none⟩) 1 c1,.slice (some ⟨g2,i2,none⟩) 1 c2,.slice o3 0 c3] 34));simp only [Nat.zero_mul,Nat.add_zero]at p4 q1 r1;clear hv hb3 hbA hvA;go_wp2_with fail;go_ret;exact ⟨rfl,HB4.out⟩
theorem sees_one (k:Nat) (x:List UInt8):(diaSeer k).sees [x]=(diaSeer k).see1 x:=by simp [SeerL.sees]
theorem sees_str {w:World} {sb k:Nat} (h:SeerAt w sb k) (x:List UInt8):
  Calls Tryz.prog 7 #[.pointer (some ⟨sb,0,none⟩),.slice (some ⟨w.heap.size,0,none⟩) 1 1] (w.alloc (.cells #[.string ⟨x.toArray⟩] 9)) fun e w'=>e=.returned (.bool ((diaSeer k).see1 x))∧Below w.heap.size w w':=by
 have hb:=(Below.refl w.heap.size w).alloc (Nat.le_refl _) (.cells #[.string ⟨x.toArray⟩] 9);have hR:StrR (w.alloc (.cells #[.string ⟨x.toArray⟩] 9)) (some ⟨w.heap.size,0,none⟩) [x]:=row_new2 w [.string ⟨x.toArray⟩] 9 1 1 w.heap.size rfl rfl (by omega);refine (sees_any (cap:=1) (h.below hb) hR (by simp)).mono ?_;rintro e w' ⟨rfl,hb2⟩;exact ⟨by rw [sees_one],hb.trans (hb2.mono hb.size)⟩
end Go.Proofs.YtkphljggkajlkaaGreatDoor
