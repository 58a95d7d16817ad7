import Derived.Test.YtoccgnleiekomaaGreatDoorVwBC
import Derived.Test.YtoccgnleiekomaaGreatDoorVwBY
set_option linter.unusedVariables false
set_option linter.unusedSimpArgs false
namespace Go.Proofs.YtoccgnleiekomaaGreatDoor
open Go.RowKit
set_option maxRecDepth 100000
set_option linter.unusedVariables false
set_option linter.unusedSimpArgs false
theorem idx_first:∀(l:List (List UInt8)) (i:Nat) (y:List UInt8),l[i]? =some y→(∀j:Nat,j<i→l[j]? ≠some y)→l.idxOf y=i
 |[],i,y,h,_=>by simp at h
 |z::l,0,y,h,_=>by
  obtain rfl:z=y:=by simpa using h
  simp [List.idxOf_cons]
 |z::l,i+1,y,h,hn=>by
  have hz:(z==y)=false:=by
   have:=hn 0 (by omega)
   simpa using this
  rw [List.idxOf_cons,hz,idx_first l i y (by simpa using h) (fun j hj=>by have:=hn (j+1) (by omega);simpa using this)]
  rfl
theorem rem4 (k:Int):∃K:Nat,K<4∧(wrap64 (k.tmod 4+4)).tmod 4=(K:Int):=by
 have h1:=Int.lt_tmod_of_pos k (show (0:Int)<4 by decide)
 have h2:=Int.tmod_lt_of_pos k (show (0:Int)<4 by decide)
 obtain ⟨r,hr⟩:∃r,k.tmod 4=r:=⟨_,rfl⟩
 rw [hr]at h1 h2⊢
 have:r= -3∨r= -2∨r= -1∨r=0∨r=1∨r=2∨r=3:=by omega
 rcases this with rfl|rfl|rfl|rfl|rfl|rfl|rfl
 ·exact ⟨1,by decide,by decide+kernel⟩
 ·exact ⟨2,by decide,by decide+kernel⟩
 ·exact ⟨3,by decide,by decide+kernel⟩
 ·exact ⟨0,by decide,by decide+kernel⟩
 ·exact ⟨1,by decide,by decide+kernel⟩
 ·exact ⟨2,by decide,by decide+kernel⟩
 ·exact ⟨3,by decide,by decide+kernel⟩
theorem dia_eq:diaNames=[[108,111,119],[108,101,102,116],[114,105,103,104,116],[104,105,103,104]]:=by decide+kernel
theorem dia_lits:diaNames.map strV=[.string ⟨#[108,111,119]⟩,.string ⟨#[108,101,102,116]⟩,.string ⟨#[114,105,103,104,116]⟩,.string ⟨#[104,105,103,104]⟩]:=by rw [dia_eq];rfl
theorem row_new2 (w:World) (xs:List Value) (T:TypeId) (size m b:Nat) (hb:b=w.heap.size) (hl:xs.length=m*size) (hm:0<m):RowR (w.alloc (.cells xs.toArray T)) size (some ⟨b,0,none⟩) m xs:=
 ⟨hl,fun h=>(by cases h),fun ad had=>by
  obtain rfl:=Option.some.inj had
  exact ⟨rfl,cells_new w xs T b hb⟩⟩
set_option maxHeartbeats 4000000 in
theorem refAt_any {w:World} {ao:Option Addr} {cap:Nat} {l:List (List UInt8)} (x:List UInt8) (hR:StrR w ao l) (hl:l.length≤1000):
  Calls Tryz.prog 35 #[.slice ao l.length cap,.string ⟨x.toArray⟩] w fun e w'=>e=.returned (.int .i64 (pIdx l x))∧Below w.heap.size w w':=by
 have HR:=Lib.hid hR
 clear hR
 go_enter Tryz.func35,Tryz.ntmps35
 go_wp2_with fail
 go_loopw [5] (fun u5 wr=>∃i:Nat,u5=.int .i64 (i:Int)∧i≤l.length∧Below w.heap.size w wr∧Hid (∀j:Nat,j<i→l[j]? ≠some x)) (fun u5 _=>l.length - (intOf u5).toNat)
 case atStart=>exact ⟨0,by go_num,Nat.zero_le _,Below.refl _ _,Lib.hid (fun j hj=>absurd hj (by omega))⟩
 case round=>
  obtain ⟨i,rfl,hi,hb,HN⟩:=hrel
  have HB:=Lib.hid hb
  by_cases hlt:i<l.length
  ·obtain ⟨y,hy⟩:∃y,l[i]? =some y:=⟨_,List.getElem?_eq_getElem hlt⟩
   obtain ⟨g,o,rfl⟩:=StrR.addr HR.out (by omega)
   have hc:=(HR.out.below hb).at' i y hy
   clear hb
   by_cases hq:y=x
   ·subst hq
    have HV:=Lib.hid (show pIdx l y=(i:Int)from by
     unfold pIdx
     rw [if_pos (by simpa using List.mem_of_getElem? hy)]
     rw [idx_first l i y hy HN.out])
    clear hy
    go_wp2_with fail
    go_ret
    exact ⟨by rw [HV.out];rfl,HB.out⟩
   ·have HN2:=Lib.hid (show∀j:Nat,j<i+1→l[j]? ≠some x from fun j hj he=>by
     rcases Nat.lt_succ_iff_lt_or_eq.1 hj with h|h
     ·exact HN.out j h he
     ·subst h;rw [hy]at he;exact hq (Option.some.inj he))
    have hq2:(y==x)=false:=by simpa using hq
    clear hy
    go_wp2_with fail
    go_roundw
    case rel=>exact ⟨i+1,by go_num,by omega,HB.out,HN2⟩
    case measure=>simp [intOf];omega
  ·clear hb
   have HV:=Lib.hid (show pIdx l x= -1 from by
    unfold pIdx
    rw [if_neg]
    intro hc
    obtain ⟨j,hj⟩:=List.mem_iff_getElem?.1 (show x∈l by simpa using hc)
    exact HN.out j (by have:=(List.getElem?_eq_some_iff.1 hj).1;omega) hj)
   go_wp2_with fail
   go_ret
   exact ⟨by rw [HV.out];rfl,HB.out⟩
set_option maxHeartbeats 4000000 in
theorem reader4_any {w:World} {gn g ncap cp k:Nat} {x:List UInt8} (hR:StrR w (some ⟨gn,0,none⟩) diaNames) (hp:IsPairs w (some ⟨g,0,none⟩) 4 P4) (hk:k<4) (hx:diaNames[k]? =some x):
  Calls Tryz.prog 17 #[.slice (some ⟨gn,0,none⟩) 4 ncap,.slice (some ⟨g,0,none⟩) 4 cp,.string ⟨x.toArray⟩] w fun e w'=>∃v,e=.returned (.tuple #[v,.int .i64 0])∧Below w.heap.size w w':=by
 have HO:=Lib.hid (orders_any 4 P4 (some ⟨g,0,none⟩) 4 cp w (by omega) (by omega) (by omega) hp)
 have HA:=Lib.hid (fun W (hW:StrR W (some ⟨gn,0,none⟩) diaNames)=>refAt_any (cap:=ncap) x hW (by decide))
 rw [show diaNames.length=4 from rfl,dia_ix k x hx]at HA
 have HR:=Lib.hid hR
 have hk0:¬(k:Int)<0:=by omega
 clear hR hp hx
 go_enter Tryz.func17,Tryz.ntmps17
 go_wp2_with fail
 refine HO.out.mono ?_
 rintro e w2 ⟨hb2,hpost⟩
 rcases hpost with ⟨h1,_⟩|⟨_,h1,_⟩|⟨_,_,ob,rfl,hor⟩
 ·exact absurd P4_in h1
 ·exact absurd ((good_fine (by omega) P4_in).2 P4_fine) h1
 have HB2:=Lib.hid hb2
 have HA2:=Lib.hid (HA.out w2 (HR.out.below hb2))
 have HOR:=Lib.hid hor
 clear hb2 hor HO HA
 go_wp2_with fail
 refine HA2.out.mono ?_
 rintro e w3 ⟨rfl,hb3⟩
 have HB3:=Lib.hid (below_step HB2.out hb3)
 clear hb3
 go_wp2_with fail
 go_ret2
 exact ⟨_,rfl,HB3.out.alloc HB3.out.size _⟩
set_option maxHeartbeats 4000000 in
theorem diamond_any (w:World):Calls Tryz.prog 15 #[] w fun e w'=>∃gn g,e=.returned (.agg #[.slice (some ⟨gn,0,none⟩) 4 4,.slice (some ⟨g,0,none⟩) 4 4])∧StrR w' (some ⟨gn,0,none⟩) diaNames∧IsPairs w' (some ⟨g,0,none⟩) 4 P4∧Below w.heap.size w w':=by
 go_enter Tryz.func15,Tryz.ntmps15
 go_wp2_with fail
 refine bodyPost_ret (v:=.agg #[.slice (some ⟨w.heap.size+1,0,none⟩) 4 4,.slice (some ⟨w.heap.size+1+1,0,none⟩) 4 4]) (by simp [results,Tryz.results15,go_sem]) rfl ⟨w.heap.size+1,w.heap.size+1+1,rfl,?_,?_,?_⟩
 ·have h1:=row_new2 (w.alloc (.cells #[.slice (some ⟨w.heap.size+1,0,none⟩) 4 4,.slice (some ⟨w.heap.size+1+1,0,none⟩) 4 4] 53)) [.string ⟨#[108,111,119]⟩,.string ⟨#[108,101,102,116]⟩,.string ⟨#[114,105,103,104,116]⟩,.string ⟨#[104,105,103,104]⟩] 9 1 4 (w.heap.size+1) (by simp) rfl (by omega)
  have h2:=RowR.below h1 ((Below.refl _ _).alloc (Nat.le_refl _) (.cells #[.int .i64 0,.int .i64 1,.int .i64 0,.int .i64 2,.int .i64 1,.int .i64 3,.int .i64 2,.int .i64 3] 81))
  unfold StrR
  rw [dia_lits]
  exact h2
 ·have hc:∀j u,([.int .i64 0,.int .i64 1,.int .i64 0,.int .i64 2,.int .i64 1,.int .i64 3,.int .i64 2,.int .i64 3]:List Value)[j]? =some u→(((w.alloc (.cells #[.slice (some ⟨w.heap.size+1,0,none⟩) 4 4,.slice (some ⟨w.heap.size+1+1,0,none⟩) 4 4] 53)).alloc (.cells #[.string ⟨#[108,111,119]⟩,.string ⟨#[108,101,102,116]⟩,.string ⟨#[114,105,103,104,116]⟩,.string ⟨#[104,105,103,104]⟩] 9)).alloc (.cells #[.int .i64 0,.int .i64 1,.int .i64 0,.int .i64 2,.int .i64 1,.int .i64 3,.int .i64 2,.int .i64 3] 81)).cell? ⟨w.heap.size+1+1,j,none⟩=some u:=fun j u h=>by
   have:=cells_new ((w.alloc (.cells #[.slice (some ⟨w.heap.size+1,0,none⟩) 4 4,.slice (some ⟨w.heap.size+1+1,0,none⟩) 4 4] 53)).alloc (.cells #[.string ⟨#[108,111,119]⟩,.string ⟨#[108,101,102,116]⟩,.string ⟨#[114,105,103,104,116]⟩,.string ⟨#[104,105,103,104]⟩] 9)) _ 81 (w.heap.size+1+1) (by simp) j u h
   rw [add_at _ rfl,Nat.zero_add]at this
   exact this
  refine ⟨w.heap.size+1+1,0,fun _=>rfl,fun _=>by simp,fun i hi=>?_⟩
  have:i=0∨i=1∨i=2∨i=3:=by omega
  rcases this with rfl|rfl|rfl|rfl
  ·exact ⟨hc 0 _ rfl,hc 1 _ rfl⟩
  ·exact ⟨hc 2 _ rfl,hc 3 _ rfl⟩
  ·exact ⟨hc 4 _ rfl,hc 5 _ rfl⟩
  ·exact ⟨hc 6 _ rfl,hc 7 _ rfl⟩
 ·exact (((Below.refl _ _).alloc (Nat.le_refl _) _).alloc (by simp) _).alloc (by simp;omega) _
set_option maxHeartbeats 8000000 in
theorem see_k (k:Int) (K:Nat) (hK:K<4) (hk:(wrap64 (k.tmod 4+4)).tmod 4=(K:Int)) (w:World):Calls Tryz.prog 11 #[.int .i64 k] w fun e w'=>∃sb v,e=.returned (.tuple #[.pointer (some ⟨sb,0,none⟩),v])∧SeerAt w' sb K∧Below w.heap.size w w':=by
 go_enter Tryz.func11,Tryz.ntmps11
 go_wp2_with fail
 refine (diamond_any _).mono ?_
 rintro e w2 ⟨gn,g,rfl,hr,hp,hb⟩
 obtain ⟨x,hx⟩:∃x,diaNames[K]? =some x:=⟨_,List.getElem?_eq_getElem (by show K<4;exact hK)⟩
 have hba:=(Below.refl w2.heap.size w2).alloc (Nat.le_refl _) (.cells #[.slice (some ⟨gn,0,none⟩) 4 4,.slice (some ⟨g,0,none⟩) 4 4] 53)
 have hpx:=heap_alloc_new w2 (.cells #[.slice (some ⟨gn,0,none⟩) 4 4,.slice (some ⟨g,0,none⟩) 4 4] 53)
 have hrA:=hr.below hba
 have hpA:=pairs_below hba hp
 have HB:=Lib.hid (hb.trans (hba.mono hb.size))
 go_upto_region 2 with (fail)
 generalize w2.alloc (.cells #[.slice (some ⟨gn,0,none⟩) 4 4,.slice (some ⟨g,0,none⟩) 4 4] 53)=W at hpx hrA hpA HB⊢
 have cx:=hrA.at' K x hx
 rw [Nat.zero_add]at cx
 have c0:W.cell? ⟨w2.heap.size,0,none⟩=some (.slice (some ⟨gn,0,none⟩) 4 4):=by rw [cell_of_row W _ _ _ _ _ hpx];rfl
 have c1:W.cell? ⟨w2.heap.size,1,none⟩=some (.slice (some ⟨g,0,none⟩) 4 4):=by rw [cell_of_row W _ _ _ _ _ hpx];rfl
 have HN:=Lib.hid (new4_any (ncap:=4) (cp:=4) hrA hpA hK hx)
 have HPX:=Lib.hid hpx
 have HR:=Lib.hid hrA
 have HP:=Lib.hid hpA
 have HX:=Lib.hid hx
 have hKi:(K:Int)<4:=by omega
 have hKn:(0:Int)≤(K:Int):=by omega
 obtain ⟨pb,hpb⟩:∃n,w2.heap.size=n:=⟨_,rfl⟩
 rw [hpb]at c0 c1 HPX⊢
 clear hr hp hb hba hpx hrA hpA hx hpb
 go_wp2_with fail
 refine HN.out.mono ?_
 rintro e w3 ⟨sb,rfl,hse,hb3⟩
 have HB3:=Lib.hid (below_step HB.out hb3)
 have HSE:=Lib.hid hse
 have hpx3:=(hb3.block pb (Array.getElem?_eq_some_iff.1 HPX.out).1).trans HPX.out
 have HRD:=Lib.hid (reader4_any (ncap:=4) (cp:=4) (HR.out.below hb3) (pairs_below hb3 HP.out) hK HX.out)
 clear c0 c1 cx hse hb3
 have c0:w3.cell? ⟨pb,0,none⟩=some (.slice (some ⟨gn,0,none⟩) 4 4):=by rw [cell_of_row w3 pb _ _ _ _ hpx3];rfl
 have c1:w3.cell? ⟨pb,1,none⟩=some (.slice (some ⟨g,0,none⟩) 4 4):=by rw [cell_of_row w3 pb _ _ _ _ hpx3];rfl
 clear hpx3
 go_wp2_with fail
 refine HRD.out.mono ?_
 rintro e w4 ⟨v,rfl,hb4⟩
 have HB4:=Lib.hid (below_step HB3.out hb4)
 have HSE4:=Lib.hid (HSE.out.below hb4)
 clear hb4 c0 c1
 go_wp2_with fail
 go_ret2
 exact ⟨sb,v,rfl,HSE4.out,HB4.out⟩
theorem see_any (k:Int) (w:World):Calls Tryz.prog 11 #[.int .i64 k] w fun e w'=>∃sb v K,e=.returned (.tuple #[.pointer (some ⟨sb,0,none⟩),v])∧SeerAt w' sb K∧Below w.heap.size w w':=by
 obtain ⟨K,hK,hk⟩:=rem4 k
 refine (see_k k K hK hk w).mono ?_
 rintro e w2 ⟨sb,v,h1,h2,h3⟩
 exact ⟨sb,v,K,h1,h2,h3⟩
structure VwAt (w:World) (st:VwSt) (o0 o1 o2 o3:Option Addr) (c0 c1 c2 c3:Nat):Prop where
 bl:RowR w 6 o0 st.blocks.length (st.blocks.flatMap blkCells)
 at':RowR w 2 o1 st.atoms.length (st.atoms.flatMap atomCells)
 df:RowR w 5 o2 st.defs.length (defCells st.defs)
 dg:RowR w 2 o3 st.diags.length (st.diags.flatMap diagCells)
theorem VwAt.below {w w':World} {st:VwSt} {o0 o1 o2 o3:Option Addr} {c0 c1 c2 c3:Nat} (h:VwAt w st o0 o1 o2 o3 c0 c1 c2 c3) (hb:Below w.heap.size w w'):VwAt w' st o0 o1 o2 o3 c0 c1 c2 c3:=
 ⟨RowR.below h.bl hb,RowR.below h.at' hb,RowR.below h.df hb,RowR.below h.dg hb⟩
theorem view_any {w:World} {sb k:Nat} (hS:SeerAt w sb k) (hE:EnvI w) (doc:ByteArray) (hd:doc.size≤6000) (st:VwSt) (hst:buildL (diaSeer k) doc.data.toList=st):
  Calls Tryz.prog 12 #[.pointer (some ⟨sb,0,none⟩),.string doc] w fun e w'=>∃o0 o1 o2 o3 c0 c1 c2 c3,e=.returned (.agg #[.slice o0 st.blocks.length c0,.slice o1 st.atoms.length c1,.slice o2 st.defs.length c2,.slice o3 st.diags.length c3])∧VwAt w' st o0 o1 o2 o3 c0 c1 c2 c3∧Below w.heap.size w w':=by
 refine (build_any (RdAt.of hS) (EnvB.of hE) doc hd).mono ?_
 rintro e w' ⟨b,V,rfl,h,hb⟩
 rw [hst]at h
 obtain ⟨o0,c0,e0,r0,_⟩:=own_slice h.bl
 obtain ⟨o1,c1,e1,r1,_⟩:=own_slice h.at'
 obtain ⟨o2,c2,e2,r2,_⟩:=own_slice h.df
 obtain ⟨o3,c3,e3,r3,_⟩:=own_slice h.dg
 exact ⟨o0,o1,o2,o3,c0,c1,c2,c3,by rw [e0,e1,e2,e3],⟨r0,r1,r2,r3⟩,hb⟩
def aliveDoc:ByteArray:=⟨#[97,32,123,124,104,105,103,104,58,32,98,124,125,123,124,108,101,102,116,58,99,124,125,10,10,91,120,93,58,32,47,121,10,58,58,58,123,114,105,103,104,116,125,10,104,105,100,100,101,110,10,58,58,58,10]⟩
def aliveSt:VwSt:=⟨[⟨1,0,0,false,[97,32,0,48,0],[]⟩],[⟨[108,101,102,116],[99]⟩],[⟨[120],[47,121],[],[],false⟩],[],[⟨[120],[47,121],[],[],false⟩]⟩
theorem vw_ext {a b:VwSt} (h1:a.blocks=b.blocks) (h2:a.atoms=b.atoms) (h3:a.defs=b.defs) (h4:a.diags=b.diags) (h5:a.tab=b.tab):a=b:=by
 obtain ⟨a1,a2,a3,a4,a5⟩:=a
 obtain ⟨b1,b2,b3,b4,b5⟩:=b
 simp only at h1 h2 h3 h4 h5
 rw [h1,h2,h3,h4,h5]
set_option maxHeartbeats 4000000 in
theorem alive_st:buildL (diaSeer 1) aliveDoc.data.toList=aliveSt:=vw_ext (by decide+kernel) (by decide+kernel) (by decide+kernel) (by decide+kernel) (by decide+kernel)
set_option maxHeartbeats 8000000 in
theorem alive23_any (w:World) (hE:EnvI w):Calls Tryz.prog 10 #[] w fun e w'=>e=.returned (.bool true)∧Below w.heap.size w w':=by
 have HE:=Lib.hid hE
 clear hE
 go_enter Tryz.func10,Tryz.ntmps10
 go_wp2_with fail
 refine (see_k 1 1 (by decide) (by decide+kernel) _).mono ?_
 rintro e w2 ⟨sb,v,rfl,hse,hb2⟩
 have HB2:=Lib.hid hb2
 have HV:=Lib.hid (view_any hse (HE.out.below hb2) aliveDoc (by decide) aliveSt alive_st)
 clear hse hb2
 go_wp2_with fail
 refine HV.out.mono ?_
 rintro e w3 ⟨o0,o1,o2,o3,c0,c1,c2,c3,rfl,hv,hb3⟩
 simp only [aliveSt,List.length_cons,List.length_nil]at hv⊢
 have HB3:=Lib.hid (below_step HB2.out hb3)
 obtain ⟨g0,i0,rfl⟩:=RowR.addr hv.bl (by decide)
 obtain ⟨g1,i1,rfl⟩:=RowR.addr hv.at' (by decide)
 obtain ⟨g2,i2,rfl⟩:=RowR.addr hv.df (by decide)
 have hbA:=(Below.refl w3.heap.size w3).alloc (Nat.le_refl _) (.cells #[.slice (some ⟨g0,i0,none⟩) 1 c0,.slice (some ⟨g1,i1,none⟩) 1 c1,.slice (some ⟨g2,i2,none⟩) 1 c2,.slice o3 0 c3] 33)
 have hvA:=hv.below hbA
 obtain ⟨_,_,_,_,p4,_⟩:=RowR.blk hvA.bl 0 _ rfl
 obtain ⟨_,q1⟩:=RowR.atm hvA.at' 0 _ rfl
 obtain ⟨_,r1,_⟩:=RowR.dfn hvA.df 0 _ rfl
 have HB4:=Lib.hid (HB3.out.alloc HB3.out.size (.cells #[.slice (some ⟨g0,i0,none⟩) 1 c0,.slice (some ⟨g1,i1,none⟩) 1 c1,.slice (some ⟨g2,i2,none⟩) 1 c2,.slice o3 0 c3] 33))
 simp only [Nat.zero_mul,Nat.add_zero]at p4 q1 r1
 clear hv hb3 hbA hvA
 go_wp2_with fail
 go_ret
 exact ⟨rfl,HB4.out⟩
end Go.Proofs.YtoccgnleiekomaaGreatDoor
namespace Go.Proofs.YtoccgnleiekomaaGreatDoor
set_option linter.unusedVariables false
theorem restore_zero (ts:List AtomT):∀(l:List UInt8),(0:UInt8)∉l→restoreL l ts=l
 |[],_=>restore_nil ts
 |c::l,h=>by
  rw [restore_cons (fun e=>h (by rw [e];exact List.mem_cons_self ..)),restore_zero ts l (fun e=>h (List.mem_cons_of_mem _ e))]
end Go.Proofs.YtoccgnleiekomaaGreatDoor
namespace Go.Proofs.YtoccgnleiekomaaGreatDoor
open Go.RowKit
set_option maxRecDepth 100000
set_option linter.unusedVariables false
set_option linter.unusedSimpArgs false
theorem lettersV_take {l:List UInt8} {k:Nat} {c:UInt8} (h:Letters (l.take k)) (hk:l[k]? =some c) (hc:97≤c.toNat∧c.toNat≤122):Letters (l.take (k+1)):=by
 obtain ⟨hlt,he⟩:=List.getElem?_eq_some_iff.1 hk
 rw [List.take_succ_eq_append_getElem hlt,he]
 refine h.append (fun b hb=>?_)
 rw [List.mem_singleton.1 hb]
 exact hc
theorem dia_known {J:Nat} {x:List UInt8} (h:diaNames[J]? =some x) (k:Nat):(diaSeer k).unk x=false:=by
 have hm:=List.mem_of_getElem? h
 unfold diaSeer
 simp only
 simp [List.contains_iff_mem,hm]
theorem dia_letters {J:Nat} {x:List UInt8} (h:diaNames[J]? =some x):Letters x∧x≠[]∧x.length≤5:=by
 have hm:=List.mem_of_getElem? h
 obtain ⟨h1,h2,h3⟩:=dia_low x hm
 have h4:∀y∈diaNames,y.length≤5:=by decide+kernel
 exact ⟨h3,fun e=>by rw [e]at h1;exact absurd h1 (by decide),h4 x hm⟩
theorem sees_one (k:Nat) (x:List UInt8):(diaSeer k).sees [x]=(diaSeer k).see1 x:=by simp [SeerL.sees]
theorem sees_str {w:World} {sb k:Nat} (h:SeerAt w sb k) (x:List UInt8):
  Calls Tryz.prog 13 #[.pointer (some ⟨sb,0,none⟩),.slice (some ⟨w.heap.size,0,none⟩) 1 1] (w.alloc (.cells #[.string ⟨x.toArray⟩] 9)) fun e w'=>e=.returned (.bool ((diaSeer k).see1 x))∧Below w.heap.size w w':=by
 have hb:=(Below.refl w.heap.size w).alloc (Nat.le_refl _) (.cells #[.string ⟨x.toArray⟩] 9)
 have hR:StrR (w.alloc (.cells #[.string ⟨x.toArray⟩] 9)) (some ⟨w.heap.size,0,none⟩) [x]:=row_new2 w [.string ⟨x.toArray⟩] 9 1 1 w.heap.size rfl rfl (by omega)
 refine (sees_any (cap:=1) (h.below hb) hR (by simp)).mono ?_
 rintro e w' ⟨rfl,hb2⟩
 exact ⟨by rw [sees_one],hb.trans (hb2.mono hb.size)⟩
theorem dia_cell (w:World) {J:Nat} {x:List UInt8} (hx:diaNames[J]? =some x):(w.alloc (.cells #[.string ⟨#[108,111,119]⟩,.string ⟨#[108,101,102,116]⟩,.string ⟨#[114,105,103,104,116]⟩,.string ⟨#[104,105,103,104]⟩] 9)).cell? ⟨w.heap.size,J,none⟩=some (.string ⟨x.toArray⟩):=by
 have hrow:=row_new2 w [.string ⟨#[108,111,119]⟩,.string ⟨#[108,101,102,116]⟩,.string ⟨#[114,105,103,104,116]⟩,.string ⟨#[104,105,103,104]⟩] 9 1 4 w.heap.size rfl rfl (by omega)
 rw [←dia_lits]at hrow
 have cJ:=StrR.at' (l:=diaNames) hrow J x hx
 rw [Nat.zero_add]at cJ
 exact cJ
end Go.Proofs.YtoccgnleiekomaaGreatDoor
namespace Go.Proofs.YtoccgnleiekomaaGreatDoor
set_option linter.unusedVariables false
set_option linter.unusedSimpArgs false
theorem letter_ne {c:UInt8} {d:UInt8} (h:97≤c.toNat∧c.toNat≤122) (hd:d.toNat<97∨122<d.toNat):c≠d:=by
 rintro rfl;omega
theorem letter_last {l:List UInt8} (h:Letters l) (p:UInt8→Bool) (hp:∀c:UInt8,97≤c.toNat∧c.toNat≤122→p c=false):(l.getLast?.any p)=false:=by
 cases hl:l.getLast? with
 |none=>rfl
 |some c=>exact hp c (h c (List.mem_of_getLast? hl))
theorem blank_letter {c:UInt8} (h:97≤c.toNat∧c.toNat≤122):blankB c=false:=by
 unfold blankB
 have a:=letter_ne h (d:=32) (.inl (by decide))
 have b:=letter_ne h (d:=9) (.inl (by decide))
 simp [a,b]
theorem restB_letters {l:List UInt8} (h:Letters l) (z:List UInt8) (h0:l≠[]):restB (l++z)=l++z:=by
 cases l with
 |nil=>exact absurd rfl h0
 |cons c t=>unfold restB;rw [List.cons_append,List.dropWhile_cons_of_neg (by rw [blank_letter h.head];simp)]
theorem head_words (text:List UInt8) (h:Letters text) (h0:text≠[]):headL (35::35::32::(text++[32]))=(2,text,true):=by
 have e1:restB (35::35::32::(text++[32]))=35::35::32::(text++[32]):=rfl
 have e2:restB (32::(text++[32]))=text++[32]:=by
  have:restB (32::(text++[32]))=restB (text++[32]):=rfl
  rw [this,restB_letters h _ h0]
 have e3:rstripL blankB (text++[32])=text:=by
  rw [rstrip_all blankB text [32] (fun c hc=>by rw [List.mem_singleton.1 hc];rfl),rstrip_none blankB text (letter_last h _ fun c hc=>blank_letter hc)]
 have e4:rstripL (fun x=>x==35) text=text:=rstrip_none _ text (letter_last h _ fun c hc=>by simpa using letter_ne hc (d:=35) (.inl (by decide)))
 have e5:rowL (35::35::32::(text++[32])) 35=2:=by unfold rowL;simp
 have e6:mayIn (35::35::32::(text++[32]))=true:=by unfold mayIn indentL;simp [colL]
 unfold headL
 simp only [e1,e5,e6]
 rw [if_neg (by simp [blankB])]
 have e7:List.drop 2 (35::35::32::(text++[32]))=32::(text++[32]):=rfl
 rw [e7]
 unfold trimB
 rw [e2,e3,e4,if_neg]
 rintro (e|e)
 ·exact h0 e
 ·rw [letter_last h _ fun c hc=>blank_letter hc]at e;cases e
theorem under_head (x:List UInt8):underL (35::x)=0:=by
 unfold underL
 have e1:restB (35::x)=35::x:=rfl
 simp only [e1]
 split
 ·rfl
 ·rcases rstrip_head blankB 35 x with e|e
  ·rename_i hn;exact absurd e fun h=>hn (.inr h)
  ·cases hz:rstripL blankB (35::x)with
   |nil=>rw [hz]at e;cases e
   |cons d y=>
    rw [hz]at e
    have:d=35:=by simpa using e
    subst this
    simp
def headDoc (hl:List UInt8):List (List UInt8):=[[97],hl,[98]]
theorem blocks_hidden:blocksL (headDoc [])=[⟨1,0,0,false,[97],[]⟩,⟨1,0,0,false,[98],[]⟩]:=by decide+kernel
theorem blocks_head (text:List UInt8) (h:Letters text) (h0:text≠[]):blocksL (headDoc (35::35::32::(text++[32])))=[⟨1,0,0,false,[97],[]⟩,⟨2,0,2,false,text,[]⟩,⟨1,0,0,false,[98],[]⟩]:=by
 have hw:=head_words text h h0
 have hu:=under_head (35::32::(text++[32]))
 have hb:blankV (35::35::32::(text++[32]))=false:=by unfold blankV;simp [blankB]
 have hi:indentL (35::35::32::(text++[32]))=0:=by unfold indentL;simp [colL]
 have hf:(fenceL (35::35::32::(text++[32]))).2.2.2=false:=by
  unfold fenceL
  have e1:restB (35::35::32::(text++[32]))=35::35::32::(text++[32]):=rfl
  simp [e1]
 obtain ⟨H,hH⟩:∃H,35::35::32::(text++[32])=H:=⟨_,rfl⟩
 rw [hH]at hw hu hb hi hf⊢
 have he:endsP 0 H=true:=by unfold endsP;simp [hw]
 have n1:∀W,nextB W 0 [[97],H,[98]]=([⟨1,0,0,false,[97],[]⟩],1):=by
  intro W
  have a1:blankV [97]=false:=by decide
  have a2:indentL [97]=0:=by decide
  have a3:(fenceL [97]).2.2.2=false:=by decide
  have a4:(headL [97]).2.2=false:=by decide
  have a5:ruleL [97]=false:=by decide
  have a6:quotesP 0 [97]=false:=by decide
  have a7:listsP 0 [97]=false:=by decide
  have a8:htmlL [97]=false:=by decide
  have a9:restB [97]=[97]:=by decide
  have a10:rstripL blankB [97]=[97]:=by decide
  unfold nextB
  simp [lineAt,a1,a2,a3,a4,a5,a6,a7,a8,paraGo,a9,hu,he,joinLf,a10]
 have n2:∀W,nextB W 0 [H,[98]]=([⟨2,0,2,false,text,[]⟩],1):=by
  intro W
  unfold nextB
  simp [lineAt,hb,hi,hf,hw]
 have n3:∀W,nextB W 0 [[98]]=([⟨1,0,0,false,[98],[]⟩],1):=by
  intro W
  have a1:blankV [98]=false:=by decide
  have a2:indentL [98]=0:=by decide
  have a3:(fenceL [98]).2.2.2=false:=by decide
  have a4:(headL [98]).2.2=false:=by decide
  have a5:ruleL [98]=false:=by decide
  have a6:quotesP 0 [98]=false:=by decide
  have a7:listsP 0 [98]=false:=by decide
  have a8:htmlL [98]=false:=by decide
  have a9:restB [98]=[98]:=by decide
  have a10:rstripL blankB [98]=[98]:=by decide
  unfold nextB
  simp [lineAt,a1,a2,a3,a4,a5,a6,a7,a8,paraGo,a9,joinLf,a10]
 unfold blocksL headDoc
 rw [blocksK]
 simp [allGoB,n1,n2,n3]
theorem last2_no (a b:UInt8):∀(x:List UInt8),a∉x→last2 a b x=none
 |[],_=>rfl
 |c::t,hx=>by
  have hc:c≠a:=fun e=>hx (by rw [e];exact List.mem_cons_self ..)
  rw [last2,last2_no a b t (fun e=>hx (List.mem_cons_of_mem _ e))]
  simp [hc]
theorem last2_app (a b:UInt8) (y:List UInt8) (h:a∉b::y):∀(x:List UInt8),last2 a b (x++a::b::y)=some x.length
 |[]=>by
  rw [List.nil_append,last2,last2_no a b _ h]
  simp
 |c::x=>by
  rw [List.cons_append,last2,last2_app a b y h x]
  simp
theorem label_letters {l:List UInt8} (h:Letters l) (h0:l≠[]) (hl:l.length≤40):labelL l=true:=by
 unfold labelL
 have h1:(l.all fun c=> !([123,125,124,58,32,9].contains c))=true:=by
  rw [List.all_eq_true]
  intro c hc
  have a:=h c hc
  have b1:=letter_ne a (d:=123) (.inr (by decide))
  have b2:=letter_ne a (d:=125) (.inr (by decide))
  have b3:=letter_ne a (d:=124) (.inr (by decide))
  have b4:=letter_ne a (d:=58) (.inl (by decide))
  have b5:=letter_ne a (d:=32) (.inl (by decide))
  have b6:=letter_ne a (d:=9) (.inl (by decide))
  simp [b1,b2,b3,b4,b5,b6]
 rw [h1]
 simp [h0,hl]
def headLine (text label:List UInt8):List UInt8:=35::35::32::(text++32::123::61::(label++[125]))
theorem heading_line (text label:List UInt8) (ht:Letters text) (hl:Letters label) (h0:label≠[]) (hz:label.length≤40):
  headingL (headLine text label)=(35::35::32::(text++[32]),label,true):=by
 have e0:headLine text label=((35::35::32::(text++[32]))++123::61::label)++[125]:=by unfold headLine;simp
 have e1:rtrimS (headLine text label)=headLine text label:=by
  unfold rtrimS
  refine rstrip_none _ _ ?_
  rw [e0,List.getLast?_concat]
  rfl
 have h123:(123:UInt8)∉(61:UInt8)::label:=by
  intro e
  rcases List.mem_cons.1 e with e|e
  ·exact absurd e (by decide)
  ·have:=hl _ e;exact absurd this.2 (by decide)
 unfold headingL
 simp only [e1]
 rw [e0]
 have e2:(((35::35::32::(text++[32]))++123::61::label)++[125]).getLast? =some 125:=List.getLast?_concat
 have e3:(((35::35::32::(text++[32]))++123::61::label)++[125]).dropLast=(35::35::32::(text++[32]))++123::61::label:=by rw [List.dropLast_concat]
 rw [e2,if_neg (by simp),e3,last2_app 123 61 label h123]
 simp only
 have e4:List.drop ((35::35::32::(text++[32])).length+2) ((35::35::32::(text++[32]))++123::61::label)=label:=by
  rw [List.drop_append]
  simp
 have e5:List.take (35::35::32::(text++[32])).length ((35::35::32::(text++[32]))++123::61::label)=35::35::32::(text++[32]):=by
  rw [List.take_left]
 rw [e4,e5,label_letters hl h0 hz,if_neg (by simp)]
 have e6:List.dropWhile (fun x=>x==(32:UInt8)) (35::35::32::(text++[32]))=35::35::32::(text++[32]):=by simp
 have e7:List.dropWhile (fun x=>x==(35:UInt8)) (35::35::32::(text++[32]))=32::(text++[32]):=by simp
 rw [e6,e7,if_neg]
 simp
def headsDoc (text label:List UInt8):List UInt8:=joinL [[97],headLine text label,[98]]
theorem ok_letters {l:List UInt8} (h:Letters l):∀c∈l,okB c=true:=fun c hc=>by
 have a:=h c hc
 have b1:=letter_ne a (d:=0) (.inl (by decide))
 have b2:=letter_ne a (d:=13) (.inl (by decide))
 unfold okB
 simp [b1,b2]
 omega
theorem headsDoc_lines (text label:List UInt8) (ht:Letters text) (hl:Letters label):linesL (repairL (headsDoc text label))=[[97],headLine text label,[98]]:=by
 have h1:=ok_letters ht
 have h2:=ok_letters hl
 have a1:okB 97=true:=by decide
 have a2:okB 10=true:=by decide
 have a3:okB 35=true:=by decide
 have a4:okB 32=true:=by decide
 have a5:okB 123=true:=by decide
 have a6:okB 61=true:=by decide
 have a7:okB 125=true:=by decide
 have a8:okB 98=true:=by decide
 rw [repair_plain]
 ·unfold headsDoc
  refine lines_join _ fun x hx=>?_
  have n1:=ht.not_mem (c:=10) (by decide)
  have n2:=hl.not_mem (c:=10) (by decide)
  simp only [List.mem_cons,List.not_mem_nil,or_false]at hx
  rcases hx with rfl|rfl|rfl
  ·decide
  ·unfold headLine
   simp [n1,n2]
  ·decide
 ·intro c hc
  unfold headsDoc joinL headLine at hc
  simp only [List.flatMap_cons,List.flatMap_nil,List.append_nil,List.mem_append,List.mem_cons,List.not_mem_nil,or_false]at hc
  rcases hc with (rfl|rfl)|(((rfl|rfl|rfl|hc|rfl|rfl|rfl|hc|rfl)|rfl)|(rfl|rfl))<;>first|assumption|exact h1 _ hc|exact h2 _ hc
theorem line_a (b:List AtomT) (x:UInt8) (hx:x=97∨x=98) (hr:restoreL [x] b=[x]) (f:Nat) (st:VwSt) (hb:st.atoms=b):paraV (f+1) st [x]=([x],st):=by
 have hc:(cutAt 10 [x]).1=[x]:=by rcases hx with rfl|rfl<;>decide
 have hl:(lineL [x]).2=false:=by rcases hx with rfl|rfl<;>decide
 rw [paraV,if_neg (by simp)]
 simp only [hc,hb,hr,hl]
 rfl
theorem heads_law (z:SeerL) (text label:List UInt8) (ht:Letters text) (hl:Letters label) (h0:label≠[]) (hz:label.length≤40) (ht0:text≠[]) (hk:z.unk label=false)
  (hr:∀x:UInt8,x=97∨x=98→restoreL [x] []=[x]):
  buildL z (headsDoc text label)=if z.see1 label=true then ⟨[⟨1,0,0,false,[97],[]⟩,⟨2,0,2,false,text,[]⟩,⟨1,0,0,false,[98],[]⟩],[],[],[],[]⟩else ⟨[⟨1,0,0,false,[97],[]⟩,⟨1,0,0,false,[98],[]⟩],[],[],[],[]⟩:=by
 unfold buildL
 rw [headsDoc_lines text label ht hl,frame_plain]
 ·have l1:∀b,lineV z b [97] []=([97],b):=fun b=>line_plain z b [97] [] (by decide)
  have l3:∀b,lineV z b [98] []=([98],b):=fun b=>line_plain z b [98] [] (by decide)
  have p1:∀f st,st.atoms=[]→paraV (f+1) st [97]=([97],st):=fun f st h=>line_a [] 97 (.inl rfl) (hr _ (.inl rfl)) f st h
  have p3:∀f st,st.atoms=[]→paraV (f+1) st [98]=([98],st):=fun f st h=>line_a [] 98 (.inr rfl) (hr _ (.inr rfl)) f st h
  have hh:=heading_line text label ht hl h0 hz
  have n123:(123:UInt8)∉35::35::32::(text++[32]):=by
   have n1:(123:UInt8)∉text:=fun e=>by have:=ht _ e;exact absurd this.2 (by decide)
   simp [n1]
  by_cases hs:z.see1 label=true
  ·rw [if_pos hs]
   have l2:lineV z VwSt.none (headLine text label) []=(35::35::32::(text++[32]),VwSt.none):=by
    unfold lineV
    rw [hh]
    simp only
    rw [if_pos trivial,if_pos (by simp [SeerL.sees,hs]),spans_none _ n123,if_neg (by simp)]
    simp [pieceV,VwSt.label,hk]
   unfold VwSt.none at l2
   have hb:=blocks_head text ht ht0
   unfold headDoc at hb
   simp [partV,runV,linesV,l1,l2,l3,hb,tidyV,tidyStep,VwSt.none,p1,p3]
  ·rw [if_neg hs]
   have l2:lineV z VwSt.none (headLine text label) []=([],VwSt.none):=by
    unfold lineV
    rw [hh]
    simp only
    rw [if_pos trivial,if_neg (by simp [SeerL.sees,hs])]
   unfold VwSt.none at l2
   have hb:=blocks_hidden
   unfold headDoc at hb
   simp [partV,runV,linesV,l1,l2,l3,hb,tidyV,tidyStep,VwSt.none,p1,p3]
 ·intro y hy
  unfold noDiv
  rw [opens_head y (by simp only [List.mem_cons,List.not_mem_nil,or_false]at hy;rcases hy with rfl|rfl|rfl<;>simp [headLine])]
  rfl
end Go.Proofs.YtoccgnleiekomaaGreatDoor
