import Derived.Test.YtcannffahjbjnaaGreatDoorVwBC
import Derived.Test.YtcannffahjbjnaaGreatDoorVwBY
set_option linter.unusedVariables false
set_option linter.unusedSimpArgs false
set_option maxRecDepth 100000
set_option maxHeartbeats 64000000
namespace Go.Proofs.YtcannffahjbjnaaGreatDoor
open Go.RowKit
theorem rN:∀(l:List (List UInt8)) (i:Nat) (y:List UInt8),l[i]? =some y ->(∀j:Nat,j<i ->l[j]? ≠some y) ->l.idxOf y=i
 |[],i,y,h,_=>by simp at h
 |z::l,0,y,h,_=>by
  obtain rfl:z=y:=(by simpa using h);simp [List.idxOf_cons]
 |z::l,i+1,y,h,hn=>by
  have hz:(z==y)=false:=by
   have:=hn 0 (by omega);simpa using this
  rw [List.idxOf_cons,hz,rN l i y (by simpa using h) (fun j hj=>by have:=hn (j+1) (by omega);simpa using this)];rfl
theorem E7 (k:Int):∃K:Nat,K<4∧(wrap64 (k.tmod 4+4)).tmod 4=(K:Int):=by
 have h1:=Int.lt_tmod_of_pos k (show (0:Int)<4 by decide);have h2:=Int.tmod_lt_of_pos k (show (0:Int)<4 by decide);obtain ⟨r,hr⟩:∃r,k.tmod 4=r:=⟨_,rfl⟩
 rw [hr]at h1 h2⊢;have:r= -3∨r= -2∨r= -1∨r=0∨r=1∨r=2∨r=3:=(by omega);rcases this with rfl|rfl|rfl|rfl|rfl|rfl|rfl
 ·exact ⟨1,by decide,by decide+kernel⟩
 ·exact ⟨2,by decide,by decide+kernel⟩
 ·exact ⟨3,by decide,by decide+kernel⟩
 ·exact ⟨0,by decide,by decide+kernel⟩
 ·exact ⟨1,by decide,by decide+kernel⟩
 ·exact ⟨2,by decide,by decide+kernel⟩
 ·exact ⟨3,by decide,by decide+kernel⟩
theorem Eb:aK=[[108,111,119],[108,101,102,116],[114,105,103,104,116],[104,105,103,104]]:=by decide+kernel
theorem Bh:aK.map fV=[.string ⟨#[108,111,119]⟩,.string ⟨#[108,101,102,116]⟩,.string ⟨#[114,105,103,104,116]⟩,.string ⟨#[104,105,103,104]⟩]:=by rw [Eb];rfl
theorem Ct (w:World) (xs:List Value) (T:TypeId) (size m b:Nat) (hb:b=w.heap.size) (hl:xs.length=m*size) (hm:0<m):aY (w.alloc (.cells xs.toArray T)) size (some ⟨b,0,none⟩) m xs:=
 ⟨hl,fun h=>(by cases h),fun ad had=>by
  obtain rfl:=Option.some.inj had;exact ⟨rfl,aL w xs T b hb⟩⟩
theorem z6 {w:World} {ao:Option Addr} {cap:Nat} {l:List (List UInt8)} (x:List UInt8) (hR:bO w ao l) (hl:l.length <= 1000):
  Calls Tryz.prog 47 #[.slice ao l.length cap,.string ⟨x.toArray⟩] w fun e w'=>e=.returned (.int .i64 (jE l x))∧Below w.heap.size w w':=by
 have HR:=zh hR;clear hR;go_enter Tryz.func47,Tryz.ntmps47
 go_wp2_with fail;go_loopw [5] (fun u5 wr=>∃i:Nat,u5=.int .i64 (i:Int)∧i <= l.length∧Below w.heap.size w wr∧Hid (∀j:Nat,j<i ->l[j]? ≠some x)) (fun u5 _=>l.length - (intOf u5).toNat)
 case atStart=>exact ⟨0,by go_num,Nat.zero_le _,Below.refl _ _,zh (fun j hj=>absurd hj (by omega))⟩
 case round=>
  obtain ⟨i,rfl,hi,hb,HN⟩:=hrel;have HB:=zh hb;by_cases hlt:i<l.length
  ·obtain ⟨y,hy⟩:∃y,l[i]? =some y:=⟨_,List.getElem?_eq_getElem hlt⟩
   obtain ⟨g,o,rfl⟩:=bO.addr HR.out (by omega);have hc:=(HR.out.below hb).at' i y hy;clear hb;by_cases hq:y=x
   ·subst hq;have HV:=zh (show jE l y=(i:Int)from by
     unfold jE;rw [if_pos (by simpa using List.mem_of_getElem? hy)];rw [rN l i y hy HN.out])
    clear hy;go_wp2_with fail;go_ret;exact ⟨by rw [HV.out];rfl,HB.out⟩
   ·have HN2:=zh (show∀j:Nat,j<i+1 ->l[j]? ≠some x from fun j hj he=>by
     rcases Nat.lt_succ_iff_lt_or_eq.1 hj with h|h
     ·exact HN.out j h he
     ·subst h;rw [hy]at he;exact hq (Option.some.inj he))
    have hq2:(y==x)=false:=(by simpa using hq);clear hy;go_wp2_with fail;go_roundw;case rel=>exact ⟨i+1,by go_num,by omega,HB.out,HN2⟩
    case measure=>simp [intOf];omega
  ·clear hb;have HV:=zh (show jE l x= -1 from by
    unfold jE;rw [if_neg];intro hc;obtain ⟨j,hj⟩:=List.mem_iff_getElem?.1 (show x∈l by simpa using hc);exact HN.out j (by have:=(List.getElem?_eq_some_iff.1 hj).1;omega) hj)
   go_wp2_with fail;go_ret;exact ⟨by rw [HV.out];rfl,HB.out⟩
theorem uT {w:World} {gn g ncap cp k:Nat} {x:List UInt8} (hR:bO w (some ⟨gn,0,none⟩) aK) (hp:fM w (some ⟨g,0,none⟩) 4 P4) (hk:k<4) (hx:aK[k]? =some x):
  Calls Tryz.prog 15 #[.slice (some ⟨gn,0,none⟩) 4 ncap,.slice (some ⟨g,0,none⟩) 4 cp,.string ⟨x.toArray⟩] w fun e w'=>∃v,e=.returned (.tuple #[v,.int .i64 0])∧Below w.heap.size w w':=by
 have HO:=zh (xd 4 P4 (some ⟨g,0,none⟩) 4 cp w (by omega) (by omega) (by omega) hp);have HA:=zh (fun W (hW:bO W (some ⟨gn,0,none⟩) aK)=>z6 (cap:=ncap) x hW (by decide));rw [show aK.length=4 from rfl,wv k x hx]at HA;have HR:=zh hR;have hk0:¬(k:Int)<0:=(by omega);clear hR hp hx;go_enter Tryz.func15,Tryz.ntmps15
 go_wp2_with fail;refine HO.out.mono ?_;rintro e w2 ⟨hb2,hpost⟩;rcases hpost with ⟨h1,_⟩|⟨_,h1,_⟩|⟨_,_,ob,rfl,hor⟩
 ·exact absurd AN h1
 ·exact absurd ((zq (by omega) AN).2 pl) h1
 have HB2:=zh hb2;have HA2:=zh (HA.out w2 (HR.out.below hb2));have HOR:=zh hor;clear hb2 hor HO HA;go_wp2_with fail;refine HA2.out.mono ?_;rintro e w3 ⟨rfl,hb3⟩;have HB3:=zh (aa HB2.out hb3);clear hb3;go_wp2_with fail
 go_ret2
 exact ⟨_,rfl,HB3.out.alloc HB3.out.size _⟩
theorem tW (w:World):Calls Tryz.prog 13 #[] w fun e w'=>∃gn g,e=.returned (.agg #[.slice (some ⟨gn,0,none⟩) 4 4,.slice (some ⟨g,0,none⟩) 4 4])∧bO w' (some ⟨gn,0,none⟩) aK∧fM w' (some ⟨g,0,none⟩) 4 P4∧Below w.heap.size w w':=by
 go_enter Tryz.func13,Tryz.ntmps13
 go_wp2_with fail;refine bodyPost_ret (v:=.agg #[.slice (some ⟨w.heap.size+1,0,none⟩) 4 4,.slice (some ⟨w.heap.size+1+1,0,none⟩) 4 4]) (by simp [results,Tryz.results13,go_sem]) rfl ⟨w.heap.size+1,w.heap.size+1+1,rfl,?_,?_,?_⟩
 ·have h1:=Ct (w.alloc (.cells #[.slice (some ⟨w.heap.size+1,0,none⟩) 4 4,.slice (some ⟨w.heap.size+1+1,0,none⟩) 4 4] 50)) [.string ⟨#[108,111,119]⟩,.string ⟨#[108,101,102,116]⟩,.string ⟨#[114,105,103,104,116]⟩,.string ⟨#[104,105,103,104]⟩] 9 1 4 (w.heap.size+1) (by simp) rfl (by omega);have h2:=aY.below h1 ((Below.refl _ _).alloc (Nat.le_refl _) (.cells #[.int .i64 0,.int .i64 1,.int .i64 0,.int .i64 2,.int .i64 1,.int .i64 3,.int .i64 2,.int .i64 3] 93));unfold bO;rw [Bh];exact h2
 ·have hc:∀j u,([.int .i64 0,.int .i64 1,.int .i64 0,.int .i64 2,.int .i64 1,.int .i64 3,.int .i64 2,.int .i64 3]:List Value)[j]? =some u ->(((w.alloc (.cells #[.slice (some ⟨w.heap.size+1,0,none⟩) 4 4,.slice (some ⟨w.heap.size+1+1,0,none⟩) 4 4] 50)).alloc (.cells #[.string ⟨#[108,111,119]⟩,.string ⟨#[108,101,102,116]⟩,.string ⟨#[114,105,103,104,116]⟩,.string ⟨#[104,105,103,104]⟩] 9)).alloc (.cells #[.int .i64 0,.int .i64 1,.int .i64 0,.int .i64 2,.int .i64 1,.int .i64 3,.int .i64 2,.int .i64 3] 93)).cell? ⟨w.heap.size+1+1,j,none⟩=some u:=fun j u h=>by
   have:=aL ((w.alloc (.cells #[.slice (some ⟨w.heap.size+1,0,none⟩) 4 4,.slice (some ⟨w.heap.size+1+1,0,none⟩) 4 4] 50)).alloc (.cells #[.string ⟨#[108,111,119]⟩,.string ⟨#[108,101,102,116]⟩,.string ⟨#[114,105,103,104,116]⟩,.string ⟨#[104,105,103,104]⟩] 9)) _ 93 (w.heap.size+1+1) (by simp) j u h;rw [gb _ rfl,Nat.zero_add]at this;exact this
  refine ⟨w.heap.size+1+1,0,fun _=>rfl,fun _=>by simp,fun i hi=>?_⟩;have:i=0∨i=1∨i=2∨i=3:=(by omega);rcases this with rfl|rfl|rfl|rfl
  ·exact ⟨hc 0 _ rfl,hc 1 _ rfl⟩
  ·exact ⟨hc 2 _ rfl,hc 3 _ rfl⟩
  ·exact ⟨hc 4 _ rfl,hc 5 _ rfl⟩
  ·exact ⟨hc 6 _ rfl,hc 7 _ rfl⟩
 ·exact (((Below.refl _ _).alloc (Nat.le_refl _) _).alloc (by simp) _).alloc (by simp;omega) _
theorem DY (k:Int) (K:Nat) (hK:K<4) (hk:(wrap64 (k.tmod 4+4)).tmod 4=(K:Int)) (w:World):Calls Tryz.prog 6 #[.int .i64 k] w fun e w'=>∃sb v,e=.returned (.tuple #[.pointer (some ⟨sb,0,none⟩),v])∧ig w' sb K∧Below w.heap.size w w':=by
 go_enter Tryz.func6,Tryz.ntmps6
 go_wp2_with fail;refine (tW _).mono ?_;rintro e w2 ⟨gn,g,rfl,hr,hp,hb⟩;obtain ⟨x,hx⟩:∃x,aK[K]? =some x:=⟨_,List.getElem?_eq_getElem (by show K<4;exact hK)⟩
 have hba:=(Below.refl w2.heap.size w2).alloc (Nat.le_refl _) (.cells #[.slice (some ⟨gn,0,none⟩) 4 4,.slice (some ⟨g,0,none⟩) 4 4] 50);have hpx:=heap_alloc_new w2 (.cells #[.slice (some ⟨gn,0,none⟩) 4 4,.slice (some ⟨g,0,none⟩) 4 4] 50);have hrA:=hr.below hba;have hpA:=ez hba hp;have HB:=zh (hb.trans (hba.mono hb.size));go_upto_region 2 with (fail)
 generalize w2.alloc (.cells #[.slice (some ⟨gn,0,none⟩) 4 4,.slice (some ⟨g,0,none⟩) 4 4] 50)=W at hpx hrA hpA HB⊢;have cx:=hrA.at' K x hx;rw [Nat.zero_add]at cx;have c0:W.cell? ⟨w2.heap.size,0,none⟩=some (.slice (some ⟨gn,0,none⟩) 4 4):=(by rw [cell_of_row W _ _ _ _ _ hpx];rfl);have c1:W.cell? ⟨w2.heap.size,1,none⟩=some (.slice (some ⟨g,0,none⟩) 4 4):=(by rw [cell_of_row W _ _ _ _ _ hpx];rfl);have HN:=zh (BW (ncap:=4) (cp:=4) hrA hpA hK hx);have HPX:=zh hpx;have HR:=zh hrA;have HP:=zh hpA;have HX:=zh hx;have hKi:(K:Int)<4:=(by omega);have hKn:(0:Int) <= (K:Int):=(by omega);obtain ⟨pb,hpb⟩:∃n,w2.heap.size=n:=⟨_,rfl⟩
 rw [hpb]at c0 c1 HPX⊢;clear hr hp hb hba hpx hrA hpA hx hpb;go_wp2_with fail;refine HN.out.mono ?_;rintro e w3 ⟨sb,rfl,hse,hb3⟩;have HB3:=zh (aa HB.out hb3);have HSE:=zh hse;have hpx3:=(hb3.block pb (Array.getElem?_eq_some_iff.1 HPX.out).1).trans HPX.out;have HRD:=zh (uT (ncap:=4) (cp:=4) (HR.out.below hb3) (ez hb3 HP.out) hK HX.out);clear c0 c1 cx hse hb3;have c0:w3.cell? ⟨pb,0,none⟩=some (.slice (some ⟨gn,0,none⟩) 4 4):=(by rw [cell_of_row w3 pb _ _ _ _ hpx3];rfl);have c1:w3.cell? ⟨pb,1,none⟩=some (.slice (some ⟨g,0,none⟩) 4 4):=(by rw [cell_of_row w3 pb _ _ _ _ hpx3];rfl);clear hpx3;go_wp2_with fail;refine HRD.out.mono ?_;rintro e w4 ⟨v,rfl,hb4⟩;have HB4:=zh (aa HB3.out hb4);have HSE4:=zh (HSE.out.below hb4);clear hb4 c0 c1;go_wp2_with fail
 go_ret2
 exact ⟨sb,v,rfl,HSE4.out,HB4.out⟩
theorem DO (k:Int) (w:World):Calls Tryz.prog 6 #[.int .i64 k] w fun e w'=>∃sb v K,e=.returned (.tuple #[.pointer (some ⟨sb,0,none⟩),v])∧ig w' sb K∧Below w.heap.size w w':=by
 obtain ⟨K,hK,hk⟩:=E7 k;refine (DY k K hK hk w).mono ?_;rintro e w2 ⟨sb,v,h1,h2,h3⟩;exact ⟨sb,v,K,h1,h2,h3⟩
structure C7 (w:World) (st:am) (o0 o1 o2 o3:Option Addr) (c0 c1 c2 c3:Nat):Prop where
 bl:aY w 6 o0 st.blocks.length (st.blocks.flatMap bS)
 at':aY w 2 o1 st.atoms.length (st.atoms.flatMap fe)
 df:aY w 5 o2 st.defs.length (ce st.defs)
 dg:aY w 2 o3 st.diags.length (st.diags.flatMap fH)
theorem C7.below {w w':World} {st:am} {o0 o1 o2 o3:Option Addr} {c0 c1 c2 c3:Nat} (h:C7 w st o0 o1 o2 o3 c0 c1 c2 c3) (hb:Below w.heap.size w w'):C7 w' st o0 o1 o2 o3 c0 c1 c2 c3:=
 ⟨aY.below h.bl hb,aY.below h.at' hb,aY.below h.df hb,aY.below h.dg hb⟩
theorem qP {w:World} {sb k:Nat} (hS:ig w sb k) (hE:qY w) (doc:ByteArray) (hd:doc.size <= 6000) (st:am) (hst:fG (dA k) doc.data.toList=st):
  Calls Tryz.prog 7 #[.pointer (some ⟨sb,0,none⟩),.string doc] w fun e w'=>∃o0 o1 o2 o3 c0 c1 c2 c3,e=.returned (.agg #[.slice o0 st.blocks.length c0,.slice o1 st.atoms.length c1,.slice o2 st.defs.length c2,.slice o3 st.diags.length c3])∧C7 w' st o0 o1 o2 o3 c0 c1 c2 c3∧Below w.heap.size w w':=by
 refine (yV (jL.of hS) (jI.of hE) doc hd).mono ?_;rintro e w' ⟨b,V,rfl,h,hb⟩;rw [hst]at h;obtain ⟨o0,c0,e0,r0,_⟩:=ab h.bl;obtain ⟨o1,c1,e1,r1,_⟩:=ab h.at';obtain ⟨o2,c2,e2,r2,_⟩:=ab h.df;obtain ⟨o3,c3,e3,r3,_⟩:=ab h.dg;exact ⟨o0,o1,o2,o3,c0,c1,c2,c3,by rw [e0,e1,e2,e3],⟨r0,r1,r2,r3⟩,hb⟩
def tL:ByteArray:=⟨#[97,32,123,124,104,105,103,104,58,32,98,124,125,123,124,108,101,102,116,58,99,124,125,10,10,91,120,93,58,32,47,121,10,58,58,58,123,114,105,103,104,116,125,10,104,105,100,100,101,110,10,58,58,58,10]⟩
def sQ:am:=⟨[⟨1,0,0,false,[97,32,0,48,0],[]⟩],[⟨[108,101,102,116],[99]⟩],[⟨[120],[47,121],[],[],false⟩],[],[⟨[120],[47,121],[],[],false⟩]⟩
theorem Es {a b:am} (h1:a.blocks=b.blocks) (h2:a.atoms=b.atoms) (h3:a.defs=b.defs) (h4:a.diags=b.diags) (h5:a.tab=b.tab):a=b:=by
 obtain ⟨a1,a2,a3,a4,a5⟩:=a;obtain ⟨b1,b2,b3,b4,b5⟩:=b;simp only at h1 h2 h3 h4 h5;rw [h1,h2,h3,h4,h5]
theorem AV:fG (dA 1) tL.data.toList=sQ:=Es (by decide+kernel) (by decide+kernel) (by decide+kernel) (by decide+kernel) (by decide+kernel)
theorem oy (w:World) (hE:qY w):Calls Tryz.prog 5 #[] w fun e w'=>e=.returned (.bool true)∧Below w.heap.size w w':=by
 have HE:=zh hE;clear hE;go_enter Tryz.func5,Tryz.ntmps5
 go_wp2_with fail;refine (DY 1 1 (by decide) (by decide+kernel) _).mono ?_;rintro e w2 ⟨sb,v,rfl,hse,hb2⟩;have HB2:=zh hb2;have HV:=zh (qP hse (HE.out.below hb2) tL (by decide) sQ AV);clear hse hb2;go_wp2_with fail;refine HV.out.mono ?_;rintro e w3 ⟨o0,o1,o2,o3,c0,c1,c2,c3,rfl,hv,hb3⟩;simp only [sQ,List.length_cons,List.length_nil]at hv⊢;have HB3:=zh (aa HB2.out hb3);obtain ⟨g0,i0,rfl⟩:=aY.addr hv.bl (by decide);obtain ⟨g1,i1,rfl⟩:=aY.addr hv.at' (by decide);obtain ⟨g2,i2,rfl⟩:=aY.addr hv.df (by decide);have hbA:=(Below.refl w3.heap.size w3).alloc (Nat.le_refl _) (.cells #[.slice (some ⟨g0,i0,none⟩) 1 c0,.slice (some ⟨g1,i1,none⟩) 1 c1,.slice (some ⟨g2,i2,none⟩) 1 c2,.slice o3 0 c3] 33);have hvA:=hv.below hbA;obtain ⟨_,_,_,_,p4,_⟩:=aY.blk hvA.bl 0 _ rfl;obtain ⟨_,q1⟩:=aY.atm hvA.at' 0 _ rfl;obtain ⟨_,r1,_⟩:=aY.dfn hvA.df 0 _ rfl;have HB4:=zh (HB3.out.alloc HB3.out.size (.cells #[.slice (some ⟨g0,i0,none⟩) 1 c0,.slice (some ⟨g1,i1,none⟩) 1 c1,.slice (some ⟨g2,i2,none⟩) 1 c2,.slice o3 0 c3] 33));simp only [Nat.zero_mul,Nat.add_zero]at p4 q1 r1;clear hv hb3 hbA hvA;go_wp2_with fail;go_ret;exact ⟨rfl,HB4.out⟩
end Go.Proofs.YtcannffahjbjnaaGreatDoor
