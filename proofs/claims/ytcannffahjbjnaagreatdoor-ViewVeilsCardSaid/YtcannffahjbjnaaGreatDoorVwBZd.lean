import Derived.Test.YtcannffahjbjnaaGreatDoorVwBZc
set_option linter.unusedVariables false
set_option linter.unusedSimpArgs false
set_option maxRecDepth 100000
set_option maxHeartbeats 64000000
namespace Go.Proofs.YtcannffahjbjnaaGreatDoor
open Go.RowKit
theorem xo (v0 v1 v2 v4:Value) (w:World):Calls Tryz.prog 110 #[.agg #[v0,v1,v2,.bool true,v4]] w fun e w'=>e=.returned (.bool false)∧Below w.heap.size w w':=by
 have HB:=zh ((Below.refl w.heap.size w).alloc (Nat.le_refl _) (.cells #[v0,v1,v2,.bool true,v4] 65));go_enter Tryz.func110,Tryz.ntmps110
 go_wp2_with fail;go_ret;exact ⟨rfl,HB.out⟩
theorem Dv {w:World} {g o cp:Nat} {l:List aW} (hR:aY w 5 (some ⟨g,o,none⟩) l.length (l.flatMap aq)) (hl:∀x∈l,x.1.opn=true) (hn:l.length <= 1000000):
  Calls Tryz.prog 142 #[.slice (some ⟨g,o,none⟩) l.length cp,.func (.func 110) #[] #[]] w fun e w'=>e=.returned (.int .i64 (-1))∧Below w.heap.size w w':=by
 have HL:=zh hl;have HR:=zh hR;clear hl hR;go_enter Tryz.func142,Tryz.ntmps142
 go_wp2_with fail;go_loopw [8] (fun u8 wr=>∃i:Nat,u8=.int .i64 (i:Int)∧i <= l.length∧Below w.heap.size w wr) (fun u8 _=>l.length - (intOf u8).toNat)
 case atStart=>exact ⟨0,by go_num,Nat.zero_le _,Below.refl _ _⟩
 case round=>
  obtain ⟨i,rfl,hi,hb⟩:=hrel;have HB:=zh hb;by_cases hlt:i<l.length
  ·obtain ⟨x,hx⟩:=bG l i hlt;obtain ⟨k0,k1,k2,k3,k4⟩:=(aY.below HR.out hb).part i x hx;rw [HL.out x (List.mem_of_getElem? hx)]at k3;have HP:=zh (xo (.int .i64 (x.1.depth:Int)) (.bool x.1.div) (.string ⟨x.1.label.toArray⟩) x.2 wr);clear hx hb;go_wp2_with fail;refine HP.out.mono ?_;rintro e w2 ⟨rfl,hb2⟩;have HB2:=zh (aa HB.out hb2);clear hb2;go_wp2_with fail;go_roundw;case rel=>exact ⟨i+1,by go_num,by omega,HB2.out⟩
   case measure=>simp [intOf];omega
  ·clear hb;go_wp2_with fail;go_ret;exact ⟨rfl,HB.out⟩
theorem Be {w:World} {g o cp:Nat} {l:List aW} (hR:aY w 5 (some ⟨g,o,none⟩) l.length (l.flatMap aq)) (hl:∀x∈l,x.1.opn=true) (hn:l.length <= 1000000):
  Calls Tryz.prog 109 #[.slice (some ⟨g,o,none⟩) l.length cp,.func (.func 110) #[] #[]] w fun e w'=>e=.returned (.bool false)∧Below w.heap.size w w':=by
 have HI:=zh (Dv (cp:=cp) hR hl hn);clear hR hl;go_enter Tryz.func109,Tryz.ntmps109
 go_wp2_with fail;refine HI.out.mono ?_;rintro e w2 ⟨rfl,hb⟩;have HB:=zh hb;clear hb;go_wp2_with fail;go_ret;exact ⟨rfl,HB.out⟩
structure ra (ps:List af) (i most least:Nat) (inn:List aW):Prop where
 mo:(lJ ps i).1.length=most
 le:opens (lJ ps i).1=least
 fl:(inn.map (·.1.opn)).take most=(lJ ps i).1
 ml:most <= inn.length
 il:inn.length <= i
theorem ra.start (ps:List af):ra ps 0 0 0 []:=⟨rfl,rfl,rfl,Nat.le_refl _,Nat.le_refl _⟩
theorem ra.now {ps:List af} {i most least:Nat} {inn:List aW} (h:ra ps i most least inn) (hW:lN [] false ps) {x:af} (hx:ps[i]? =some x) (xv:Value):x.depth <= most∧least <= x.depth∧x.depth <= inn.length∧ra ps (i+1) (x.depth+if x.div=true then 1 else 0) (if x.div=true∧x.opn=true then x.depth+1 else least) (inn.take x.depth++[(x,xv)])∧
  (x.opn=true ->∀y∈inn.take x.depth++[(x,xv)],y.1.opn=true):=by
 obtain ⟨h1,h2⟩:=vD hW hx;have ho:=DF hW i;obtain ⟨q1,q2,q3,q4,q5⟩:=h;have hd:x.depth <= most:=(by rw [<- q1];exact h1.1);have hle:=uM h1 ho;have hnx:=wZ h1 ho;have hdn:=pW h1;have hlen:(inn.take x.depth++[(x,xv)]).length=x.depth+1:=(by rw [List.length_append,List.length_take];simp;omega);have htk:((inn.take x.depth).map (·.1.opn))=(lJ ps i).1.take x.depth:=by
  rw [<- q3,List.take_take,Nat.min_eq_left hd,List.map_take]
 refine ⟨hd,by omega,by omega,⟨by rw [h2,hdn],by rw [h2,hnx,q2],?_,by rw [hlen];split<;>omega,by rw [hlen];omega⟩,fun hop y hy=>?_⟩
 ·rw [h2,List.map_append,htk];unfold aA;have hl2:((lJ ps i).1.take x.depth).length=x.depth:=(by rw [List.length_take];omega);by_cases hdv:x.div=true
  ·rw [if_pos hdv,if_pos hdv];rw [List.take_of_length_le (by rw [List.length_append,hl2];simp)];rfl
  ·rw [if_neg hdv,if_neg hdv,Nat.add_zero];rw [List.take_append_of_le_length (by omega),List.take_of_length_le (by omega)]
 ·have h3:=h1.2.2;have hdv:x.div=true:=by
   by_cases hdv:x.div=true
   ·exact hdv
   ·rw [if_neg hdv]at h3;rw [h3.2.1]at hop;cases hop
  rw [if_pos hdv]at h3;rcases List.mem_append.1 hy with hy|hy
  ·refine h3.2.2 hop y.1.opn ?_;rw [<- htk];exact List.mem_map_of_mem hy
  ·rw [List.mem_singleton.1 hy];exact hop
theorem Ce {q:List Bool×Bool} {p:af} (h:sM q p) (h10:∀s∈p.lines,(10:UInt8)∉s∧s.length <= 1000000):vO p:=by
 have h3:=h.2.2;refine ⟨fun hd=>?_,fun hd=>?_⟩
 ·rw [if_pos hd]at h3;exact ⟨h3.1,h3.2.1⟩
 ·rw [if_neg (by rw [hd];simp)]at h3;exact ⟨h3.1,h3.2.1,h3.2.2.1,fun s hs=>⟨h3.2.2.2.1 s hs,h10 s hs⟩⟩
abbrev P5 (K:Nat) (v0 v1 v2 v3 v4:Value) (W':World):Prop:=W'.cell? ⟨K,0,none⟩=some v0∧W'.cell? ⟨K,1,none⟩=some v1∧W'.cell? ⟨K,2,none⟩=some v2∧W'.cell? ⟨K,3,none⟩=some v3∧W'.cell? ⟨K,4,none⟩=some v4
theorem AB {w:World} {ao:Option Addr} {cap:Nat} {l:List aW} (hR:kH w ao l) (hW:lN [] false (l.map (·.1))) (h10:∀x∈l,∀s∈x.1.lines,(10:UInt8)∉s∧s.length <= 1000000) (hn:l.length <= 1000000) (hll:∀x∈l,x.1.lines.length <= 1000000):
  Calls Tryz.prog 80 #[.slice ao l.length cap] w fun e w'=>e=.returned (.bool true)∧Below w.heap.size w w':=by
 obtain ⟨ip,hpi,hp0,hp1,hp2⟩:=info_parts mU;have HR:=zh hR;have HW:=zh hW;have H10:=zh (And.intro h10 hll);clear hR hW h10 hll;go_enter Tryz.func80,Tryz.ntmps80
 go_wp2_with fail;go_loopw [3,4,5,10] (fun u3 u4 u5 u10 wr=>∃(i most least:Nat) (inn:List aW),u3=.int .i64 (most:Int)∧u4=.int .i64 (least:Int)∧u10=.int .i64 (i:Int)∧i <= l.length∧ra (l.map (·.1)) i most least inn∧wr.ownsRow w.heap.size 65 5 u5 inn.length (inn.flatMap aq)∧Below w.heap.size w wr) (fun _ _ _ u10 _=>l.length - (intOf u10).toNat)
 case atStart=>exact ⟨0,0,0,[],rfl,rfl,by go_num,Nat.zero_le _,ra.start _,World.ownsRow_nil _ _ _ _,Below.refl _ _⟩
 case round=>
  obtain ⟨i,most,least,inn,rfl,rfl,rfl,hi,hfo,hown,hbw⟩:=hrel;have HB:=zh hbw;by_cases hlt:i<l.length
  ·obtain ⟨x,hx⟩:=bG l i hlt;obtain ⟨g,o,rfl⟩:=HR.out.row.addr (by omega);obtain ⟨k0,k1,k2,k3,k4⟩:=(aY.below HR.out.row hbw).part i x hx;have hxm:(l.map (·.1))[i]? =some x.1:=(by rw [List.getElem?_map,hx];rfl);obtain ⟨n1,n2,n3,n4,n5⟩:=hfo.now HW.out hxm x.2;have hok:=Ce (vD HW.out hxm).1 (H10.out.1 x (List.mem_of_getElem? hx));have hln:=H10.out.2 x (List.mem_of_getElem? hx);obtain ⟨lao,lcap,hxv,hxr,_⟩:=HR.out.lines x (List.mem_of_getElem? hx);have hprev:∀j,i=j+1 ->∃y,l[j]? =some y∧(y.1.div=false ->x.1.div=false ->y.1.depth≠x.1.depth):=fun j hj=>by
    obtain ⟨y,hy⟩:=bG l j (by omega);refine ⟨y,hy,fun d1 d2=>?_⟩;exact xw HW.out (by rw [List.getElem?_map,hy];rfl) (by rw [<- hj];exact hxm) d1 d2
   obtain ⟨x1,xv⟩:=x;simp only at hxv hxr hln hok k0 k1 k2 k3 k4 n1 n2 n3 n4 n5 hprev;subst hxv;have hba:=(Below.refl wr.heap.size wr).alloc (Nat.le_refl _) (.cells #[.int .i64 (x1.depth:Int),.bool x1.div,.string ⟨x1.label.toArray⟩,.bool x1.opn,.slice lao x1.lines.length lcap] 65);have hpx:=heap_alloc_new wr (.cells #[.int .i64 (x1.depth:Int),.bool x1.div,.string ⟨x1.label.toArray⟩,.bool x1.opn,.slice lao x1.lines.length lcap] 65);have hbW:=aa hbw hba;have hownW:=ae hown hba;have HPT:=zh (DG (lcap:=lcap) (hxr.below hbW) hok hln);have hl1:¬(x1.depth:Int)<(least:Int):=(by omega);have hl2:¬(most:Int)<(x1.depth:Int):=(by omega);have HN:=zh (And.intro n4 n5);have HVB:=zh (show some wr.heap.size≠u5.ownBlock from fun e=>by
    have:=(World.ownsRow.lt hown wr.heap.size e.symm).2;omega)
   have HOK:=zh (fun h=>(hok.2 h).2.1);have HPX:=zh hpx;have HOW:=zh hownW;have HBW:=zh hbW;have HPV:=zh hprev;have HIL:=zh hfo;clear n1 n2 n4 n5 hok hxr hxm hprev hx hown hbw hba hpx hbW hownW hfo;go_upto_region 7 with (fail)
   generalize wr.alloc (.cells #[.int .i64 (x1.depth:Int),.bool x1.div,.string ⟨x1.label.toArray⟩,.bool x1.opn,.slice lao x1.lines.length lcap] 65)=W at HPT HPX HOW HBW⊢;obtain ⟨K,hK⟩:∃n,wr.heap.size=n:=⟨_,rfl⟩
   rw [hK]at HPX HVB⊢;clear hK k0 k1 k2 k3 k4;obtain ⟨c0,c1,c2,c3,c4⟩:=cG HPX.out;go_wp2_with fail;refine HPT.out.mono ?_;rintro e w2 ⟨rfl,hb2⟩;have HB2:=zh (aa HBW.out hb2);have HO2:=zh (ae HOW.out hb2);have HP2:=zh ((hb2.block K (lt_of_block HPX.out)).trans HPX.out);clear hb2 HPT HPX HOW HBW c0 c1 c2 c3 c4 hl1 hl2;go_upto_region 9 with (fail)
   obtain ⟨c0,c1,c2,c3,c4⟩:=cG HP2.out;go_cut [56] (fun u56 wc=>u56=.bool false∧Below w2.heap.size w2 wc)
   case first=>
    by_cases hi0:i=0
    ·subst hi0;go_quiet (fail)
     go_wp2_with fail
     go_meet
     case rel=>exact ⟨rfl,bN _ _⟩
    ·obtain ⟨j,rfl⟩:∃j,i=j+1:=⟨i - 1,by omega⟩
     obtain ⟨y,hy,hyd⟩:=HPV.out j rfl;obtain ⟨m0,m1,_,_,_⟩:=(aY.below HR.out.row HB2.out).part j y hy;obtain ⟨dx,hdx⟩:∃b,x1.div=b:=⟨_,rfl⟩
     obtain ⟨dy,hdy⟩:∃b,y.1.div=b:=⟨_,rfl⟩
     rw [hdx]at c1 hyd;rw [hdy]at m1 hyd;have h0:(0:Int)<((j+1:Nat):Int):=(by omega);have hj1:(0:Int) <= (j:Int):=(by omega);have hj2:(j:Int)<(l.length:Int):=(by omega);have hne:dx=false ->dy=false ->((y.1.depth:Int)==(x1.depth:Int))=false:=fun a b=>by
      have:=hyd b a;rw [beq_eq_false_iff_ne];omega
     have HNE:=zh hne;clear hdx hdy hy hyd hne hi0;cases dx
     ·cases dy
      ·have hq:=HNE.out rfl rfl;go_quiet (fail)
       go_wp2_with fail
       go_meet
       case rel=>exact ⟨rfl,bN _ _⟩
      ·go_quiet (fail)
       go_wp2_with fail
       go_meet
       case rel=>exact ⟨rfl,bN _ _⟩
     ·go_quiet (fail)
      go_wp2_with fail
      go_meet
      case rel=>exact ⟨rfl,bN _ _⟩
   case rest=>
    obtain ⟨rfl,hb3⟩:=hcut;have HB3:=zh (aa HB2.out hb3);have HO3:=zh (ae HO2.out hb3);have HP3:=zh ((hb3.block K (lt_of_block HP2.out)).trans HP2.out);clear hb3 HB2 HO2 HP2 c0 c1 c2 c3 c4 HPV;have hil:=HIL.out.il;cases hdv:x1.div with
    |false=>
     have hop:=HOK.out hdv;have HN2:=zh (show ra (l.map (·.1)) (i+1) x1.depth least (inn.take x1.depth++[(x1,.slice lao x1.lines.length lcap)])from by
      have h:=HN.out.1;rw [hdv,hop]at h;simpa using h)
     have HAO:=zh HN.out.2;rw [hop]at HAO;rw [hdv,hop]at HP3;have HX1:=zh (And.intro hdv hop);clear HN hdv hop;obtain ⟨c0,c1,c2,c3,c4⟩:=cG HP3.out;obtain ⟨iao,icap,hiv,_,_,hic⟩:=ab HO3.out;subst hiv;have hdc:(x1.depth:Int) <= (icap:Int):=(by omega);have htk:=fw HO3.out x1.depth n3 iao inn.length icap rfl;rw [iJ aq 5 dr]at htk;have HTK:=zh htk;clear htk;go_upto_region 11 with (fail)
     have hb4:=(Below.refl wc.heap.size wc).drew;have hp4:=(hb4.block K (lt_of_block HP3.out)).trans HP3.out;have ht4:=ae HTK.out hb4;have hba:=(Below.refl wc.drew.heap.size wc.drew).alloc (Nat.le_refl _) (.cells #[.int .i64 (x1.depth:Int),.bool false,.string ⟨x1.label.toArray⟩,.bool false,.slice lao x1.lines.length lcap] 65);have hrow:=gm wc.drew [.int .i64 (x1.depth:Int),.bool false,.string ⟨x1.label.toArray⟩,.bool false,.slice lao x1.lines.length lcap] 65 5 1 wc.heap.size rfl rfl (by omega);have HBA:=zh (aa (aa HB3.out hb4) hba);have HPA:=zh ((hba.block K (lt_of_block hp4)).trans hp4);have HTA:=zh (ae ht4 hba);have HRW:=zh hrow;clear c0 c1 c2 c3 c4;have c4:=cG hp4;have HC4:=zh c4;have HCA:=zh (cG HPA.out);clear hb4 hp4 ht4 hba hrow c4 HTK HO3 HB3 HP3;refine aQ (S:=fun j W'=>([2,4,5].contains j=true) ->P5 K (.int .i64 (x1.depth:Int)) (.bool false) (.string ⟨x1.label.toArray⟩) (.bool false) (.slice lao x1.lines.length lcap) W') (by kernel_rfl) ?_;refine bC 0 57 ?_;simp only [List.set];refine bC 1 58 ?_;simp only [List.set];refine ga 2 59 ?_ rfl [4,5] (by kernel_rfl) (fun _ _ _ h=>h) (by decide) rfl (Or.inl ⟨by rfl,?_⟩) HC4.out ?_;rotate_left
     ·rintro w' ⟨s0,s1,s2,s3,s4⟩;go_simp<;>with_reducible rfl
     simp only [List.set];refine bC 3 60 ?_;simp only [List.set];refine ga 4 61 ?_ rfl [] (by kernel_rfl) (fun _ _ _ h=>h) (by decide) rfl (Or.inl ⟨by rfl,?_⟩) HC4.out ?_;rotate_left
     ·rintro w' ⟨s0,s1,s2,s3,s4⟩;go_simp<;>with_reducible rfl
     simp only [List.set];refine ac (i:=5) (by kernel_rfl) rfl (fun K' hK=>?_);have HKK:=zh hK;clear hK;go_simp
     refine HKK.out _ _ ⟨fun _=>HCA.out,?_⟩;clear HKK K';try simp only [Act.put,List.setIfInBounds_toArray,List.set_cons_zero,List.set_cons_succ,List.getElem_toArray,List.getElem_cons_zero,List.getElem_cons_succ]
     refine ac (i:=6) (by kernel_rfl) rfl (fun K' hK=>?_);have HKK:=zh hK;clear hK;refine bU _ rfl (.tmp 60) (.tmp 62) 61 rfl w.heap.size 65 ip (.agg #[.int .i64 0,.bool false,.string ⟨#[]⟩,.bool false,.slice none 0 0]) 5 64 Tryz.underlying61 hpi hp0 hp1 hp2 rfl (by decide) (.slice iao x1.depth icap) x1.depth ((inn.take x1.depth).flatMap aq) rfl HTA.out (some ⟨wc.heap.size,0,none⟩) 1 1 [.int .i64 (x1.depth:Int),.bool false,.string ⟨x1.label.toArray⟩,.bool false,.slice lao x1.lines.length lcap] rfl HRW.out (fun h=>by cases h) (by intro u hu;simp at hu;rcases hu with rfl|rfl|rfl|rfl|rfl<;>rfl) (by unfold maxLen;omega) (by omega) HBA.out.size ?_;intro v6 w6 hown6 hgrow6 _;have hp6:=(hgrow6.block K (lt_of_block HPA.out) (fun e=>HVB.out (by
      rw [e];cases iao<;>rfl))).trans HPA.out
     have HP6:=zh hp6;have HB6:=zh (HBA.out.grown hgrow6 HBA.out.size (fun j hj=>(World.ownsRow.lt HTA.out j hj).1));have hl6:(inn.take x1.depth++[(x1,Value.slice lao x1.lines.length lcap)]).length=x1.depth+1:=(by rw [List.length_append,List.length_take,Nat.min_eq_left n3];rfl);have HO6:=zh (show w6.ownsRow w.heap.size 65 5 v6 (inn.take x1.depth++[(x1,Value.slice lao x1.lines.length lcap)]).length ((inn.take x1.depth++[(x1,Value.slice lao x1.lines.length lcap)]).flatMap aq)from by
      rw [hl6,List.flatMap_append,List.flatMap_cons,List.flatMap_nil,List.append_nil];unfold aq;simp only;rw [HX1.out.1,HX1.out.2];exact hown6)
     obtain ⟨vao,vcp,hvv,_⟩:=ab hown6;subst hvv;have HL6:=zh hl6;clear hown6 hgrow6 hp6 hl6 HTA HPA HBA HCA HC4 HRW;refine HKK.out _ _ ⟨fun h=>absurd h (by decide),?_⟩;clear HKK K';try simp only [Act.put,List.setIfInBounds_toArray,List.set_cons_zero,List.set_cons_succ,List.getElem_toArray,List.getElem_cons_zero,List.getElem_cons_succ]
     refine bC 7 5 ?_;simp only [List.set];refine aP (by kernel_rfl) ?_ _;obtain ⟨c0,c1,c2,c3,c4⟩:=cG HP6.out;go_wp2_with fail;go_roundw;case rel=>exact ⟨i+1,x1.depth,least,_,rfl,rfl,by go_num,by omega,HN2.out,HO6.out,HB6.out⟩
     case measure=>simp [intOf];omega
    |true=>
     cases hop:x1.opn with
     |false=>
      have HN2:=zh (show ra (l.map (·.1)) (i+1) (x1.depth+1) least (inn.take x1.depth++[(x1,.slice lao x1.lines.length lcap)])from by
       have h:=HN.out.1;rw [hdv,hop]at h;simpa using h)
      have HAO:=zh HN.out.2;rw [hop]at HAO;rw [hdv,hop]at HP3;have HX1:=zh (And.intro hdv hop);clear HN hdv hop;obtain ⟨c0,c1,c2,c3,c4⟩:=cG HP3.out;obtain ⟨iao,icap,hiv,_,_,hic⟩:=ab HO3.out;subst hiv;have hdc:(x1.depth:Int) <= (icap:Int):=(by omega);have htk:=fw HO3.out x1.depth n3 iao inn.length icap rfl;rw [iJ aq 5 dr]at htk;have HTK:=zh htk;clear htk;go_upto_region 11 with (fail)
      have hb4:=(Below.refl wc.heap.size wc).drew;have hp4:=(hb4.block K (lt_of_block HP3.out)).trans HP3.out;have ht4:=ae HTK.out hb4;have hba:=(Below.refl wc.drew.heap.size wc.drew).alloc (Nat.le_refl _) (.cells #[.int .i64 (x1.depth:Int),.bool true,.string ⟨x1.label.toArray⟩,.bool false,.slice lao x1.lines.length lcap] 65);have hrow:=gm wc.drew [.int .i64 (x1.depth:Int),.bool true,.string ⟨x1.label.toArray⟩,.bool false,.slice lao x1.lines.length lcap] 65 5 1 wc.heap.size rfl rfl (by omega);have HBA:=zh (aa (aa HB3.out hb4) hba);have HPA:=zh ((hba.block K (lt_of_block hp4)).trans hp4);have HTA:=zh (ae ht4 hba);have HRW:=zh hrow;clear c0 c1 c2 c3 c4;have c4:=cG hp4;have HC4:=zh c4;have HCA:=zh (cG HPA.out);clear hb4 hp4 ht4 hba hrow c4 HTK HO3 HB3 HP3;refine aQ (S:=fun j W'=>([2,4,5].contains j=true) ->P5 K (.int .i64 (x1.depth:Int)) (.bool true) (.string ⟨x1.label.toArray⟩) (.bool false) (.slice lao x1.lines.length lcap) W') (by kernel_rfl) ?_;refine bC 0 57 ?_;simp only [List.set];refine bC 1 58 ?_;simp only [List.set];refine ga 2 59 ?_ rfl [4,5] (by kernel_rfl) (fun _ _ _ h=>h) (by decide) rfl (Or.inl ⟨by rfl,?_⟩) HC4.out ?_;rotate_left
      ·rintro w' ⟨s0,s1,s2,s3,s4⟩;go_simp<;>with_reducible rfl
      simp only [List.set];refine bC 3 60 ?_;simp only [List.set];refine ga 4 61 ?_ rfl [] (by kernel_rfl) (fun _ _ _ h=>h) (by decide) rfl (Or.inl ⟨by rfl,?_⟩) HC4.out ?_;rotate_left
      ·rintro w' ⟨s0,s1,s2,s3,s4⟩;go_simp<;>with_reducible rfl
      simp only [List.set];refine ac (i:=5) (by kernel_rfl) rfl (fun K' hK=>?_);have HKK:=zh hK;clear hK;go_simp
      refine HKK.out _ _ ⟨fun _=>HCA.out,?_⟩;clear HKK K';try simp only [Act.put,List.setIfInBounds_toArray,List.set_cons_zero,List.set_cons_succ,List.getElem_toArray,List.getElem_cons_zero,List.getElem_cons_succ]
      refine ac (i:=6) (by kernel_rfl) rfl (fun K' hK=>?_);have HKK:=zh hK;clear hK;refine bU _ rfl (.tmp 60) (.tmp 62) 61 rfl w.heap.size 65 ip (.agg #[.int .i64 0,.bool false,.string ⟨#[]⟩,.bool false,.slice none 0 0]) 5 64 Tryz.underlying61 hpi hp0 hp1 hp2 rfl (by decide) (.slice iao x1.depth icap) x1.depth ((inn.take x1.depth).flatMap aq) rfl HTA.out (some ⟨wc.heap.size,0,none⟩) 1 1 [.int .i64 (x1.depth:Int),.bool true,.string ⟨x1.label.toArray⟩,.bool false,.slice lao x1.lines.length lcap] rfl HRW.out (fun h=>by cases h) (by intro u hu;simp at hu;rcases hu with rfl|rfl|rfl|rfl|rfl<;>rfl) (by unfold maxLen;omega) (by omega) HBA.out.size ?_;intro v6 w6 hown6 hgrow6 _;have hp6:=(hgrow6.block K (lt_of_block HPA.out) (fun e=>HVB.out (by
       rw [e];cases iao<;>rfl))).trans HPA.out
      have HP6:=zh hp6;have HB6:=zh (HBA.out.grown hgrow6 HBA.out.size (fun j hj=>(World.ownsRow.lt HTA.out j hj).1));have hl6:(inn.take x1.depth++[(x1,Value.slice lao x1.lines.length lcap)]).length=x1.depth+1:=(by rw [List.length_append,List.length_take,Nat.min_eq_left n3];rfl);have HO6:=zh (show w6.ownsRow w.heap.size 65 5 v6 (inn.take x1.depth++[(x1,Value.slice lao x1.lines.length lcap)]).length ((inn.take x1.depth++[(x1,Value.slice lao x1.lines.length lcap)]).flatMap aq)from by
       rw [hl6,List.flatMap_append,List.flatMap_cons,List.flatMap_nil,List.append_nil];unfold aq;simp only;rw [HX1.out.1,HX1.out.2];exact hown6)
      obtain ⟨vao,vcp,hvv,_⟩:=ab hown6;subst hvv;have HL6:=zh hl6;clear hown6 hgrow6 hp6 hl6 HTA HPA HBA HCA HC4 HRW;refine HKK.out _ _ ⟨fun h=>absurd h (by decide),?_⟩;clear HKK K';try simp only [Act.put,List.setIfInBounds_toArray,List.set_cons_zero,List.set_cons_succ,List.getElem_toArray,List.getElem_cons_zero,List.getElem_cons_succ]
      refine bC 7 5 ?_;simp only [List.set];refine aP (by kernel_rfl) ?_ _;obtain ⟨c0,c1,c2,c3,c4⟩:=cG HP6.out;go_wp2_with fail;go_roundw;case rel=>exact ⟨i+1,x1.depth+1,least,_,by go_num,rfl,by go_num,by omega,HN2.out,HO6.out,HB6.out⟩
      case measure=>simp [intOf];omega
     |true=>
      have HN2:=zh (show ra (l.map (·.1)) (i+1) (x1.depth+1) (x1.depth+1) (inn.take x1.depth++[(x1,.slice lao x1.lines.length lcap)])from by
       have h:=HN.out.1;rw [hdv,hop]at h;simpa using h)
      have HAO:=zh HN.out.2;rw [hop]at HAO;rw [hdv,hop]at HP3;have HX1:=zh (And.intro hdv hop);clear HN hdv hop;obtain ⟨c0,c1,c2,c3,c4⟩:=cG HP3.out;obtain ⟨iao,icap,hiv,_,_,hic⟩:=ab HO3.out;subst hiv;have hdc:(x1.depth:Int) <= (icap:Int):=(by omega);have htk:=fw HO3.out x1.depth n3 iao inn.length icap rfl;rw [iJ aq 5 dr]at htk;have HTK:=zh htk;clear htk;go_upto_region 11 with (fail)
      have hb4:=(Below.refl wc.heap.size wc).drew;have hp4:=(hb4.block K (lt_of_block HP3.out)).trans HP3.out;have ht4:=ae HTK.out hb4;have hba:=(Below.refl wc.drew.heap.size wc.drew).alloc (Nat.le_refl _) (.cells #[.int .i64 (x1.depth:Int),.bool true,.string ⟨x1.label.toArray⟩,.bool true,.slice lao x1.lines.length lcap] 65);have hrow:=gm wc.drew [.int .i64 (x1.depth:Int),.bool true,.string ⟨x1.label.toArray⟩,.bool true,.slice lao x1.lines.length lcap] 65 5 1 wc.heap.size rfl rfl (by omega);have HBA:=zh (aa (aa HB3.out hb4) hba);have HPA:=zh ((hba.block K (lt_of_block hp4)).trans hp4);have HTA:=zh (ae ht4 hba);have HRW:=zh hrow;clear c0 c1 c2 c3 c4;have c4:=cG hp4;have HC4:=zh c4;have HCA:=zh (cG HPA.out);clear hb4 hp4 ht4 hba hrow c4 HTK HO3 HB3 HP3;refine aQ (S:=fun j W'=>([2,4,5].contains j=true) ->P5 K (.int .i64 (x1.depth:Int)) (.bool true) (.string ⟨x1.label.toArray⟩) (.bool true) (.slice lao x1.lines.length lcap) W') (by kernel_rfl) ?_;refine bC 0 57 ?_;simp only [List.set];refine bC 1 58 ?_;simp only [List.set];refine ga 2 59 ?_ rfl [4,5] (by kernel_rfl) (fun _ _ _ h=>h) (by decide) rfl (Or.inl ⟨by rfl,?_⟩) HC4.out ?_;rotate_left
      ·rintro w' ⟨s0,s1,s2,s3,s4⟩;go_simp<;>with_reducible rfl
      simp only [List.set];refine bC 3 60 ?_;simp only [List.set];refine ga 4 61 ?_ rfl [] (by kernel_rfl) (fun _ _ _ h=>h) (by decide) rfl (Or.inl ⟨by rfl,?_⟩) HC4.out ?_;rotate_left
      ·rintro w' ⟨s0,s1,s2,s3,s4⟩;go_simp<;>with_reducible rfl
      simp only [List.set];refine ac (i:=5) (by kernel_rfl) rfl (fun K' hK=>?_);have HKK:=zh hK;clear hK;go_simp
      refine HKK.out _ _ ⟨fun _=>HCA.out,?_⟩;clear HKK K';try simp only [Act.put,List.setIfInBounds_toArray,List.set_cons_zero,List.set_cons_succ,List.getElem_toArray,List.getElem_cons_zero,List.getElem_cons_succ]
      refine ac (i:=6) (by kernel_rfl) rfl (fun K' hK=>?_);have HKK:=zh hK;clear hK;refine bU _ rfl (.tmp 60) (.tmp 62) 61 rfl w.heap.size 65 ip (.agg #[.int .i64 0,.bool false,.string ⟨#[]⟩,.bool false,.slice none 0 0]) 5 64 Tryz.underlying61 hpi hp0 hp1 hp2 rfl (by decide) (.slice iao x1.depth icap) x1.depth ((inn.take x1.depth).flatMap aq) rfl HTA.out (some ⟨wc.heap.size,0,none⟩) 1 1 [.int .i64 (x1.depth:Int),.bool true,.string ⟨x1.label.toArray⟩,.bool true,.slice lao x1.lines.length lcap] rfl HRW.out (fun h=>by cases h) (by intro u hu;simp at hu;rcases hu with rfl|rfl|rfl|rfl|rfl<;>rfl) (by unfold maxLen;omega) (by omega) HBA.out.size ?_;intro v6 w6 hown6 hgrow6 _;have hp6:=(hgrow6.block K (lt_of_block HPA.out) (fun e=>HVB.out (by
       rw [e];cases iao<;>rfl))).trans HPA.out
      have HP6:=zh hp6;have HB6:=zh (HBA.out.grown hgrow6 HBA.out.size (fun j hj=>(World.ownsRow.lt HTA.out j hj).1));have hl6:(inn.take x1.depth++[(x1,Value.slice lao x1.lines.length lcap)]).length=x1.depth+1:=(by rw [List.length_append,List.length_take,Nat.min_eq_left n3];rfl);have HO6:=zh (show w6.ownsRow w.heap.size 65 5 v6 (inn.take x1.depth++[(x1,Value.slice lao x1.lines.length lcap)]).length ((inn.take x1.depth++[(x1,Value.slice lao x1.lines.length lcap)]).flatMap aq)from by
       rw [hl6,List.flatMap_append,List.flatMap_cons,List.flatMap_nil,List.append_nil];unfold aq;simp only;rw [HX1.out.1,HX1.out.2];exact hown6)
      obtain ⟨vao,vcp,hvv,_⟩:=ab hown6;subst hvv;have HL6:=zh hl6;clear hown6 hgrow6 hp6 hl6 HTA HPA HBA HCA HC4 HRW;refine HKK.out _ _ ⟨fun h=>absurd h (by decide),?_⟩;clear HKK K';try simp only [Act.put,List.setIfInBounds_toArray,List.set_cons_zero,List.set_cons_succ,List.getElem_toArray,List.getElem_cons_zero,List.getElem_cons_succ]
      refine bC 7 5 ?_;simp only [List.set];refine aP (by kernel_rfl) ?_ _;obtain ⟨c0,c1,c2,c3,c4⟩:=cG HP6.out;have hrow6:=(bT HO6.out).2.1;obtain ⟨vg,vo,rfl⟩:=hrow6.addr (by rw [HL6.out];omega);have hcf:=Be (cp:=vcp) hrow6 (HAO.out rfl) (by rw [HL6.out];omega);rw [HL6.out]at hcf;have HCF:=zh hcf;clear hrow6 hcf;go_wp2_with fail;refine HCF.out.mono ?_;rintro e w7 ⟨rfl,hb7⟩;have HP7:=zh ((hb7.block K (lt_of_block HP6.out)).trans HP6.out);have HO7:=zh (ae HO6.out hb7);have HB7:=zh (aa HB6.out hb7);clear hb7 c0 c1 c2 c3 c4 HCF HO6 HP6 HB6;obtain ⟨c0,c1,c2,c3,c4⟩:=cG HP7.out;go_wp2_with fail;go_roundw;case rel=>exact ⟨i+1,x1.depth+1,x1.depth+1,_,by go_num,by go_num,by go_num,by omega,HN2.out,HO7.out,HB7.out⟩
      case measure=>simp [intOf];omega
  ·obtain rfl:i=l.length:=(by omega);clear hbw hown hfo;go_wp2_with fail;go_ret;exact ⟨rfl,HB.out⟩
end Go.Proofs.YtcannffahjbjnaaGreatDoor
