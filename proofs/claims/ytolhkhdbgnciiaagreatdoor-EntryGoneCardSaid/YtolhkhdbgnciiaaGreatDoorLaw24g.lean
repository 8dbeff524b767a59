/- law24.EntryGone. -/
import Derived.Test.YtolhkhdbgnciiaaGreatDoorEE
import Derived.Test.YtolhkhdbgnciiaaGreatDoorEF
namespace Go.Proofs.YtolhkhdbgnciiaaGreatDoor
open _root_.Go.Proofs.Tryz
open Go.Lib (hid)
open Go.IntWalk (i64_in)
set_option linter.unusedVariables false
set_option linter.unusedSimpArgs false
open Go.RowKit
def GnK(w1:World)(q:MH)(base p pn pr:Nat)(t:TM)(W:World):Prop:=
 ∃D g l par own nm fr Es,KE w1 q base p pn pr D g l par own nm fr Es g.R g.b W∧ERel g Es∧EHs g l nm∧OwnE g own∧g.t=t
def GnR(w1:World)(q:MH)(t:TM)(n:Nat)(W:World):Prop:= ∃g l par own nm fr,CP w1 q g l par own nm fr W∧OwnE g own∧g.t=t∧g.R.length=n
set_option maxRecDepth 100000 in
set_option maxHeartbeats 16000000 in
theorem zlw(w:World)(hM:TabM w)(hT:Tabs w)(ad:Option Addr)(cap:Nat)(l:List A24)(hA:zk3 w ad cap l)(od:Int):Calls prog 5 #[.slice ad l.length cap,.int .i64 od] w fun e w'=>e= .returned (.bool true)∧Fr [] w w':=by
 have HFew:=hid (show Calls prog 7 #[.int .i64 0,.slice ad l.length cap] w (zrt l w)from z2d w 0 ad cap l hA);have HHo:=hid (fun W (hf:Fr [] w W)=>zvl W (hM.fr hf (by simp)) (hT.fr hf (by simp)));have HFr:=hid (fun W (hf:Fr [] w W)=>(show Calls prog 9 #[.int .i64 0] W _ from zm0 0 W (hM.fr hf (by simp)) (hT.fr hf (by simp))));have HA:=hid hA;obtain⟨nl,hnl⟩:∃nl,l.length=nl:=⟨_,rfl⟩;have HNL:=hid hnl;rw[hnl]at HFew⊢;clear hA hM hT hnl;go_enter func5,ntmps5;go_wp2_with fail;with_reducible refine HFew.out.mono ?_
 rintro e w1 ⟨bf,rfl,f1,hfw⟩;have F1:=hid f1;cases bf with
 |false=>
  have hh:=HHo.out w1 f1;clear f1 hfw HFew HHo HFr;go_wp2_with fail;with_reducible refine hh.mono ?_
  rintro e w2 ⟨rfl,f2⟩;have F2:=hid (F1.out.trans f2);clear f2 hh;go_wp2_with fail;go_ret;exact⟨rfl,F2.out⟩
 |true=>
  have HFW:=hid (hfw rfl);have hfr:=HFr.out w1 f1;clear f1 hfw HFew HFr;go_wp2_with fail;with_reducible refine hfr.mono ?_
  rintro e w2 ⟨q,t,rfl,h2,hp0,hq,f2⟩;obtain⟨bs,hbs1,hbs2,hbs3,hIm⟩:=zo4 h2 hp0;have hbt:bs=t.bytes:=hbs1 rfl rfl;have HIM:=hid hIm;have HP0:=hid hp0;have HBS:=hid (And.intro hbs2 (And.intro hbs3 hbt));have HQ:=hid (fun k hk=>Nat.le_trans F1.out.size (hq k hk));have F2:=hid (F1.out.trans f2);have hqlt:=h2.bok.q;have HQL:=hid hqlt;clear h2 f2 hq hfr hp0 hbs1 hbs2 hbs3 hbt hIm hqlt;go_wp2_with fail;with_reducible refine HIM.out.mono ?_
  rintro e w3 ⟨vw,rfl,⟨gw,cw,rfl,hgw,hrw,f3⟩,k3⟩;have HNw:=hid (z0g w3 (fun _=>0) (fun _=>0) (fun _=> []));obtain⟨zn,hzn⟩:∃zn,bs.length=zn:=⟨_,rfl⟩;have HZN:=hid hzn;rw[hzn];have C3:=hid k3;have RW3:=hid hrw;have HGW:=hid (show gw∉q.blocks∧gw<w3.heap.size from⟨fun hm=>by have:=HQL.out gw hm;omega,hrw.lt⟩);have F3:=hid (F2.out.trans f3);clear k3 hrw hgw f3 HIM hzn;go_wp2_with fail;with_reducible refine HNw.out.mono ?_
  rintro e w4 ⟨p,pn,pr,D0,rfl,d4,f4,hD4⟩;have N4:=hid (show GnK w1 q w3.heap.size p pn pr t w4 from⟨D0,ew0 t,[],fun _=>0,fun _=>0,fun _=> [],7,[],⟨C3.out.fr0 f4,d4,C3.out.bok,hD4⟩,⟨rfl,fun d hd=>(nomatch hd)⟩,EHs.zero t _ _,fun y _=>rfl,rfl⟩);have RW4:=hid (RW3.out.fr f4 (by simp));have F4:=hid (F3.out.trans f4);clear d4 f4 hD4 HNw RW3;go_wp2_with fail;go_loopg [8] (nl+1) (fun gk v8 W=>∃i:Nat,v8= .int .i64 i∧(i+gk=nl+1∧i≤nl)∧Hid (GnK w1 q w3.heap.size p pn pr t W)∧Hid (Fr [] w W∧RowB W gw cw bs));case atStart=>exact⟨0,rfl,by omega,N4,hid ⟨F4.out,RW4.out⟩⟩
  case round=>
   clear N4 F4 RW4;obtain⟨i,rfl,hi,HK,F4⟩:=hrel;by_cases hlt:i<nl
   ·have b6':decide (i<nl)=true:=by simp;omega
    have hL:i<l.length:=by rw[HNL.out];exact hlt
    obtain⟨B,off,rfl,hBl,hr⟩:=HA.out.row (by omega);have hrj:=hr i hL;have hok:=HA.out.each _ (List.getElem_mem hL);have hfew:=HFW.out.2 _ (List.getElem_mem hL);generalize l[i]'hL=d at*;obtain⟨dk,dn,da,dc,dl,dt,de,dra,drc,drl⟩:=d;have hC:=fun V (hV:Fr [] w V)=>And.intro ((hV.cell (p:=⟨B,off+i*6+2,none⟩) hBl (by simp)).trans (hrj 2 (by decide))) (And.intro ((hV.cell (p:=⟨B,off+i*6+3,none⟩) hBl (by simp)).trans (hrj 3 (by decide))) (And.intro ((hV.cell (p:=⟨B,off+i*6+4,none⟩) hBl (by simp)).trans (hrj 4 (by decide))) ((hV.cell (p:=⟨B,off+i*6+5,none⟩) hBl (by simp)).trans (hrj 5 (by decide)))));have hs:=hok.s;have hrw:=hok.r;have hty:=hok.ty;have hen:=hok.en;simp only[A24.cells,List.getElem?_cons_zero,List.getElem?_cons_succ]at hC hs hrw hty hen hfew;obtain⟨D,g,ls,par,own,nm,fr,Es,k1,er,eh,ho,hgt⟩:=HK.out;obtain⟨m,hm⟩:∃m,dl.length=m:=⟨_,rfl⟩;obtain⟨mr,hmr⟩:∃mr,drl.length=mr:=⟨_,rfl⟩
    have HPut:=hid (show Calls prog 11 #[.int .i64 0,.pointer (some ⟨q.m,0,none⟩),.pointer (some ⟨p,0,none⟩),.slice da m dc,.int .u16 dt,.int .u64 de,.slice dra mr drc] wr.drew (fun e W2=>∃z:Nat,e= .returned (.tuple #[.int .i64 z,.bool true])∧GnK w1 q w3.heap.size p pn pr t W2∧Fr [] w W2∧RowB W2 gw cw bs)from by
     have kd:=k1.fr0 (Fr.refl [] wr).drew
     have hsA:0<dl.length→∀gb o,da=some ⟨gb,o,none⟩→gb∉q.blocks∧gb∉D:=fun h0 gb o e=>by
      obtain⟨g1,o1,e1,_,hg1⟩:=hs.at_ 0 h0;rw[e]at e1;injection e1 with e1;injection e1 with e1 _;subst e1;refine⟨fun hm=> ?_,fun hm=> ?_⟩
      ·have:=HQ.out _ hm;omega
      ·have:=k1.hD _ hm;have:=F3.out.size;omega
     have hob:∀y,own y≤1000000:=fun y=>by
      by_cases h0:y=0
      ·have:=k1.c.out (y:=y) (fun hm=>(k1.c.rng hm).1 h0);omega
      ·have:=ho y h0
       have:=List.countP_le_length (p:=fun z=>(g.d z).name==y) (l:=g.R);have:=k1.c.rfew.1;omega
     have:=zyn 0 kd er eh da dc dl (hs.fr F4.out.1.drew) hsA hfew.2.1 hfew.1 hob dra drc drl ((hrw.fr0 F4.out.1.drew).recA hfew.2.2) hty hen;rw[hm,hmr]at this;refine this.mono fun e W2 ⟨D2,n2,hh⟩=> ?_
     have hF:Fr [] w W2:=F4.out.1.drew.step n2.f (fun k hk=> .inr (by
      rcases List.mem_append.1 hk with hk|hk
      ·exact HQ.out k hk
      ·exact Nat.le_trans F3.out.size (k1.hD k hk)))
     have hRW:RowB W2 gw cw bs:=(F4.out.2.drew).fr n2.f (fun hm=>by
      rcases List.mem_append.1 hm with hm|hm
      ·exact HGW.out.1 hm
      ·have:=k1.hD _ hm;have:=HGW.out.2;omega)
     rcases hh with⟨rfl,-,fr1,k2⟩|⟨x,name,l1,par1,nm1,fr1,ad1,cp1,rfl,⟨hx0,hxb,hxR,hxl⟩,hGd,hck,hname,hnm,hsub,hna,hfi,hrec,k2⟩
     ·exact⟨0,rfl,⟨D2,g,ls,par,own,nm,fr1,Es,k2,er,eh,ho,hgt⟩,hF,hRW⟩
     ·exact⟨x,rfl,⟨D2,_,l1,par1,_,nm1,fr1,_,k2,er.add hxR rfl rfl rfl,(eh.sub hsub hna).add hxR hname rfl hfi,ho.add hxR,hgt⟩,hF,hRW⟩)
    rw[hm,hmr]at hC;have i0:(0:Int)≤i:=by omega
    have i1:(i:Int)<nl:=by omega
    have hn60:nl≤60:=by have:=HFW.out.1;have:=HNL.out;omega
    have wi:=i64_in ((i:Int)+1) (by omega);have HCC:=hid hC;have hY:=hC wr.drew F4.out.1.drew;clear hC hr hrj hok hs hrw hty hen hfew k1 er eh ho hgt HK F4 hL hm hmr;go_wp2_with fail;refine wp_region_held_drew (S:=fun W=>W.cell? ⟨B,off+i*6+2,none⟩=some (.slice da m dc)∧W.cell? ⟨B,off+i*6+3,none⟩=some (.int .u16 dt)∧W.cell? ⟨B,off+i*6+4,none⟩=some (.int .u64 de)∧W.cell? ⟨B,off+i*6+5,none⟩=some (.slice dra mr drc)) (by kernel_rfl) (hY) (fun yH=> ?_);refine tkY 0 yH ?_;refine tkY 1 yH ?_;refine tkY 2 yH ?_;refine tkY 3 yH ?_;refine tkY 4 yH ?_;refine tkY 5 yH ?_;refine tkY 6 yH ?_;refine tkY 7 yH ?_;refine tkY 8 yH ?_;refine tkY 9 yH ?_;refine tkY 10 yH ?_;refine tkY 11 yH ?_;refine tkY 12 yH ?_;refine tkY 13 yH ?_;refine tkY 14 yH ?_;refine tkY 15 yH ?_;refine tkY 16 yH ?_;refine tkY 17 yH ?_;refine tkY 18 yH ?_;refine tkY 19 yH ?_;refine tkY 20 yH ?_;refine tkY 21 yH ?_;refine tkC 22 fun K hK=> ?_;go_simp;with_reducible refine HPut.out.mono ?_
    rintro e W2 ⟨zz,rfl,hK2,hF2,hR2⟩;have HK2:=hid hK2;have HF2:=hid (And.intro hF2 hR2);have hY:=HCC.out W2 hF2;clear hK2 hF2 hR2;go_wp2_with fail;refine hK.out _ _ _ hY fun yH=> ?_;clear hK K;refine tkY 23 yH ?_;refine tkY 24 yH ?_;refine tkY 25 yH ?_;refine tkY 26 yH ?_;refine tkY 27 yH ?_;refine wpAnyH_done (by kernel_rfl) ?_ _;try simp only[Act.put,List.getElem_toArray,List.getElem_cons_zero,List.getElem_cons_succ,List.setIfInBounds_toArray,List.set_cons_zero,List.set_cons_succ]
    clear hY HCC HPut;go_wp2_with fail;go_roundg (gk-1);case measure=>omega
    case rel=>exact⟨i+1,by go_num,by omega,HK2,HF2⟩
   ·obtain rfl:i=nl:=by omega
    have b6':decide (i<i)=false:=by simp
    obtain⟨D,g,ls,par,own,nm,fr,Es,k1,er,eh,ho,hgt⟩:=HK.out;have hLen:=zzb k1.c;have hN224:=k1.c.rfew.1;obtain⟨mn,hmn⟩:∃mn,g.R.length=mn:=⟨_,rfl⟩;rw[hmn]at hLen hN224;have HGn:=hid (fun V fr2 (hV:CP w1 q g ls par own nm fr2 V)=>(show GnR w1 q t mn V from⟨g,ls,par,own,nm,fr2,hV,ho,hgt,hmn⟩));clear er eh ho hgt k1 hmn HK;go_wp2_with fail;with_reducible refine hLen.mono ?_
    rintro e W2 ⟨rfl,k2,f2⟩;have G2:=hid (HGn.out W2 _ k2);have F5:=hid (show Fr [] w W2∧RowB W2 gw cw bs from⟨F4.out.1.step f2 (fun k hk=> .inr (HQ.out k hk)),F4.out.2.fr f2 HGW.out.1⟩);clear k2 f2 hLen HGn F4;go_wp2_with fail;go_loopg [12] (mn+1) (fun gk v12 W=>∃i:Nat,v12= .int .i64 i∧(i+gk=mn+1∧i≤mn)∧Hid (GnR w1 q t (mn-i) W)∧Hid (Fr [] w W∧RowB W gw cw bs));case atStart=>exact⟨0,rfl,by omega,G2,F5⟩
    case round=>
     clear G2 F5;obtain⟨j,rfl,hj,HG,F4⟩:=hrel;by_cases hjm:j<mn
     ·have b6':decide (j<mn)=true:=by simp;omega
      obtain⟨g,ls,par,own,nm,fr,k1,ho,hgt,hlen⟩:=HG.out;have hAll:=z02 k1;obtain⟨nR,hnR⟩:∃nR,mn-j=nR:=⟨_,rfl⟩;rw[hnR]at hlen;have hn0:0<nR:=by omega
      have hn1:nR≤224:=by have:=k1.rfew.1;omega
      have hk:=zw2 od nR hn0;have hx:(g.R)[nthZ od nR]?=some (g.R[nthZ od nR]'(by omega)):=List.getElem?_eq_getElem (by omega);obtain⟨t1,t2⟩:=zvb od nR hn0 (by omega);have hmx:max (od.tmod nR) (-(od.tmod nR))=((nthZ od nR:Nat):Int):=by unfold nthZ;omega
      have hsp:g.R=g.R.take (nthZ od nR)++(g.R[nthZ od nR]'(by omega))::g.R.drop (nthZ od nR+1):=by
       rw[←List.drop_eq_getElem_cons,List.take_append_drop]
      generalize g.R[nthZ od nR]'(by omega)=x at*;obtain⟨k,hkk⟩:∃k,nthZ od nR=k:=⟨_,rfl⟩;rw[hkk]at hk hx hmx hsp;obtain⟨r,hr⟩:∃r,od.tmod (nR:Int)=r:=⟨_,rfl⟩;rw[hr]at t1 t2 hmx
      have HGo:=hid (fun V fr2 (hV:CP w1 q g ls par own nm fr2 V)=>(show Calls prog 21 #[.pointer (some ⟨q.m,0,none⟩),.int .i64 x] V fun e w'=>∃n:Int,e= .returned (.tuple #[.int .i64 n,.int .i64 0])∧Fr q.blocks V w'∧GnR w1 q t (mn-(j+1)) w' from(zz0 hV ho hsp).mono fun e w' ⟨n,h1,h2,l1,own1,fr1,h3,h4⟩=>⟨n,h1,h2,_,l1,par,own1,nm,fr1,h3,h4,hgt,by
       have:=congrArg List.length hsp;rw[List.length_append,List.length_cons]at this;show(g.R.take k++g.R.drop (k+1)).length=_;rw[List.length_append];omega⟩))
      have HX:=hid (And.intro hx hlen);have b3:((nR:Int)==0)=false:=by rw[beq_eq_false_iff_ne];omega
      have b3':(nR==0)=false:=by rw[beq_eq_false_iff_ne];omega
      have k0:(0:Int)≤k:=by omega
      have kn:(k:Int)<nR:=by omega
      have wj:=i64_in ((j:Int)+1) (by omega);have wm:IntKind.i64.wrap ((mn:Int)-j)=(nR:Int):=by rw[i64_in _ (by omega)];omega
      clear hx hsp hkk k1 ho hgt hlen hnR HG;go_wp2_with fail;with_reducible refine hAll.mono ?_
      rintro e W2 ⟨v,rfl,r2,k2,f2⟩;obtain⟨ada,capa,hva,hra⟩:=zd2 r2;rw[HX.out.2]at hva;subst hva;obtain⟨ga,rfl,-,hri⟩:=hra (by rw[HX.out.2];exact hn0);have cc:=hri.cell k (by rw[HX.out.2];omega);rw[(List.getElem?_eq_some_iff.1 HX.out.1).2]at cc;have hGo:=HGo.out W2 _ k2;have F5:=hid (show Fr [] w W2∧RowB W2 gw cw bs from⟨F4.out.1.step f2 (fun k hk=> .inr (HQ.out k hk)),F4.out.2.fr f2 HGW.out.1⟩);clear r2 k2 f2 hra hri hAll HGo F4;go_wp2_with fail;with_reducible refine hGo.mono ?_
      rintro e W3 ⟨nz,rfl,f3,g3⟩;have G3:=hid g3;have F6:=hid (show Fr [] w W3∧RowB W3 gw cw bs from⟨F5.out.1.step f3 (fun k hk=> .inr (HQ.out k hk)),F5.out.2.fr f3 HGW.out.1⟩);clear f3 g3 hGo F5 cc;go_wp2_with fail;go_roundg (gk-1);case measure=>omega
      case rel=>exact⟨j+1,by go_num,by omega,G3,F6⟩
     ·obtain rfl:j=mn:=by omega
      have b6':decide (j<j)=false:=by simp
      obtain⟨g,ls,par,own,nm,fr,k1,ho,hgt,hlen⟩:=HG.out;rw[Nat.sub_self]at hlen;have hR:=List.eq_nil_of_length_eq_zero hlen;have hls:=zx8 k1 ho hR;subst hls
      have HImg:=hid (fun V fr2 (hV:CP w1 q g [] par own nm fr2 V)=>(show Calls prog 19 #[.pointer (some ⟨q.m,0,none⟩)] V fun e w'=>∃g8 c8,e= .returned (.slice (some ⟨g8,0,none⟩) zn c8)∧RowB w' g8 c8 bs∧CP w1 q g [] par own nm fr2 w'∧Fr [] V w' from by
       obtain⟨bs2,h1,-,-,hI⟩:=zo4 hV (by rw[hgt];exact HP0.out);have e1:=h1 rfl hR;rw[hgt,←HBS.out.2.2]at e1;subst e1;refine hI.mono fun e w' ⟨v,he,⟨g8,c8,hv,_,hr8,f8⟩,k8⟩=>⟨g8,c8,?_,hr8,k8,f8⟩;rw[he,hv,HZN.out]))
      have HCt:=hid (zxj (k1.fr0 (Fr.refl [] wr).drew));have HFl:=hid (fun V fr2 (hV:CP w1 q g [] par own nm fr2 V)=>zzg hV);obtain⟨zs,hzs⟩:∃zs,zaf bs=zs:=⟨_,rfl⟩
      have HCV:=hid (fun W g8 c8 (hr:RowB W g8 c8 bs)=>(show(convert 44 9 (.slice (some ⟨g8,0,none⟩) zn c8)).run prog W= .ok (.string zs) W from by
       have:=zdu W (some ⟨g8,0,none⟩) c8 bs (hr.byt HBS.out.2.1 (by have:=HBS.out.1;omega));rw[HZN.out,hzs]at this;exact this))
      have hY:=HCV.out _ _ _ F4.out.2.drew;have HTr:=hid (fun A B (hA:Fr [] w A∧RowB A gw cw bs) (hf:Fr q.blocks A B)=>(show Fr [] w B∧RowB B gw cw bs from⟨hA.1.step hf (fun k hk=> .inr (HQ.out k hk)),hA.2.fr hf HGW.out.1⟩));have F4d:=hid (show Fr [] w wr.drew∧RowB wr.drew gw cw bs from⟨F4.out.1.drew,F4.out.2.drew⟩);clear k1 ho hgt hlen hR HG hzs;go_wp2_with fail;refine wp_region_held_drew (S:=fun W=>(convert 44 9 (.slice (some ⟨gw,0,none⟩) zn cw)).run prog W= .ok (.string zs) W) (by kernel_rfl) (hY) (fun yH=> ?_);refine tkY 0 yH ?_;refine tkC 1 fun K hK=> ?_;go_simp;with_reducible refine HCt.out.mono ?_
      rintro e W5 ⟨rfl,k5,f5⟩;have F5:=hid (HTr.out _ _ F4d.out f5);have hIm:=HImg.out W5 _ k5;have hY:=HCV.out _ _ _ F5.out.2;clear k5 f5;go_wp2_with fail;refine hK.out _ _ _ hY fun yH=> ?_;clear hK K;refine tkY 2 yH ?_;refine tkY 3 yH ?_;refine tkY 4 yH ?_;refine tkY 7 yH ?_;refine tkY 8 yH ?_;refine tkC 5 fun K hK=> ?_;go_simp;with_reducible refine hIm.mono ?_
      rintro e W6 ⟨g8,c8,rfl,hr8,k6,f6⟩;have F6:=hid (HTr.out _ _ F5.out f6.nil);have hfl:=HFl.out W6 _ k6;have hs8:=HCV.out _ _ _ hr8;have hY:=HCV.out _ _ _ F6.out.2;clear hr8 k6 f6;go_wp2_with fail;refine hK.out _ _ _ hY fun yH=> ?_;clear hK K;refine tkC 6 fun K hK=> ?_;go_simp;refine hK.out _ _ _ hY fun yH=> ?_;clear hK K;refine tkY 9 yH ?_;refine tkY 10 yH ?_;refine tkY 11 yH ?_;refine tkY 12 yH ?_;refine tkC 13 fun K hK=> ?_;go_simp;with_reducible refine hfl.mono ?_
      rintro e W7 ⟨rfl,-,f7⟩;have F7:=hid (HTr.out _ _ F6.out f7);have hho:=HHo.out W7 F7.out.1;have hY:=HCV.out _ _ _ F7.out.2;clear f7;go_wp2_with fail;refine hK.out _ _ _ hY fun yH=> ?_;clear hK K;refine tkY 14 yH ?_;refine tkY 15 yH ?_;refine tkY 16 yH ?_;refine tkC 17 fun K hK=> ?_;go_simp;with_reducible refine hho.mono ?_
      rintro e W8 ⟨rfl,f8⟩;have F8:=hid (And.intro (F7.out.1.trans f8) (F7.out.2.fr f8 (by simp)));have hY:=HCV.out _ _ _ F8.out.2;clear f8;go_wp2_with fail;refine hK.out _ _ _ hY fun yH=> ?_;clear hK K;refine tkY 18 yH ?_;refine tkY 19 yH ?_;refine wpAnyH_done (by kernel_rfl) ?_ _;try simp only[Act.put,List.getElem_toArray,List.getElem_cons_zero,List.getElem_cons_succ,List.setIfInBounds_toArray,List.set_cons_zero,List.set_cons_succ]
      go_wp2_with fail;go_ret;exact⟨rfl,F8.out.1⟩
theorem walk_egoneW(w:World)(h:TabM w∧Tabs w)(ad:Option Addr)(cap:Nat)(l:List A24)(hA:zk3 w ad cap l)(od:Int):Calls prog 5 #[.slice ad l.length cap,.int .i64 od] w fun e w'=>e= .returned (.bool true)∧Fr [] w w':=zlw w h.1 h.2 ad cap l hA od
end Go.Proofs.YtolhkhdbgnciiaaGreatDoor
