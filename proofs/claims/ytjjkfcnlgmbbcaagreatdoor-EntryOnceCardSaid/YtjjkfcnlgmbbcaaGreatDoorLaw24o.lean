/- law24.EntryOnce. -/
import Derived.Test.YtjjkfcnlgmbbcaaGreatDoorEE
import Derived.Test.YtjjkfcnlgmbbcaaGreatDoorEF
import Derived.Test.YtjjkfcnlgmbbcaaGreatDoorVA
import Derived.Test.YtjjkfcnlgmbbcaaGreatDoorGD
import Derived.Test.YtjjkfcnlgmbbcaaGreatDoorKT
namespace Go.Proofs.YtjjkfcnlgmbbcaaGreatDoor
set_option linter.unusedVariables false
set_option linter.unusedSimpArgs false
open Go.RowKit
def Apart(q:MH)(D:List Nat)(W:World)(X:List Nat):Prop:= ∀k∈X,k∉q.blocks∧k∉D∧k<W.heap.size
theorem Nk.apart{q:MH}{D D' X:List Nat}{w w':World}(n:Nk q D w D' w')(h:Apart q D w X):Apart q D' w' X:=fun k hk=>by
 obtain⟨h1,h2,h3⟩:=h k hk;exact⟨h1,fun hm=>(n.o k hm).elim h2 (fun e=>by omega),Nat.lt_of_lt_of_le h3 n.f.size⟩
theorem Apart.fr{q:MH}{D X S:List Nat}{w w':World}(h:Apart q D w X)(hf:Fr S w w'):Apart q D w' X:=fun k hk=>by
 obtain⟨h1,h2,h3⟩:=h k hk;exact⟨h1,h2,Nat.lt_of_lt_of_le h3 hf.size⟩
theorem Nk.blk{q:MH}{D D':List Nat}{w w':World}{gb:Nat}{t:TypeId}{cs:Array Value}(n:Nk q D w D' w')(h:Apart q D w [gb])(hb:Blk w gb t cs):Blk w' gb t cs:=
 hb.fr n.f (fun hm=>(List.mem_append.1 hm).elim (h gb (by simp)).1 (h gb (by simp)).2.1)
theorem Nk.rw_{q:MH}{D D':List Nat}{w w':World}{base:Nat}{v:Value}{L:List Nat}(n:Nk q D w D' w')(h:Apart q D w (ownS v))(hb:Rw w base v L):Rw w' base v L:=
 hb.fr n.f (fun k hk e=>by
  have hm:=h k (ownS_iff.2 e);exact(List.mem_append.1 hk).elim hm.1 hm.2.1)
theorem lit_recA(W:World)(C:List Nat)(fr:Nat×Nat)(hb:∀b∈C,b<256)(n:Nat)(hn:C.length=n)(hl:n≤1000):RecA (fun _=>True) ((W.alloc (.cells (bytes C) 5 fr)).alloc (.cells #[.slice (some ⟨W.heap.size,0,none⟩) n n] 66)) (some ⟨W.heap.size+1,0,none⟩) [C] :=by
 have c2:=cell_new0 (W.alloc (.cells (bytes C) 5 fr)) (.slice (some ⟨W.heap.size,0,none⟩) n n) 66;rw[World.size_alloc]at c2;refine⟨fun i hi=> ?_,by simp⟩;obtain rfl:i=0:=by simp at hi;omega
 refine⟨W.heap.size+1,0,some ⟨W.heap.size,0,none⟩,n,rfl,by rw[show([C][0]?.getD []).length=n from hn];exact c2,⟨fun j hj=> ?_,hb,by show C.length≤_;omega⟩,by rw[World.size_alloc,World.size_alloc];omega,trivial,fun _ _ _=>trivial⟩;have hj:j<C.length:=hj;refine⟨_,0,rfl,?_,by rw[World.size_alloc,World.size_alloc];show W.heap.size<_;omega⟩;refine(((Fr.refl [] _).alloc _).cell (p:=⟨W.heap.size,0+j,none⟩) (S:= []) (by rw[World.size_alloc];exact Nat.lt_succ_self _) (by simp)).trans ?_;rw[Nat.zero_add,World.cell?_alloc_mark];show(bytes C)[j]?=some (.int .u8 ((C[j]?.getD 0:Nat):Int));rw[bytes_get C j hj]
def OnK(w:World)(q:MH)(base p pn pr:Nat)(vh:Value)(W:World):Prop:=
 ∃D g l par own nm fr Es,KE w q base p pn pr D g l par own nm fr Es g.R g.b W∧ERel g Es∧EHs g l nm∧(∀y,own y≤g.R.length)∧Rw W base vh g.R∧Apart q D W (ownS vh)
structure OnS(w w1:World)(q:MH)(base p pn pr:Nat)(D:List Nat)(g:EW)(l:List Nat)(par own:Nat→Nat)(nm:Nat→List (List Nat))(fr:Nat)(Es:List ED)(vh:Value)(H:List Nat)(gA:Nat)(t:TypeId)(cs:Array Value)(W:World):Prop where
 k:KE w1 q base p pn pr D g l par own nm fr Es g.R g.b W
 ap:Apart q D W [gA]
 ba:Blk W gA t cs
 rw_:Rw W base vh H
 ah:Apart q D W (ownS vh)
 f:Fr [] w W
 hq:(∀k∈q.blocks,w.heap.size≤k)∧w.heap.size≤base
section
variable {w w1 W W' : World} {q : MH} {base p pn pr gA fr fr' : Nat} {D D' l l' H : List Nat} {g g' : EW} {par own par' own' : Nat → Nat} {nm nm' : Nat → List (List Nat)} {Es Es' : List ED} {vh : Value} {t : TypeId} {cs : Array Value}
theorem OnS.n(s:OnS w w1 q base p pn pr D g l par own nm fr Es vh H gA t cs W)(n:Nk q D W D' W')(k':KE w1 q base p pn pr D' g' l' par' own' nm' fr' Es' g'.R g'.b W'):OnS w w1 q base p pn pr D' g' l' par' own' nm' fr' Es' vh H gA t cs W':=
 ⟨k',n.apart s.ap,n.blk s.ap s.ba,n.rw_ s.ah s.rw_,n.apart s.ah,s.f.step n.f (fun k hk=> .inr (by
  rcases List.mem_append.1 hk with hk|hk
  ·exact s.hq.1 k hk
  ·exact Nat.le_trans s.hq.2 (s.k.hD k hk))),s.hq⟩
theorem OnS.mem(s:OnS w w1 q base p pn pr D g l par own nm fr Es vh H gA t cs W)(hf:Fr q.blocks W W')(c:CP w1 q g l par own nm fr' W'):OnS w w1 q base p pn pr D g l par own nm fr' Es vh H gA t cs W':=s.n (Nk.ofQ hf) (s.k.same hf c)
theorem OnS.fr0(s:OnS w w1 q base p pn pr D g l par own nm fr Es vh H gA t cs W)(hf:Fr [] W W'):OnS w w1 q base p pn pr D g l par own nm fr Es vh H gA t cs W':=s.n (Nk.of0 hf) (s.k.fr0 hf)
theorem KE.base_le{R:List Nat}{b:Nat}(k:KE w1 q base p pn pr D g l par own nm fr Es R b W):base≤W.heap.size:=by
 obtain⟨vE,vN,ad,cap,h⟩:=k.d;have hm:=(h.mem p).2 (.inl rfl);exact Nat.le_of_lt (Nat.lt_of_le_of_lt (k.hD p hm) (h.lt p hm))
theorem OnS.away(s:OnS w w1 q base p pn pr D g l par own nm fr Es vh H gA t cs W){da:Option Addr}{dl:List (List Nat)}(hs:StrA w da dl):0<dl.length→∀gb o,da=some ⟨gb,o,none⟩→gb∉q.blocks∧gb∉D:=fun h0 gb o e=>by
 obtain⟨g1,o1,e1,_,hg1⟩:=hs.at_ 0 h0;rw[e]at e1;injection e1 with e1;injection e1 with e1 _;subst e1;refine⟨fun hm=> ?_,fun hm=> ?_⟩
 ·have:=s.hq.1 _ hm;omega
 ·have:=s.k.hD _ hm;have:=s.hq.2;omega
end
set_option maxRecDepth 100000 in
set_option maxHeartbeats 16000000 in
theorem walk_eonce(w:World)(hM:TabM w)(hT:Tabs w)(ad:Option Addr)(cap:Nat)(l:List A24)(hA:ActA24 w ad cap l):Calls Tryz.prog 4 #[.slice ad l.length cap] w fun e w'=>e= .returned (.bool true)∧Fr [] w w':=by
 have HFew:=Lib.hid (show Calls Tryz.prog 21 #[.int .i64 0,.slice ad l.length cap] w (Few24 l w)from few24 w 0 ad cap l hA);have HHo:=Lib.hid (fun W (hf:Fr [] w W)=>holds24 W (hM.fr hf (by simp)) (hT.fr hf (by simp)));have HFr:=Lib.hid (fun W (hf:Fr [] w W)=>(show Calls Tryz.prog 23 #[.int .i64 0] W _ from fresh24 0 W (hM.fr hf (by simp)) (hT.fr hf (by simp))));have HA:=Lib.hid hA;obtain⟨nl,hnl⟩:∃nl,l.length=nl:=⟨_,rfl⟩;have HNL:=Lib.hid hnl;rw[hnl]at HFew⊢;clear hA hM hT hnl;go_enter Tryz.func4,Tryz.ntmps4;go_wp2_with fail;with_reducible refine HFew.out.mono ?_
 rintro e w1 ⟨bf,rfl,f1,hfw⟩;have F1:=Lib.hid f1;cases bf with
 |false=>
  have hh:=HHo.out w1 f1;clear f1 hfw HFew HHo HFr;go_wp2_with fail;with_reducible refine hh.mono ?_
  rintro e w2 ⟨rfl,f2⟩;have F2:=Lib.hid (F1.out.trans f2);clear f2 hh;go_wp2_with fail;go_ret;exact⟨rfl,F2.out⟩
 |true=>
  have HFW:=Lib.hid (hfw rfl);have hfr:=HFr.out w1 f1;clear f1 hfw HFew HFr;go_wp2_with fail;with_reducible refine hfr.mono ?_
  rintro e w2 ⟨q,t,rfl,h2,-,hq,f2⟩;have HNw:=Lib.hid (xenew w2 (fun _=>0) (fun _=>0) (fun _=> []));have C2:=Lib.hid h2;have HQ:=Lib.hid (fun k hk=>Nat.le_trans F1.out.size (hq k hk));have F2:=Lib.hid (F1.out.trans f2);clear h2 f2 hq hfr;go_wp2_with fail;with_reducible refine HNw.out.mono ?_
  rintro e w3 ⟨p,pn,pr,D0,rfl,d3,f3,hD3⟩;have N3:=Lib.hid (show OnK w1 q w2.heap.size p pn pr (.slice none 0 0) w3 from⟨D0,ew0 t,[],fun _=>0,fun _=>0,fun _=> [],7,[],⟨C2.out.fr0 f3,d3,C2.out.bok,hD3⟩,⟨rfl,fun d hd=>(nomatch hd)⟩,EHs.zero t _ _,fun _=>Nat.le_refl _,Rw.nil _ _,fun k hk=>by simp[ownS,Value.ownBlock]at hk⟩);have F3:=Lib.hid (F2.out.trans f3);clear d3 f3 hD3 HNw;go_wp2_with fail;go_loopg [5,6] (nl+1) (fun gk v5 v6 W=>∃i:Nat,v6= .int .i64 i∧(i+gk=nl+1∧i≤nl)∧Hid (OnK w1 q w2.heap.size p pn pr v5 W)∧Hid (Fr [] w W));case atStart=>exact⟨0,rfl,by omega,N3,F3⟩
  case round=>
   clear N3 F3;obtain⟨i,rfl,hi,HK,F4⟩:=hrel;obtain⟨G,hG⟩:∃G,G=gk:=⟨_,rfl⟩;subst hG;by_cases hlt:i<nl
   ·have b6:decide ((i:Int)<nl)=true:=by simp;omega
    have b6':decide (i<nl)=true:=by simp;omega
    have hL:i<l.length:=by rw[HNL.out];exact hlt
    obtain⟨B,off,rfl,hBl,hr⟩:=HA.out.row (by omega);have hrj:=hr i hL;have hok:=HA.out.each _ (List.getElem_mem hL);have hfew:=HFW.out.2 _ (List.getElem_mem hL);generalize l[i]'hL=d at*;obtain⟨dk,dn,da,dc,dl,dt,de,dra,drc,drl⟩:=d;have c0:=(F4.out.cell (p:=⟨B,off+i*6+0,none⟩) hBl (by simp)).trans (hrj 0 (by decide));have c1:=(F4.out.cell (p:=⟨B,off+i*6+1,none⟩) hBl (by simp)).trans (hrj 1 (by decide));have c2:=(F4.out.cell (p:=⟨B,off+i*6+2,none⟩) hBl (by simp)).trans (hrj 2 (by decide));have c3:=(F4.out.cell (p:=⟨B,off+i*6+3,none⟩) hBl (by simp)).trans (hrj 3 (by decide));have c4:=(F4.out.cell (p:=⟨B,off+i*6+4,none⟩) hBl (by simp)).trans (hrj 4 (by decide));have c5:=(F4.out.cell (p:=⟨B,off+i*6+5,none⟩) hBl (by simp)).trans (hrj 5 (by decide));have hs:=hok.s;have hrw:=hok.r;have hty:=hok.ty;have hen:=hok.en;simp only[A24.cells,List.getElem?_cons_zero,List.getElem?_cons_succ,Nat.add_zero]at c0 c1 c2 c3 c4 c5 hs hrw hty hen hfew;obtain⟨D,g,ls,par,own,nm,fr,Es,k1,er,eh,ho,hrow,hap⟩:=HK.out;obtain⟨W1,hW1⟩:∃W1,wr.alloc (.cells #[.int .i64 dk,.int .i64 dn,.slice da dl.length dc,.int .u16 dt,.int .u64 de,.slice dra drl.length drc] 60)=W1:=⟨_,rfl⟩;have fA:Fr [] wr W1:=hW1▸(Fr.refl [] wr).alloc _;have FA:=Lib.hid (F4.out.trans fA);have BA:=Lib.hid (show Blk W1 wr.heap.size 60 #[.int .i64 dk,.int .i64 dn,.slice da dl.length dc,.int .u16 dt,.int .u64 de,.slice dra drl.length drc]from hW1▸Blk.new _ _ _);have hDb:∀k∈D,w.heap.size≤k:=fun k hk=>Nat.le_trans F2.out.size (k1.hD k hk);have K1:=Lib.hid (k1.fr0 fA)
    have HAp:=Lib.hid (show Apart q D W1 [wr.heap.size]from fun k hk=>by
     obtain rfl:=List.mem_singleton.1 hk;refine⟨fun hm=> ?_,fun hm=> ?_,by rw[←hW1,World.size_alloc];exact Nat.lt_succ_self _⟩
     ·have:=k1.c.bok.q _ hm;omega
     ·have:=k1.d.lt _ hm;omega)
    have HAh:=Lib.hid (hap.fr fA);have HRo:=Lib.hid (hrow.fr0 fA)
    have hsA:0<dl.length→∀gb o,da=some ⟨gb,o,none⟩→gb∉q.blocks∧gb∉D:=fun h0 gb o e=>by
     obtain⟨g1,o1,e1,_,hg1⟩:=hs.at_ 0 h0;rw[e]at e1;injection e1 with e1;injection e1 with e1 _;subst e1;refine⟨fun hm=> ?_,fun hm=> ?_⟩
     ·have:=HQ.out _ hm;omega
     ·have:=hDb _ hm;omega
    have HRA:=Lib.hid (fun V (hV:Fr [] w V)=>(hrw.fr0 hV).recA hfew.2.2);have HPut:=Lib.hid (show Calls Tryz.prog 25 #[.int .i64 0,.pointer (some ⟨q.m,0,none⟩),.pointer (some ⟨p,0,none⟩),.slice da dl.length dc,.int .u16 dt,.int .u64 de,.slice dra drl.length drc] W1 (Pt24 w1 q w2.heap.size p pn pr D g ls par own nm Es dl dt de drl W1)from put24 0 K1.out er eh da dc dl (hs.fr FA.out) hsA hfew.2.1 hfew.1 (fun y=>by have:=ho y;have:=k1.c.rfew.1;omega) dra drc drl (HRA.out W1 FA.out) hty hen);have HSt:=Lib.hid hs;have HSA:=Lib.hid hsA;have HFE:=Lib.hid hfew;have HTY:=Lib.hid (And.intro hty hen);have HER:=Lib.hid (And.intro er (And.intro eh ho));have hn60:nl≤60:=by have:=HFW.out.1;have:=HNL.out;omega
    have i0:(0:Int)≤i:=by omega
    have i1:(i:Int)<nl:=by omega
    have wi:IntKind.i64.wrap ((i:Int)+1)=(i:Int)+1:=IntWalk.i64_in _ (by omega);obtain⟨m,hm⟩:∃m,dl.length=m:=⟨_,rfl⟩;have HM:=Lib.hid hm;obtain⟨mr,hmr⟩:∃mr,drl.length=mr:=⟨_,rfl⟩;have HMr:=Lib.hid hmr;rw[hm,hmr]at HPut BA hW1;rw[hm]at c2;rw[hmr]at c5;clear hr hrj hok hs hrw hty hen hfew k1 er eh ho hrow hap fA hDb hsA hL HK F4 hm hmr;have ddA:=BA.out.cell;go_wp2_with fail;with_reducible refine HPut.out.mono ?_
    rintro e W2 ⟨D2,n2,⟨rfl,-,fr1,k2⟩|⟨x,name,l1,par1,nm1,fr1,ad1,cp1,rfl,⟨hx0,hxb,hxR,hxl⟩,hGd,hck,hname,hnm,hsub,hna,hfi,hrec,k2⟩⟩
    ·have HF:=Lib.hid (show Fr [] w W2 from FA.out.step n2.f (fun k hk=> .inr (by
      rcases List.mem_append.1 hk with hk|hk
      ·exact HQ.out k hk
      ·exact Nat.le_trans F2.out.size (K1.out.hD k hk))))
     have HK2:=Lib.hid (show OnK w1 q w2.heap.size p pn pr u5 W2 from⟨D2,g,ls,par,own,nm,fr1,Es,k2,HER.out.1,HER.out.2.1,HER.out.2.2,n2.rw_ HAh.out HRo.out,n2.apart HAh.out⟩);clear n2 k2 HPut ddA c0 c1 c2 c3 c4 c5 hW1;go_wp2_with fail;go_roundg (G-1);case measure=>omega
     case rel=>exact⟨i+1,by go_num,by omega,HK2,HF⟩
    ·obtain⟨g',hg'⟩:∃g',g.add x (enX (clsM (32+(packN drl).length)) (packN drl).length name dt de (keyH (HN (nm1 name)) dt)) (packN drl)=g':=⟨_,rfl⟩
     obtain⟨Es',hEs'⟩:∃Es',Es++ [⟨x,name,dt,de,ad1,drl.length,cp1,false⟩] =Es':=⟨_,rfl⟩;have hR':g'.R=g.R++ [x] :=by rw[←hg'];rfl
     have hd':g'.d x=enX (clsM (32+(packN drl).length)) (packN drl).length name dt de (keyH (HN (nm1 name)) dt):=by rw[←hg'];exact up_same _ _ _
     have hp':g'.p x=packN drl:=by rw[←hg'];exact up_same _ _ _
     have hxm:x∈g'.R:=by rw[hR'];simp
     have kk:KE w1 q w2.heap.size p pn pr D2 g' l1 par1 (ownP own name) nm1 fr1 Es' g'.R g'.b W2:=by rw[←hg',←hEs'];exact k2
     have er':ERel g' Es':=by rw[←hg',←hEs'];exact HER.out.1.add hxR rfl rfl rfl
     have eh':EHs g' l1 nm1:=by rw[←hg'];exact(HER.out.2.1.sub hsub hna).add hxR hname rfl hfi
     have HO':=Lib.hid (show∀y,ownP own name y≤g'.R.length from fun y=>by
      have:=ownP_le own name y;have:=HER.out.2.2 y;rw[hR',List.length_append,List.length_singleton];omega)
     have HKy:=Lib.hid (show(g'.d x).name=name∧(g'.d x).typ=dt from by rw[hd'];exact⟨rfl,rfl⟩);have HRe:=Lib.hid (fun V fr2 (hV:CP w1 q g' l1 par1 (ownP own name) nm1 fr2 V)=>c_erecs hV hxm hp' hGd)
     have HEn:=Lib.hid (fun V fr2 (hV:CP w1 q g' l1 par1 (ownP own name) nm1 fr2 V)=>(show Calls Tryz.prog 28 #[.pointer (some ⟨q.m,0,none⟩),.int .i64 x] V fun e w'=>e= .returned (.int .u64 de)∧CP w1 q g' l1 par1 (ownP own name) nm1 fr2 w'∧Fr q.blocks V w' from by
      have:=c_eend hV hxm;rw[hd']at this;exact this))
     have HRB:=Lib.hid (fun V b v (hr:RecO V b v drl)=>hr.recA (HRA.out W1 FA.out).byte (fun y hy=>by have:=HFE.out.2.2 y hy;omega) (by have:=hGd.n.2;omega));have S2:=Lib.hid (OnS.n (g':=g') ⟨K1.out,HAp.out,BA.out,HRo.out,HAh.out,FA.out,HQ.out,F2.out.size⟩ n2 kk);have HX:=Lib.hid (And.intro er' (And.intro eh' (And.intro hR' hxm)));have HXn:=Lib.hid (And.intro hxR (And.intro hname hnm));have bx:((x:Int)==0)=false:=by rw[beq_eq_false_iff_ne];omega
     have bx':(x==0)=false:=by rw[beq_eq_false_iff_ne];exact hx0
     have ddA:=S2.out.ba.cell;clear hg' hEs' hR' hd' hp' hxm kk er' eh' hx0 hxb hxR hxl hGd hck hname hnm hsub hna hfi hrec k2 n2 HPut c0 c1 c2 c3 c4 c5 hW1 HER HAh HRo HAp K1;go_wp2_with fail;with_reducible refine(HRe.out W2 _ S2.out.k.c).mono ?_
     rintro e W3 ⟨v3,rfl,r3,k3,f3⟩;obtain⟨ad3,cp3,hv3,ra3⟩:=HRB.out _ _ _ r3;rw[HMr.out]at hv3;subst hv3;have S3:=Lib.hid (S2.out.mem f3 k3);have S3d:=Lib.hid (S3.out.fr0 (Fr.refl [] W3).drew)
     have HS6:=Lib.hid (show Calls Tryz.prog 27 #[.slice ad3 mr cp3,.slice dra mr drc] W3.drew _ from by
      have:=xsame6 W3.drew ad3 dra cp3 drc drl (ra3.fr0 (Fr.refl [] W3).drew) (HRA.out W3.drew S3d.out.f);rw[HMr.out]at this;exact this)
     clear r3 k3 f3 ra3 ddA S2;have ddA:=S3.out.ba.cell;have hY:=S3d.out.ba.cell;go_wp2_with fail;refine wp_region_held_drew (S:=fun W=>∀i,W.cell? ⟨wr.heap.size,i,none⟩=(#[.int .i64 dk,.int .i64 dn,.slice da m dc,.int .u16 dt,.int .u64 de,.slice dra mr drc] :Array Value)[i]?) (by kernel_rfl) (hY) (fun yH=> ?_);refine tkY 0 yH (h:= ?_);refine tkY 1 yH (h:= ?_);refine tkY 2 yH (h:= ?_);refine tkY 3 yH (h:= ?_);refine tkY 4 yH (h:= ?_);refine tkY 5 yH (h:= ?_);refine wpAnyH_ready (rs:= [6]) (by kernel_rfl) (by simp) ?_;refine AllReadyH.cons (o:= ?oos6) ?his6 (fun K hK=> ?hcs6) AllReadyH.nil;case his6=>(simp only[List.getElem?_toArray,List.getElem?_cons_zero,List.getElem?_cons_succ];rfl)
     go_simp;with_reducible refine HS6.out.mono ?_
     rintro e W4 ⟨rfl,f4⟩;have S4:=Lib.hid (S3d.out.fr0 f4);have hY:=S4.out.ba.cell;have hEn:=HEn.out W4 _ S4.out.k.c;clear f4;go_wp2_with fail;refine hK.out _ _ (hY) (fun yH=> ?_);clear hK K;try simp only[Act.put,List.setIfInBounds_toArray,List.set_cons_zero,List.set_cons_succ]
     refine tkY 7 yH (h:= ?_);refine tkY 8 yH (h:= ?_);refine tkY 9 yH (h:= ?_);refine tkY 10 yH (h:= ?_);refine tkY 11 yH (h:= ?_);refine tkY 13 yH (h:= ?_);refine tkY 14 yH (h:= ?_);refine wpAnyH_ready (rs:= [12]) (by kernel_rfl) (by simp) ?_;refine AllReadyH.cons (o:= ?oos14) ?his14 (fun K hK=> ?hcs14) AllReadyH.nil;case his14=>(simp only[List.getElem?_toArray,List.getElem?_cons_zero,List.getElem?_cons_succ];rfl)
     go_simp;with_reducible refine hEn.mono ?_
     rintro e W5 ⟨rfl,k5,f5⟩;have S5:=Lib.hid (S4.out.mem f5 k5);have hY:=S5.out.ba.cell;clear k5 f5;go_wp2_with fail;refine hK.out _ _ (hY) (fun yH=> ?_);clear hK K;try simp only[Act.put,List.setIfInBounds_toArray,List.set_cons_zero,List.set_cons_succ]
     refine tkY 15 yH (h:= ?_);refine tkY 16 yH (h:= ?_);refine wpAnyH_done (by kernel_rfl) ?_ _;try simp only[Act.put,List.getElem_toArray,List.getElem_cons_zero,List.getElem_cons_succ,List.setIfInBounds_toArray,List.set_cons_zero,List.set_cons_succ]
     clear hY hEn HS6 ddA S3 S3d S4;have ddA:=S5.out.ba.cell;have kc:=Lib.run_convert_bytes_const (P:=Tryz.prog) W5 66 5 #[.int .u8 111,.int .u8 116,.int .u8 104,.int .u8 101,.int .u8 114] 5 5 Tryz.underlying66 Tryz.underlying5;obtain⟨W6,hW6⟩:∃W6,(W5.alloc (.cells #[.int .u8 111,.int .u8 116,.int .u8 104,.int .u8 101,.int .u8 114] 5 (5,6))).alloc (.cells #[.slice (some ⟨W5.heap.size,0,none⟩) 5 5] 66)=W6:=⟨_,rfl⟩;have hRL:RecA (fun _=>True) W6 (some ⟨W5.heap.size+1,0,none⟩) [[111,116,104,101,114]] :=hW6▸lit_recA W5 [111,116,104,101,114] (5,6) (by decide) 5 rfl (by decide);have S6:=Lib.hid (S5.out.fr0 (show Fr [] W5 W6 from hW6▸((Fr.refl [] W5).alloc (.cells #[.int .u8 111,.int .u8 116,.int .u8 104,.int .u8 101,.int .u8 114] 5 (5,6))).alloc _))
     have HPut2:=Lib.hid (show Calls Tryz.prog 25 #[.int .i64 0,.pointer (some ⟨q.m,0,none⟩),.pointer (some ⟨p,0,none⟩),.slice da m dc,.int .u16 dt,.int .u64 de,.slice (some ⟨W5.heap.size+1,0,none⟩) 1 1] W6 (Pt24 w1 q w2.heap.size p pn pr D2 g' l1 par1 (ownP own name) nm1 Es' dl dt de [[111,116,104,101,114]] W6)from by
      have:=put24 0 S6.out.k HX.out.1 HX.out.2.1 da dc dl (HSt.out.fr S6.out.f) (S6.out.away HSt.out) HFE.out.2.1 HFE.out.1 (fun y=>by have:=HO'.out y;have:=S6.out.k.c.rfew.1;omega) (some ⟨W5.heap.size+1,0,none⟩) 1 [[111,116,104,101,114]] hRL HTY.out.1 HTY.out.2;rw[HM.out]at this;exact this)
     clear hRL;go_wp2_with fail;with_reducible refine HPut2.out.mono ?_
     rintro e W7 ⟨D7,n7,⟨rfl,-,fr7,k7⟩|⟨x7,name7,l7,par7,nm7,fr7,ad7,cp7,rfl,-,-,-,hname7,hnm7,hsub7,hna7,hfi7,-,k7⟩⟩
     ·have S7:=Lib.hid (OnS.n (g':=g') S6.out n7 k7)
      have hre:=HRe.out W7 _ S7.out.k.c;clear n7 k7 HPut2 kc hW6 ddA S5 S6;have ddA:=S7.out.ba.cell;go_wp2_with fail;with_reducible refine hre.mono ?_
      rintro e W8 ⟨v8,rfl,r8,k8,f8⟩;obtain⟨ad8,cp8,hv8,ra8⟩:=HRB.out _ _ _ r8;rw[HMr.out]at hv8;subst hv8;have S8:=Lib.hid (S7.out.mem f8 k8)
      have HS8:=Lib.hid (show Calls Tryz.prog 27 #[.slice ad8 mr cp8,.slice dra mr drc] W8 _ from by
       have:=xsame6 W8 ad8 dra cp8 drc drl ra8 (HRA.out W8 S8.out.f);rw[HMr.out]at this;exact this)
      clear r8 k8 f8 ra8 ddA S7 hre;have ddA:=S8.out.ba.cell;go_wp2_with fail;with_reducible refine HS8.out.mono ?_
      rintro e W9 ⟨rfl,f9⟩;have S9:=Lib.hid (S8.out.fr0 f9);clear f9 HS8 ddA S8;obtain⟨adh,caph,hvh,hrh⟩:=own_row S9.out.rw_;obtain⟨nR,hnR⟩:∃nR,g.R.length=nR:=⟨_,rfl⟩;rw[hnR]at hvh;subst hvh;have HNR:=Lib.hid hnR;have HRH:=Lib.hid hrh
      have hnR2:nR≤224:=by
       have:=S9.out.k.c.rfew.1;rw[HX.out.2.2.1,List.length_append,hnR]at this;omega
      clear hnR hrh;go_wp2_with fail;go_loopg [16] (nR+1) (fun gk v16 W=>∃k:Nat,v16= .int .i64 k∧(k+gk=nR+1∧k≤nR)∧W9=W);case atStart=>exact⟨0,rfl,by omega,rfl⟩
      case round=>
       obtain⟨k,rfl,hk,rfl⟩:=hrel;by_cases hkl:k<nR
       ·have b8:decide ((k:Int)<nR)=true:=by simp;omega
        have b8':decide (k<nR)=true:=by simp;omega
        have hL2:k<g.R.length:=by rw[HNR.out];exact hkl
        obtain⟨gr,rfl,-,hri⟩:=HRH.out (by omega);have cc:=hri.cell k hL2;have hne:(g.R[k]'hL2)≠x:=fun e=>HXn.out.1 (e▸List.getElem_mem hL2);generalize g.R[k]'hL2=y at*;have b9:((y:Int)==x)=false:=by rw[beq_eq_false_iff_ne];omega
        have b9':(y==x)=false:=by rw[beq_eq_false_iff_ne];exact hne
        have k0:(0:Int)≤k:=by omega
        have k1:(k:Int)<nR:=by omega
        have wk:IntKind.i64.wrap ((k:Int)+1)=(k:Int)+1:=IntWalk.i64_in _ (by omega);clear hri hL2 hne;go_wp2_with fail;go_roundg (gk-1);case measure=>omega
        case rel=>exact⟨k+1,by go_num,by omega,rfl⟩
       ·obtain rfl:k=nR:=by omega
        have b8:decide ((k:Int)<k)=false:=by simp
        have b8':decide (k<k)=false:=by simp
        have hbs:=S9.out.k.base_le;have hO9:W9.ownsRow w2.heap.size 3 1 (.slice adh k caph) g.R.length (intC g.R):=S9.out.rw_
        have HFin:=Lib.hid (fun g1 q1 W10 (hO1:W10.ownsRow w2.heap.size 3 1 (.slice (some ⟨g1,0,none⟩) (g.R.length+1) q1) (g.R++ [x]).length (intC (g.R++ [x]))) (hF1:Fr (ownS (.slice adh k caph)) W9 W10) (hob:(Value.slice adh k caph).ownBlock=some g1∨g1=W9.heap.size+1)=>(show OnK w1 q w2.heap.size p pn pr (.slice (some ⟨g1,0,none⟩) (g.R.length+1) q1) W10∧Fr [] w W10 from by
         have hown:∀y∈ownS (.slice adh k caph),w2.heap.size≤y:=fun y hy=>(own_lt hO9 hy).1;refine⟨⟨D7,g',l1,par1,ownP own name,nm1,fr7,Es',⟨S9.out.k.c.frL S9.out.k.ok hF1 hown,S9.out.k.d.frS hF1 (fun y hy=>(S9.out.ah y hy).2.1),S9.out.k.ok,S9.out.k.hD⟩,HX.out.1,HX.out.2.1,HO'.out,by rw[HX.out.2.2.1];exact hO1,fun y hy=> ?_⟩,S9.out.f.step hF1 (fun y hy=> .inr (Nat.le_trans F2.out.size (hown y hy)))⟩;have hy2:=(own_lt hO1 hy).2;have e:=ownS_iff.1 hy;injection e with e;have e:g1=y:=e;subst e;rcases hob with hob|hob
         ·obtain⟨h1,h2,_⟩:=S9.out.ah _ (ownS_iff.2 hob)
          exact⟨h1,h2,hy2⟩
         ·refine⟨fun hm=> ?_,fun hm=> ?_,hy2⟩
          ·have:=S9.out.k.c.bok.q _ hm;omega
          ·have:=S9.out.k.d.lt _ hm;omega))
        have hR2:g.R.length≤1048576:=by rw[HNR.out];omega
        go_wp2_with (first|(at_builtin;refine wpList_append2 rfl (.tmp 124) (.tmp 126) rfl rfl w2.heap.size (.slice adh k caph) g.R rfl x W9 rfl hO9 rfl hR2 hbs ?_;intro g1 q1 W10 hO1 hF1 hob1;have HEnd:=Lib.hid (HFin.out g1 q1 W10 hO1 hF1 hob1);clear hO1 hF1 hob1)|fail);go_roundg (G-1);case measure=>omega
        case rel=>exact⟨i+1,by go_num,by omega,Lib.hid HEnd.out.1,Lib.hid HEnd.out.2⟩
     ·have e1:nm7 name=lowN dl:=by rw[hna7 name HXn.out.2.1,HXn.out.2.2]
      have e2:name7=name:=k7.c.inj hname7 (HXn.out.2.1.imp id (hsub7 name)) (by rw[hnm7,e1]);have:=List.find?_eq_none.1 hfi7 x HX.out.2.2.2;rw[e2]at this;exact absurd (isKey_iff.2 HKy.out) this
   ·obtain rfl:i=nl:=by omega
    have b6:decide ((i:Int)<i)=false:=by simp
    have b6':decide (i<i)=false:=by simp
    obtain⟨D,g,ls,par,own,nm,fr,Es,k1,er,eh,ho,hrow,hap⟩:=HK.out;obtain⟨adh,caph,hvh,-⟩:=own_row hrow;have hLen:=c_rlen k1.c;have HFl:=Lib.hid (fun V (hV:CP w1 q g ls par own nm fr V)=>c_flt hV);obtain⟨nR,hnR⟩:∃nR,g.R.length=nR:=⟨_,rfl⟩;rw[hnR]at hvh hLen;subst hvh;clear hrow hap ho eh er k1 hnR HK;go_wp2_with fail;with_reducible refine hLen.mono ?_
    rintro e W2 ⟨rfl,k2,f2⟩;have hfl:=HFl.out W2 k2;have F5:=Lib.hid (F4.out.step f2 (fun k hk=> .inr (HQ.out k hk)));clear k2 f2 hLen HFl;go_wp2_with fail;with_reducible refine hfl.mono ?_
    rintro e W3 ⟨rfl,-,f3⟩;have F6:=Lib.hid (F5.out.step f3 (fun k hk=> .inr (HQ.out k hk)));have hho:=HHo.out W3 F6.out;clear f3 hfl;go_wp2_with fail;with_reducible refine hho.mono ?_
    rintro e W4 ⟨rfl,f4⟩;have F7:=Lib.hid (F6.out.trans f4);clear f4 hho;go_wp2_with fail;go_ret;exact⟨rfl,F7.out⟩
theorem walk_eonceW(w:World)(h:TabM w∧Tabs w)(ad:Option Addr)(cap:Nat)(l:List A24)(hA:ActA24 w ad cap l):Calls Tryz.prog 4 #[.slice ad l.length cap] w fun e w'=>e= .returned (.bool true)∧Fr [] w w':=walk_eonce w h.1 h.2 ad cap l hA
end Go.Proofs.YtjjkfcnlgmbbcaaGreatDoor
