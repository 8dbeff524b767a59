/- law22: name. -/
import Derived.Test.YtjjkfcnlgmbbcaaGreatDoorLaw22p
import Derived.Test.YtjjkfcnlgmbbcaaGreatDoorKT
import Derived.Test.YtjjkfcnlgmbbcaaGreatDoorMJ
namespace Go.Proofs.YtjjkfcnlgmbbcaaGreatDoor
set_option linter.unusedVariables false
set_option linter.unusedSimpArgs false
open Go.RowKit
structure Nb(q:MH)(p:Nat)(v:Value)(w:World)(v':Value)(w':World):Prop where
 f:Fr (q.blocks++p::ownS v) w w'
 o: ∀k∈ownS v',k∈ownS v∨w.heap.size≤k
section
variable {w0 w W W' : World} {q : MH} {u0 : TM} {l : List Nat} {par own : Nat → Nat} {nm : Nat → List (List Nat)} {fr x p a c base : Nat} {b s : List Nat} {v v' v2 : Value} {N : List (List Nat)} {k j at_ : Nat} {lj : List Nat} {parj : Nat → Nat} {nmj : Nat → List (List Nat)} {frj : Nat}
theorem Nb.trans{w2:World}(h:Nb q p v w v' W)(h2:Nb q p v' W v2 w2):Nb q p v w v2 w2:=
 ⟨h.f.step h2.f (fun k hk=>by
  rcases List.mem_append.1 hk with hk|hk
  ·exact .inl (List.mem_append_left _ hk)
  ·rcases List.mem_cons.1 hk with rfl|hk
   ·exact .inl (by simp)
   ·rcases h.o k hk with h|h
    ·exact .inl (List.mem_append_right _ (List.mem_cons_of_mem _ h))
    ·exact .inr h),fun k hk=>by
  rcases h2.o k hk with h3|h3
  ·exact h.o k h3
  ·exact .inr (Nat.le_trans h.f.size h3)⟩
theorem Nb.ofQ(h:Fr q.blocks w W):Nb q p v w v W:=⟨h.mono (fun k hk=> .inl (List.mem_append_left _ hk)),fun k hk=> .inl hk⟩
theorem Nb.ofX(h:Nx p v w v' W):Nb q p v w v' W:=⟨h.f.mono (fun k hk=> .inl (List.mem_append_right _ hk)),h.o⟩
theorem Nb.refl(q:MH)(p:Nat)(v:Value)(w:World):Nb q p v w v w:= .ofQ (Fr.refl _ _)
theorem Nb.cell{g o:Nat}(h:Nb q p v w v' W)(hd:DD w p v l par own nm)(hg:g<w.heap.size)(hq:g∉q.blocks)(hp:g<p):W.cell? ⟨g,o,none⟩=w.cell? ⟨g,o,none⟩:=
 h.f.cell (p:=⟨g,o,none⟩) hg (fun hm=>by
  rcases List.mem_append.1 hm with hm|hm
  ·exact hq hm
  ·rcases List.mem_cons.1 hm with e|hm
   ·have e2:g=p:=e
    omega
   ·have hm':g∈ownS v:=hm
    have h9:=(hd.r.lt g (ownS_mem hm')).1;omega)
theorem StrA.frN{S:List Nat}{ad:Option Addr}{L:List (List Nat)}(h:StrA w ad L)(hf:Fr S w W)(hS:0<L.length→∀g o,ad=some ⟨g,o,none⟩→g∉S):StrA W ad L:=
 ⟨fun i hi=>by
  obtain⟨g,o,ha,hc,hg⟩:=h.at_ i hi;exact⟨g,o,ha,(hf.cell (p:=⟨g,o+i,none⟩) hg (hS (by omega) g o ha)).trans hc,Nat.lt_of_lt_of_le hg hf.size⟩,h.lt,h.each,h.len⟩
theorem ownG_next(hx0:x≠0)(h0:own x=0)(hp:at_≠x):ownG (ownP own at_) x at_=ownP own x:=funext fun y=>by
 by_cases ha:at_=0
 ·subst ha
  unfold ownG;rw[if_pos rfl];by_cases e:y=x
  ·subst e
   rw[up_same,ownP_at _ hx0,h0]
  ·rw[up_ne _ _ e,ownP_ne _ e]
   unfold ownP;rw[if_pos rfl]
 ·unfold ownG
  rw[if_neg ha];by_cases e:y=x
  ·subst e
   rw[up_ne _ _ (fun e=>hp e.symm),up_same,ownP_at _ hx0,h0]
  ·by_cases e2:y=at_
   ·subst e2
    rw[up_same,ownP_at _ ha,ownP_ne _ e];omega
   ·rw[up_ne _ _ e2,up_ne _ _ e,ownP_ne _ e,ownP_ne _ e2]
theorem GwI.back(g:GwI w0 q u0 l par own nm N k j at_ lj parj nmj frj W')(h:DD W p v l parj own nmj):DD W p v l par own nm:=
 IsD.congr h (fun y hy=>⟨(g.pa y hy).symm,by rw[bel_congr (fun z hz=>(g.pa z hz).symm)],by rw[hdL,hdL,g.na y (.inr hy)]⟩)
theorem GwI.undoD(g:GwI w0 q u0 l par own nm N k j at_ lj parj nmj frj W')(hF:Firm own par l)(hat:at_≠0){l1:List Nat}(h1:DD W p v l1 parj (up (ownP own at_) at_ (own at_)) nmj)(h2:Rem (up (ownP own at_) at_ (own at_)) parj lj l1)(h3:Firm (up (ownP own at_) at_ (own at_)) parj l1):DD W p v l par own nm:=by
 have eo:up (ownP own at_) at_ (own at_)=own:=funext fun y=>by
  by_cases e:y=at_
  ·rw[e,up_same]
  ·rw[up_ne _ _ e,ownP_ne _ e]
 rw[eo]at h1 h2 h3
 have hF':Firm own parj l:=fun y hy h0=>by
  obtain⟨z,hz,e⟩:=hF y hy h0;exact⟨z,hz,by rw[g.pa z hz];exact e⟩
 have hl:l1=l:=h2.uniq g.rem h3 hF' g.cp.nd;subst hl;exact g.back h1
theorem GwI.undoD0(g:GwI w0 q u0 l par own nm N k j 0 lj parj nmj frj W')(hk:k+j≤N.length)(h1:DD W p v lj parj (ownP own 0) nmj):DD W p v l par own nm:=by
 have h0:k+j=0:=by
  have:=congrArg List.length g.ew;rw[g.cp.z,sfx_len hk]at this;exact this.symm
 have hl:l=lj:=g.rem.sub.eq_of_length (by rw[g.len];omega);rw[←hl]at h1;have eo:ownP own 0=own:=by unfold ownP;rw[if_pos rfl]
 rw[eo]at h1;exact g.back h1
def Nm22(w0:World)(q:MH)(u0:TM)(p:Nat)(v:Value)(w:World)(l:List Nat)(par own:Nat→Nat)(nm:Nat→List (List Nat))(e:Ending)(w':World):Prop:=
 ∃v',Nb q p v w v' w'∧
  ((e= .returned (.tuple #[.int .i64 0,.bool false,.bool true])∧ ∃fr1,CP w0 q u0 l par own nm fr1 w'∧DD w' p v' l par own nm)∨
   (∃at_:Nat,e= .returned (.tuple #[.int .i64 at_,.bool true,.bool true])∧ ∃l1 par1 nm1 fr1,(at_=0∨at_∈l1)∧CP w0 q u0 l1 par1 (ownP own at_) nm1 fr1 w'∧DD w' p v' l1 par1 (ownP own at_) nm1))
set_option maxRecDepth 100000 in
set_option maxHeartbeats 8000000 in
theorem name22(h:CP w0 q u0 l par own nm fr w)(hd:DD w p v l par own nm)(ok:BaseOk w0 q base)(hp:base≤p)(ad:Option Addr)(cap:Nat)(L:List (List Nat))(hA:StrA w ad L)(hAq:0<L.length→∀g o,ad=some ⟨g,o,none⟩→g∉q.blocks∧g<p)(hb:wireN L≤1131)(hl:L.length≤130)(ho:∀y,own y≤1000000):Calls Tryz.prog 18 #[.pointer (some ⟨q.m,0,none⟩),.pointer (some ⟨p,0,none⟩),.slice ad L.length cap] w (Nm22 w0 q u0 p v w l par own nm):=by
 have HP:=Lib.hid (c_pin h ad cap L hA (fun h0 g o e=>(hAq h0 g o e).1) (by omega) (fun y=>by have:=ho y;omega));have HXP:=Lib.hid (fun W (hf:Fr q.blocks w W)=>xpin (hd.frQ ok hp hf) h.dn ad cap L (hA.frN hf (fun h0 g o e=>(hAq h0 g o e).1)) (by omega) (fun y=>by have:=ho y;omega));have HFQ:=Lib.hid (fun W W' v' l' par' own' nm' (hW:DD W p v' l' par' own' nm') (hf:Fr q.blocks W W')=>hW.frQ ok hp hf);have HCD:=Lib.hid (fun W W' l1 par1 own1 nm1 fr1 v' l' par' own' nm' (hW:DD W p v' l' par' own' nm') (hc:CP w0 q u0 l1 par1 own1 nm1 fr1 W) (hf:Fr (p::ownS v') W W')=>hc.frD hW ok hp hf);have HA:=Lib.hid hA;have HQ:=Lib.hid (fun g (hg:g<w.heap.size) (hn:g∉q.blocks∧g<p) W v' (hW:Nb q p v w v' W) o u (hc:w.cell? ⟨g,o,none⟩=some u)=>(show W.cell? ⟨g,o,none⟩=some u from(hW.cell hd hg hn.1 hn.2).trans hc));have HAq:=Lib.hid hAq;have HO:=Lib.hid ho;have HFm:=Lib.hid h.firm;have HDN:=Lib.hid h.dn;have HD0:=Lib.hid hd;obtain⟨n,hn⟩:∃n,L.length=n:=⟨_,rfl⟩;have HN:=Lib.hid hn;rw[hn]at hl HP HXP⊢;clear h hA hAq hb ho hn hd ok hp;go_enter Tryz.func18,Tryz.ntmps18;go_wp2_with fail;with_reducible refine HP.out.mono ?_
 rintro e w1 ⟨f1,⟨hck,rfl,h1⟩|⟨hck,at0,k,rfl,hk,h1⟩⟩
 ·have hxp:=HXP.out _ f1
  have F1:=Lib.hid f1;have C1:=Lib.hid h1;have HCK:=Lib.hid hck;have bc:((chkN L:Int) !=0)=true:=by rw[bne_iff_ne];omega
  have bc':(chkN L !=0)=true:=by rw[bne_iff_ne];exact hck
  have bd:((chkN L:Int) !=chkN L)=false:=by simp
  generalize chkN L=ck at*;clear f1 h1 hck HP HXP;go_wp2_with fail;with_reducible refine hxp.mono ?_
  rintro e w2 ⟨f2,⟨-,rfl,h2⟩|⟨hc0,-⟩⟩
  ·have HE:=Lib.hid (show Nm22 w0 q u0 p v w l par own nm (.returned (.tuple #[.int .i64 0,.bool false,.bool true])) w2 from⟨v,(Nb.ofQ F1.out).trans (Nb.ofX ⟨f2.mono (fun k hk=> .inl (List.mem_cons_of_mem p hk)),fun k hk=> .inl hk⟩),.inl ⟨rfl,fr,HCD.out _ _ _ _ _ _ _ _ _ _ _ _ (HFQ.out _ _ _ _ _ _ _ HD0.out F1.out) C1.out (f2.mono (fun k hk=> .inl (List.mem_cons_of_mem p hk))),h2⟩⟩)
   clear f2 h2 hxp;go_wp2_with fail;go_returns;exact HE.out
  ·exact absurd hc0 HCK.out
 ·have hxp:=HXP.out _ f1
  have F1:=Lib.hid f1;have C1:=Lib.hid h1;have HCK:=Lib.hid hck;have HK:=Lib.hid hk;rw[hck]at hxp;clear f1 h1 hck HP HXP hk;go_wp2_with fail;with_reducible refine hxp.mono ?_
  rintro e w2 ⟨f2,⟨hc0,-⟩|⟨-,at1,k1,rfl,hk1,h2⟩⟩
  ·exact absurd rfl hc0
  obtain⟨rfl,rfl⟩:=HK.out.uniq HDN.out hk1;have hkn:k≤n:=by have:=hk1.le;rw[lowN_len,HN.out]at this;exact this
  have f2':Fr (p::ownS v) w1 w2:=f2.mono (fun k hk=> .inl (List.mem_cons_of_mem p hk));have N2:=Lib.hid (show Nb q p v w v w2 from(Nb.ofQ F1.out).trans (Nb.ofX ⟨f2',fun k hk=> .inl hk⟩));have G2:=Lib.hid (GwI.start (own:=own) (HCD.out _ _ _ _ _ _ _ _ _ _ _ _ (HFQ.out _ _ _ _ _ _ _ HD0.out F1.out) C1.out f2') hk1);have D2:=Lib.hid h2;have w1':IntKind.i64.wrap ((n:Int)-k)=((n-k:Nat):Int):=by rw[IntWalk.i64_in _ (by omega)];omega
  have w2':IntKind.i64.wrap (((n-k:Nat):Int)-1)=((n-k:Nat):Int)-1:=IntWalk.i64_in _ (by omega);obtain⟨R,hR⟩:∃R,n-k=R:=⟨_,rfl⟩;rw[hR]at w1' w2';have hRn:k+R=n:=by omega
  clear hxp f2 f2' h2 hk1 hR C1 HK F1;go_wp2_with fail;go_loopg [9,15] (R+1) (fun gk v9 v15 W=>∃(j at_ m:Nat),v9= .int .i64 at_∧v15= .int .i64 ((m:Int)-1)∧(m+1=gk∧j+m=R)∧Hid (∃v' lj parj nmj frj,GwI w0 q u0 l par own nm (lowN L) k j at_ lj parj nmj frj W∧DD W p v' lj parj (ownP own at_) nmj∧Nb q p v w v' W));case atStart=>exact⟨0,at0,R,rfl,rfl,by omega,Lib.hid ⟨_,_,_,_,_,G2.out,D2.out,N2.out⟩⟩
  case round=>
   clear G2 D2 N2;obtain⟨j,at_,m,rfl,rfl,hm,HG⟩:=hrel;cases m with
   |zero=>
    have HE:=Lib.hid (show Nm22 w0 q u0 p v w l par own nm (.returned (.tuple #[.int .i64 at_,.bool true,.bool true])) wr from by
     obtain⟨v',lj,parj,nmj,frj,h1,h2,h3⟩:=HG.out;exact⟨v',h3,.inr ⟨at_,rfl,lj,parj,nmj,frj,h1.pl,h1.cp,h2⟩⟩)
    rw[show(((0:Nat):Int)-1)= -1 from rfl];clear HG HCK;go_wp2_with fail;go_returns;exact HE.out
   |succ t=>
    have ez:(((t+1:Nat):Int)-1)=(t:Int):=by omega
    rw[ez];have hL:t<L.length:=by rw[HN.out];omega
    obtain⟨g,o,rfl,hc,hg⟩:=HA.out.at_ t hL;have hgd:L[t]?=some (L[t]'hL):=List.getElem?_eq_getElem hL;rw[hgd]at hc;simp only[Option.getD_some]at hc;have hs:=HA.out.lt _ (List.getElem_mem hL)
    have hsk:labOk (L[t]'hL)=true:=by
     have hck:=HCK.out;unfold chkN at hck;by_cases ha:L.all labOk=true
     ·exact List.all_eq_true.1 ha _ (List.getElem_mem hL)
     ·rw[if_neg ha]at hck;cases hck
    have HSX:=Lib.hid (show sfx (lowN L) (k+j+1)=(L[t]'hL).map lowB::sfx (lowN L) (k+j)from by
     rw[sfx_succ (by rw[lowN_len,HN.out];omega)];congr 1;simp only[lowN,List.getElem_map,List.length_map,HN.out];congr 1;congr 1;omega)
    have hkl:k+j<(lowN L).length:=by rw[lowN_len,HN.out];omega
    obtain⟨v',lj,parj,nmj,frj,hG,hDj,hNj⟩:=HG.out;have HcW:=Lib.hid (fun W v2 (hW:Nb q p v w v2 W)=>HQ.out g hg (HAq.out (by omega) g o rfl) W v2 hW _ _ hc);have hcW:=HcW.out _ _ hNj;generalize L[t]'hL=s at*;have hs63:=(labOk_len hsk).2;have hcls:=clsN_ok (16+s.length) (by omega);have HCl:=Lib.hid (c_class hG.cp hs hsk);have HTk:=Lib.hid (fun W' (hf:Fr [] wr W')=>c_take (hG.cp.fr0 hf) (c:=clsN (16+s.length)) ⟨hcls.1,hcls.2.1⟩);have HG2:=Lib.hid hG;have HDJ:=Lib.hid hDj;have HNJ:=Lib.hid hNj
    have hpa:at_=0∨(at_∈lj∧ownP own at_ at_≠0):=hG.pl.imp id (fun hm=>⟨hm,by
      have h0:at_≠0:=(hG.cp.rng hm).1;rw[ownP_at _ h0];omega⟩)
    have hnos:∀y∈lj,nmj y≠s.map lowB::nmj at_:=fun y hy e=>hG.no hkl y hy (by rw[e,HSX.out,hG.ew])
    have HGr:=Lib.hid (fun W x (hW:CPT w0 q u0 lj parj (ownP own at_) nmj x (clsN (16+s.length)) W)=>c_grow hW (p:=at_) hpa hs hsk hnos (fun _=>by
      have:=ownP_le own at_ at_;have:=HO.out at_;omega) hG.cp.few)
    have HXG:=Lib.hid (fun W x (hW:DD W p v' lj parj (ownP own at_) nmj) (h1:x∉lj) (h2:x≠0)=>xgrow hW hG.cp.dn ⟨h1,h2,hpa⟩ hs hsk hnos (fun y=>by
      have:=ownP_le own at_ y;have:=HO.out y;omega))
    have HXD:=Lib.hid (fun(h0:at_≠0) W (hW:DD W p v' lj parj (ownP own at_) nmj)=>xdrop hW hG.cp.dn (hG.pl.resolve_left h0) (own at_) (ownP_at own h0) (fun y=>by
      have:=ownP_le own at_ y;have:=HO.out y;omega))
    have HX0:=Lib.hid (fun x (hx:x∉lj)=>(show own x=0 from by
     have h1:=hG.cp.out hx;have h2:=ownP_ge own at_ x;omega))
    have HKL:=Lib.hid hkl;have HNDj:=Lib.hid hG.cp.nd;have b1:decide ((0:Int)≤t)=true:=by simp
    have t0:(0:Int)≤t:=by omega
    have t1:(t:Int)<n:=by omega
    have wt:IntKind.i64.wrap ((t:Int)-1)=(t:Int)-1:=IntWalk.i64_in _ (by omega);generalize strOf s=S at*;generalize clsN (16+s.length)=cl at*;clear hc hgd hL hs hsk hG hs63 hcls hkl ez HG hDj hNj hpa hnos;go_wp2_with fail;with_reducible refine HCl.out.mono ?_
    rintro e w3 ⟨rfl,f3⟩;have HTk':=Lib.hid (HTk.out _ f3);have F3:=Lib.hid (f3.nil (S:=q.blocks));clear f3 HCl HTk hcW;go_wp2_with fail;with_reducible refine HTk'.out.mono ?_
    rintro e w4 ⟨x,r,rfl,f4,⟨rfl,h4⟩|⟨rfl,h4⟩⟩
    ·have F4:=Lib.hid (F3.out.trans f4)
     have D4:=Lib.hid (HFQ.out _ _ _ _ _ _ _ HDJ.out F4.out);have H4:=Lib.hid h4;clear f4 h4 HTk' HGr HX0 HXG;by_cases ha:at_=0
     ·subst ha
      have HU:=Lib.hid (show CP w0 q u0 l par own nm 0 w4 from(⟨H4.out,HG2.out.pl,HG2.out.ew,HG2.out.rem,HG2.out.pa,HG2.out.na,HG2.out.len,HG2.out.sf,HG2.out.no⟩:GwI w0 q u0 l par own nm (lowN L) k j 0 lj parj nmj 0 w4).undo0 (Nat.le_of_lt HKL.out));have HE:=Lib.hid (show Nm22 w0 q u0 p v w l par own nm (.returned (.tuple #[.int .i64 0,.bool false,.bool true])) w4 from⟨v',HNJ.out.trans (Nb.ofQ F4.out),.inl ⟨rfl,_,HU.out,HG2.out.undoD0 (Nat.le_of_lt HKL.out) D4.out⟩⟩);clear HU H4 HG2 HXD;go_wp2_with fail;with_reducible refine(c_drop0).mono ?_
      rintro e w5 ⟨rfl,he⟩;rw[he];clear he;go_wp2_with fail;with_reducible refine(xdrop0).mono ?_
      rintro e w6 ⟨rfl,he⟩;rw[he];clear he;go_wp2_with fail;go_returns;exact HE.out
     ·have HDr:=Lib.hid (c_drop H4.out (HG2.out.pl.resolve_left ha) (own at_) (ownP_at own ha))
      have HAT:=Lib.hid ha;clear ha H4;go_wp2_with fail;with_reducible refine HDr.out.mono ?_
      rintro e w5 ⟨n5,l1,fr1,rfl,f5,h5,h5b,h5c⟩;have D5:=Lib.hid (HFQ.out _ _ _ _ _ _ _ D4.out f5);have hxd:=HXD.out HAT.out _ D5.out;have F5:=Lib.hid (F4.out.trans f5);have H5:=Lib.hid h5;have R5:=Lib.hid h5b;have L5:=Lib.hid h5c;clear f5 h5 h5b h5c HDr;go_wp2_with fail;with_reducible refine hxd.mono ?_
      rintro e w6 ⟨n6,l6,v6,rfl,h6,r6,c6,m6,x6⟩;have el:l6=l1:=r6.uniq R5.out m6 H5.out.firm HNDj.out;subst el;have en:n6=n5:=by have:=L5.out;omega
      subst en;have be:((n6:Int)==n6)=true:=by simp
      have HE:=Lib.hid (show Nm22 w0 q u0 p v w l par own nm (.returned (.tuple #[.int .i64 0,.bool false,.bool true])) w6 from⟨v6,(HNJ.out.trans (Nb.ofQ F5.out)).trans (Nb.ofX x6),.inl ⟨rfl,fr1,HG2.out.undo HFm.out HAT.out (HCD.out _ _ _ _ _ _ _ _ _ _ _ _ D5.out H5.out x6.f) R5.out,HG2.out.undoD HFm.out HAT.out h6 r6 m6⟩⟩);clear h6 r6 c6 m6 x6 hxd HG2;go_wp2_with fail;go_returns;exact HE.out
    ·have F4:=Lib.hid (F3.out.trans f4)
     have HGr':=Lib.hid (fun W (hf:Fr [] w4 W)=>HGr.out _ _ (h4.fr0 hf));have hcW:=HcW.out _ _ (HNJ.out.trans (Nb.ofQ F4.out));clear f4 h4 HTk' HGr;go_wp2_with fail;have hY:w4.drew.cell? ⟨g,o+t,none⟩=some (.string S):=hcW;refine wp_region_held_drew (S:=fun W=>W.cell? ⟨g,o+t,none⟩=some (.string S)) (by kernel_rfl) (hY) (fun yH=> ?_);refine tkY 0 yH (h:= ?_);refine tkY 1 yH (h:= ?_);refine tkY 2 yH (h:= ?_);refine tkY 3 yH (h:= ?_);refine tkY 4 yH (h:= ?_);refine tkY 5 yH (h:= ?_);refine tkY 6 yH (h:= ?_);refine tkY 8 yH (h:= ?_);refine tkY 9 yH (h:= ?_);refine tkY 10 yH (h:= ?_);refine tkY 11 yH (h:= ?_);refine tkY 12 yH (h:= ?_);refine tkY 13 yH (h:= ?_);refine tkY 14 yH (h:= ?_);refine wpAnyH_ready (rs:= [7]) (by kernel_rfl) (by simp) ?_;refine AllReadyH.cons (o:= ?oon14) ?hin14 (fun K hK=> ?hcn14) AllReadyH.nil;case hin14=>(simp only[List.getElem?_toArray,List.getElem?_cons_zero,List.getElem?_cons_succ];rfl)
     go_simp;with_reducible refine(HGr'.out _ (Fr.refl [] _).drew).mono ?_
     rintro e w5 ⟨rfl,f5,hx1,hx2,hx3,fr5,h5⟩;have F5:=Lib.hid (F4.out.trans (((Fr.refl [] w4).drew.nil (S:=q.blocks)).trans f5));have D5:=Lib.hid (HFQ.out _ _ _ _ _ _ _ HDJ.out F5.out);have hxg:=HXG.out _ x D5.out hx1 hx2;have N5:=Lib.hid (HNJ.out.trans (Nb.ofQ F5.out));have C5:=Lib.hid h5;have X5:=Lib.hid (And.intro hx1 (And.intro hx2 hx3));have hY:=HcW.out _ _ N5.out;clear f5 h5 hx1 hx2 hx3;go_wp2_with fail;refine hK.out _ _ (hY) (fun yH=> ?_);clear hK K;try simp only[Act.put,List.setIfInBounds_toArray,List.set_cons_zero,List.set_cons_succ]
     refine wpAnyH_ready (rs:= [15]) (by kernel_rfl) (by simp) ?_;refine AllReadyH.cons (o:= ?oon15) ?hin15 (fun K hK=> ?hcn15) AllReadyH.nil;case hin15=>(simp only[List.getElem?_toArray,List.getElem?_cons_zero,List.getElem?_cons_succ];rfl)
     go_simp;with_reducible refine hxg.mono ?_
     rintro e w6 ⟨v6,rfl,d6,x6⟩;have N6:=Lib.hid (N5.out.trans (Nb.ofX x6));have G6:=Lib.hid (HG2.out.next HKL.out HSX.out X5.out.1 X5.out.2.1 X5.out.2.2 (HX0.out x X5.out.1) (HCD.out _ _ _ _ _ _ _ _ _ _ _ _ D5.out C5.out x6.f));rw[ownG_next X5.out.2.1 (HX0.out x X5.out.1) X5.out.2.2]at d6;have D6:=Lib.hid d6;have hY:=HcW.out _ _ N6.out;clear d6 x6;go_wp2_with fail;refine hK.out _ _ (hY) (fun yH=> ?_);clear hK K;try simp only[Act.put,List.setIfInBounds_toArray,List.set_cons_zero,List.set_cons_succ]
     refine tkY 16 yH (h:= ?_);refine wpAnyH_done (by kernel_rfl) ?_ _;try simp only[Act.put,List.getElem_toArray,List.getElem_cons_zero,List.getElem_cons_succ,List.setIfInBounds_toArray,List.set_cons_zero,List.set_cons_succ]
     clear hY hcW hxg HX0 HXD HXG HCD HFQ;go_wp2_with fail;go_roundg (gk-1);case measure=>omega
     case rel=>exact⟨j+1,x,t,rfl,rfl,by omega,Lib.hid ⟨v6,_,_,_,_,G6.out,D6.out,N6.out⟩⟩
end
end Go.Proofs.YtjjkfcnlgmbbcaaGreatDoor
