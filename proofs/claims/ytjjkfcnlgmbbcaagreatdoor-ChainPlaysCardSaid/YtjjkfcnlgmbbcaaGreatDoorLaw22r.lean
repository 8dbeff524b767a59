/- law22.ChainPlays: the walk. Printed by gen22p.py. -/
import Derived.Test.YtjjkfcnlgmbbcaaGreatDoorLaw22k
import Derived.Test.YtjjkfcnlgmbbcaaGreatDoorMJ
import Derived.Test.YtjjkfcnlgmbbcaaGreatDoorGI
import Derived.Test.YtjjkfcnlgmbbcaaGreatDoorGA
namespace Go.Proofs.YtjjkfcnlgmbbcaaGreatDoor
set_option linter.unusedVariables false
set_option linter.unusedSimpArgs false
open Go.RowKit
theorem Rw.lo9{W:World}{base base':Nat}{v:Value}{L:List Nat}(h:W.ownsRow base' 3 1 v L.length (intC L))(hb:base≤base'):Rw W base v L:=Rw.lo (show Rw W base' v L from h) hb
set_option maxRecDepth 100000 in
set_option maxHeartbeats 16000000 in
theorem walk_cplays(w:World)(hM:TabM w)(hT:Tabs w)(ad:Option Addr)(cap:Nat)(l:List A22)(hA:ActA22 w ad cap l):Calls Tryz.prog 3 #[.slice ad l.length cap] w fun e w'=>e= .returned (.bool true)∧Fr [] w w':=by
 have HGo:=Lib.hid (fun V (hV:Fr [] w V)=>(show Calls Tryz.prog 9 #[] V fun e w'=>e= .returned (.bool true)∧Fr [] V w' from grows22 V (hM.fr hV (by simp)) (hT.fr hV (by simp))));have HF:=Lib.hid (fun V (hV:Fr [] w V)=>fresh22 V (hM.fr hV (by simp)) (hT.fr hV (by simp)));have HW:=Lib.hid (few22 w 0 ad cap l hA);have HA:=Lib.hid hA;have hle:=hA.len;obtain⟨n,hn⟩:∃n,l.length=n:=⟨_,rfl⟩;have HN:=Lib.hid hn;rw[hn]at hle⊢;rw[hn]at HW;clear hn hA hM hT;go_enter Tryz.func3,Tryz.ntmps3;go_wp2_with fail;with_reducible refine HW.out.mono ?_
 rintro e wa ⟨bf,rfl,fa,hbf⟩;have FA:=Lib.hid fa;clear fa HW;cases bf with
 |false=>
  clear hbf;go_wp2_with fail;with_reducible refine(HGo.out _ FA.out).mono ?_
  rintro e w1 ⟨rfl,f1⟩;have F1:=Lib.hid (FA.out.trans f1);clear f1;go_wp2_with fail;go_ret;exact⟨rfl,F1.out⟩
 |true=>
  have hn60:=(hbf rfl).1;rw[HN.out]at hn60;have HFew:=Lib.hid (hbf rfl).2;have hf:=HF.out _ FA.out;clear hbf HF;go_wp2_with fail;with_reducible refine hf.mono ?_
  rintro e w1 ⟨q,u0,rfl,n1,-,hq,f1⟩;have HQ:=Lib.hid (fun k hk=>(show w.heap.size≤k from Nat.le_trans FA.out.size (hq k hk)));have f1':=FA.out.trans f1;have F1:=Lib.hid (f1'.alloc (.cells #[.slice none 0 0] 31));have HPW:=Lib.hid f1'.size
  have K1:=Lib.hid (show KP wa q u0 w1.heap.size (.slice none 0 0) (.slice none 0 0) [] [] (w1.alloc (.cells #[.slice none 0 0] 31))from
   ⟨⟨[],_,_,_,_,(CP.start n1).fr0 ((Fr.refl [] w1).alloc _),⟨Blk.new _ _ _,Rkn.nil _ _⟩,fun y _=>rfl⟩,Rw.nil _ _,fun g hg=>(nomatch hg),n1.bok⟩)
  clear n1 hq f1 hf FA f1';go_wp2_with fail;generalize w1.alloc (.cells #[.slice none 0 0] 31)=w2 at*;generalize w1.heap.size=p at*;go_loopg [5,6] (n+1) (fun gk v5 v6 W=>∃(i:Nat) (v:Value) (P:List Nat),v6= .int .i64 i∧(i+gk=n+1∧i≤n∧P.length≤i)∧Hid (KP wa q u0 p v v5 P P W)∧Hid (Fr [] w W));case atStart=>exact⟨0,_,[],rfl,by simp,K1,F1⟩
  case round=>
   clear K1 F1;obtain⟨i,v,P,rfl,hi,KH,F3⟩:=hrel;by_cases hlt:i<n
   ·have b6:decide ((i:Int)<n)=true:=by simp;omega
    have b6':decide (i<n)=true:=by simp;omega
    have hL:i<l.length:=by rw[HN.out];exact hlt
    obtain⟨B,off,rfl,hBl,hr⟩:=HA.out.row (by omega);have hrj:=hr i hL;have hok:=HA.out.each _ (List.getElem_mem hL);have hfe:=HFew.out _ (List.getElem_mem hL);generalize l[i]'hL=d at*;obtain⟨dk,dn,da,dc,dl⟩:=d;have hc0:=hrj 0 (by decide);have hc1:=hrj 1 (by decide);have hc2:=hrj 2 (by decide);have hs:=hok.s;have hcd:=hok.c;simp only[A22.cells,List.getElem?_cons_succ,List.getElem?_cons_zero,Nat.add_zero]at hc0 hc1 hc2 hs hcd hfe;have c0:=(F3.out.cell (p:=⟨B,off+i*3,none⟩) hBl (by simp)).trans hc0;have c1:=(F3.out.cell (p:=⟨B,off+i*3+1,none⟩) hBl (by simp)).trans hc1;have c2:=(F3.out.cell (p:=⟨B,off+i*3+2,none⟩) hBl (by simp)).trans hc2;have HSA:=Lib.hid (fun W (hW:Fr [] w W)=>hs.fr hW)
    have HSq:=Lib.hid (fun(h0:0<dl.length) g o (e:da=some ⟨g,o,none⟩)=>(show g∉q.blocks∧g<p from by
     obtain⟨g',o',e',_,hg⟩:=hs.at_ 0 h0;rw[e']at e;injection e with e;injection e with e1;subst e1;exact⟨fun hm=>by have:=HQ.out _ hm;omega,by have:=HPW.out;omega⟩))
    have HFE:=Lib.hid hfe.2;have hl130:=hfe.1;obtain⟨nn,hnn⟩:∃nn,dl.length=nn:=⟨_,rfl⟩;rw[hnn]at c2 hl130 hcd;have HNN:=Lib.hid hnn;obtain⟨ad5,cap5,e5,-⟩:=own_row KH.out.r;obtain⟨m,hm⟩:∃m,P.length=m:=⟨_,rfl⟩;have HM:=Lib.hid hm;rw[hm]at e5;subst e5;have K4:=Lib.hid (KH.out.fr0 ((Fr.refl [] wr).alloc (.cells #[.int .i64 dk,.int .i64 dn,.slice da nn dc] 35)));have F4:=Lib.hid (F3.out.alloc (.cells #[.int .i64 dk,.int .i64 dn,.slice da nn dc] 35));have HB7:=Lib.hid (Blk.new wr 35 #[.int .i64 dk,.int .i64 dn,.slice da nn dc])
    have HPW2:=Lib.hid (show p+1≤(wr.alloc (.cells #[.int .i64 dk,.int .i64 dn,.slice da nn dc] 35)).heap.size from by
     obtain⟨l0,par,own,nm,fr,h1,h2,h3⟩:=K4.out.c;exact h2.st.lt)
    have HB7q:=Lib.hid (show wr.heap.size∉q.blocks from fun hmm=>by
     have:=KH.out.ok.q _ hmm;obtain⟨l0,par,own,nm,fr,h1,h2,h3⟩:=KH.out.c;have:=h2.st.lt;omega)
    have hrow:=(own_row K4.out.r);obtain⟨ad6,cap6,e6,hrow⟩:=hrow;injection e6 with e6 e8 e7;clear e8;subst e6 e7;have i0:(0:Int)≤i:=by omega
    have i1:(i:Int)<n:=by omega
    have wi:IntKind.i64.wrap ((i:Int)+1)=(i:Int)+1:=IntWalk.i64_in _ (by omega);have hm60:m≤60:=by omega
    clear hr hrj hok hc0 hc1 hc2 hs hfe hnn hL KH F3 hm;by_cases h34:dk=3∨dk=4
    ·rcases h34 with h34|h34
     all_goals
      subst h34;by_cases h0:0<m
      ·have b1:decide ((0:Int)<m)=true:=by simp;omega
       have b1':decide (0<m)=true:=by simp;omega
       by_cases hN:0≤dn
       ·have b2:decide (dn≥0)=true:=by simp;omega
        have b2':decide (0≤dn)=true:=by simp;omega
        have b3:((m:Int)==0)=false:=by rw[beq_eq_false_iff_ne];omega
        have b3':(m==0)=false:=by rw[beq_eq_false_iff_ne];omega
        obtain⟨t1,t2⟩:=tmod_in dn m h0 (by omega);obtain⟨k,hk⟩:∃k,dn.toNat %m=k:=⟨_,rfl⟩;have hkm:k<m:=by rw[←hk];exact Nat.mod_lt _ h0
        have hR:dn.tmod (m:Int)=(k:Int):=by
         obtain⟨z,rfl⟩:=Int.eq_ofNat_of_zero_le hN;rw[←hk];rfl
        have hR2:dn %(m:Int)=(k:Int):=by
         obtain⟨z,rfl⟩:=Int.eq_ofNat_of_zero_le hN;rw[←hk];rfl
        rw[hR]at t1;clear t2 hk;have k0:(0:Int)≤k:=by omega
        have k1:(k:Int)<m:=by omega
        obtain⟨a,ha⟩:∃a,P[k]?=some a:=⟨_,List.getElem?_eq_getElem (by rw[HM.out];exact hkm)⟩;obtain⟨g,rfl,hgb,hrI⟩:=hrow (by rw[HM.out];exact h0);have hcA:=hrI.cell k (by rw[HM.out];exact hkm);rw[(List.getElem?_eq_some_iff.1 ha).2]at hcA;have HA9:=Lib.hid ha;have hdr:=kp_drop K4.out ha (by rw[HM.out];omega);clear hrI ha;go_wp2_with fail;with_reducible refine hdr.mono ?_
        rintro e w5 ⟨nd,rfl,f5,hr5,hx5⟩;have hcA:=((hr5.rowI (by rw[HM.out];exact h0)).1).cell k (by rw[HM.out];exact hkm);rw[(List.getElem?_eq_some_iff.1 HA9.out).2]at hcA;have HX5:=Lib.hid hx5;clear hdr f5 hr5 hx5;go_wp2_with fail;with_reducible refine HX5.out.mono ?_
        rintro e w6 ⟨v6,rfl,hn6,hk6⟩;have hr6:=(hk6.r.rowI (by rw[HM.out];exact h0)).1;obtain⟨va,wa6,vb,wb6,e1,e2,o6,f6⟩:=cut_run hr6 (k:=k) (by rw[HM.out];exact hkm) (by rw[HM.out];omega);have hcapm:=hr6.le;rw[HM.out]at e2 hcapm;have HE1:=Lib.hid e1;have HE2:=Lib.hid e2;have F6:=Lib.hid ((K4.out.out HQ.out HPW.out F4.out hn6).trans f6);have K6:=Lib.hid (hk6.app (Rw.lo9 o6 (Nat.le_trans HPW2.out hn6.f.size)) f6.nil (fun g hg=> .inr (o6.lt g (ownS_mem hg)).1));have hcl:=cut_len (L:=P) (k:=k) (by rw[HM.out];exact hkm);have g2:(k:Int)≤cap5:=by omega
        have g2':k≤cap5:=by omega
        have g3:(k:Int)+1≤m:=by omega
        have g3':k+1≤m:=by omega
        have g4:(m:Int)≤cap5:=by omega
        have g5:IntKind.i64.wrap ((k:Int)+1)=(k:Int)+1:=IntWalk.i64_in _ (by omega);have g6:(0:Int)≤(k:Int)+1:=by omega
        have g8:((k:Int)+1).toNat=k+1:=by omega
        have hlP:(cutL P k).length≤i:=by have:=HM.out;omega
        clear e1 e2 o6 f6 hr6 hcA HX5 hn6 hk6 hcl hR hR2 t1;generalize hc2:(if cap5-(k+1)=0 then(some ⟨g,0,none⟩:Option Addr)else some ⟨g,k+1,none⟩)=ad2 at*
        have hc3:(if cap5=k+1 then(some ⟨g,0,none⟩:Option Addr)else some ⟨g,k+1,none⟩)=ad2:=by
         rw[←hc2];by_cases e:cap5=k+1
         ·rw[if_pos e,if_pos (by omega)]
         ·rw[if_neg e,if_neg (by omega)]
        go_wp2_with fail;apply cutGN
        ·intro key
         go_region_law (first|(refine step_appN rfl (.tmp 101) (.tmp 104) 32 rfl rfl _ _ _ _ (by simp[Act.eval,Act.put]) (by simp[Act.eval,Act.put]) HE1.out ?_)|(refine step_appN rfl (.tmp 105) (.tmp 109) 32 rfl rfl _ _ _ _ (by simp[Act.eval,Act.put]) (by simp[Act.eval,Act.put,hc3]) HE2.out ?_));all_goals exact key
        ·clear hc3 HE1 HE2 hc2
         try simp only[Act.put,List.getElem_toArray,List.getElem_cons_zero,List.getElem_cons_succ,List.setIfInBounds_toArray,List.set_cons_zero,List.set_cons_succ]
         go_wp2_with fail;with_reducible refine(kp_same K6.out).mono ?_
         rintro e w19 ⟨rfl,k19,f19⟩;have K19:=Lib.hid k19;have F19:=Lib.hid (F6.out.step f19 (fun k hk=> .inr (HQ.out k hk)));clear k19 f19;go_wp2_with fail;go_roundg (gk-1);case measure=>omega
         case rel=>exact⟨i+1,_,_,by go_num,by have:=HM.out;omega,K19,F19⟩
       ·have b2:decide (dn≥0)=false:=by simp;omega
        have b2':decide (0≤dn)=false:=by simp;omega
        clear hN;go_wp2_with fail;with_reducible refine(kp_same K4.out).mono ?_
        rintro e w19 ⟨rfl,k19,f19⟩;have K19:=Lib.hid k19;have F19:=Lib.hid (F4.out.step f19 (fun k hk=> .inr (HQ.out k hk)));clear k19 f19;go_wp2_with fail;go_roundg (gk-1);case measure=>omega
        case rel=>exact⟨i+1,_,_,by go_num,by have:=HM.out;omega,K19,F19⟩
      ·have b1:decide ((0:Int)<m)=false:=by simp;omega
       have b1':decide (0<m)=false:=by simp;omega
       clear h0;go_wp2_with fail;with_reducible refine(kp_same K4.out).mono ?_
       rintro e w19 ⟨rfl,k19,f19⟩;have K19:=Lib.hid k19;have F19:=Lib.hid (F4.out.step f19 (fun k hk=> .inr (HQ.out k hk)));clear k19 f19;go_wp2_with fail;go_roundg (gk-1);case measure=>omega
       case rel=>exact⟨i+1,_,_,by go_num,by have:=HM.out;omega,K19,F19⟩
    have h3:dk≠3:=fun e=>h34 (.inl e);have h4:dk≠4:=fun e=>h34 (.inr e);clear h34;by_cases h5:dk=5
    ·subst h5
     clear h3 h4;obtain⟨l0,par,own,nm,fr,hC,hD,hO⟩:=K4.out.c;have HDN:=Lib.hid hC.dn;have OK:=Lib.hid K4.out.ok;have hcf:=cfindN hC da dc dl (HSA.out _ F4.out) (fun h0 g o e=>(HSq.out h0 g o e).1);have HO:=Lib.hid hO;have D4:=Lib.hid hD;have hw:=HFE.out;rw[HNN.out]at hcf;clear hC hD hO;go_wp2_with fail;with_reducible refine hcf.mono ?_
     rintro e w5 ⟨at_,k,rfl,hk,c5,f5⟩
     obtain⟨z,bb,hz⟩:∃(z:Nat) (bb:Bool),(if k<nn then Value.tuple #[.int .i64 0,.bool false]else .tuple #[.int .i64 at_,.bool true])= .tuple #[.int .i64 z,.bool bb] :=by
      by_cases h:k<nn
      ·exact⟨0,false,if_pos h⟩
      ·exact⟨at_,true,if_neg h⟩
     have HK:=Lib.hid hk;have HZ:=Lib.hid hz;have C5:=Lib.hid c5;have D5:=Lib.hid (D4.out.frQ OK.out (Nat.le_refl _) f5);have F5:=Lib.hid (F4.out.step f5 (fun k hk=> .inr (HQ.out k hk)));have c7:=(HB7.out.fr f5 HB7q.out).cell 2;have B5:=Lib.hid (HB7.out.fr f5 HB7q.out);simp only[List.getElem?_toArray,List.getElem?_cons_zero,List.getElem?_cons_succ]at c7;have hxf:=xfind22 D5.out HDN.out da dc dl (HSA.out _ F5.out) (by omega);rw[HNN.out]at hxf;rw[hz];have N5:=Lib.hid (Nb.ofQ (p:=p) (v:=v) f5);clear hcf hk hz c5 f5;go_wp2_with fail;with_reducible refine hxf.mono ?_
     rintro e w6 ⟨at2,k2,rfl,hk2,f6⟩;obtain⟨rfl,rfl⟩:=HK.out.uniq HDN.out hk2;rw[HZ.out];have C6:=Lib.hid (C5.out.fr0 f6);have D6:=Lib.hid (D5.out.fr0 f6);have F6:=Lib.hid (F5.out.trans f6);have B6:=Lib.hid (B5.out.fr f6 (by simp));have c7:=B6.out.cell 2;simp only[List.getElem?_toArray,List.getElem?_cons_zero,List.getElem?_cons_succ]at c7;have hck:=cknown C6.out da dc dl (HSA.out _ F6.out) (fun h0 g o e=>(HSq.out h0 g o e).1);rw[HNN.out]at hck;have N6:=Lib.hid (N5.out.trans (Nb.ofQ (f6.nil (S:=q.blocks))));clear hxf hk2 f6;go_wp2_with fail;with_reducible refine hck.mono ?_
     rintro e w7 ⟨at3,k3,rfl,hk3,c7',f7⟩;obtain⟨rfl,rfl⟩:=HK.out.uniq HDN.out hk3;have C7:=Lib.hid c7';have D7:=Lib.hid (D6.out.frQ OK.out (Nat.le_refl _) f7);have F7:=Lib.hid (F6.out.step f7 (fun k hk=> .inr (HQ.out k hk)));have c7:=(B6.out.fr f7 HB7q.out).cell 2;simp only[List.getElem?_toArray,List.getElem?_cons_zero,List.getElem?_cons_succ]at c7;have hxk:=xknown D7.out HDN.out da dc dl (HSA.out _ F7.out) (by omega);rw[HNN.out]at hxk;have N7:=Lib.hid (N6.out.trans (Nb.ofQ f7));clear hck hk3 c7' f7;go_wp2_with fail;with_reducible refine hxk.mono ?_
     rintro e w8 ⟨at4,k4,rfl,hk4,f8⟩;obtain⟨rfl,rfl⟩:=HK.out.uniq HDN.out hk4;have F8:=Lib.hid (F7.out.trans f8);have K8:=Lib.hid (K4.out.nb (N7.out.trans (Nb.ofQ (f8.nil (S:=q.blocks)))) ⟨l0,par,own,nm,fr,C7.out.fr0 f8,D7.out.fr0 f8,HO.out⟩);clear hxk hk4 f8 c7 C7 D7 F7 N7 C6 D6 F6 N6 C5 D5 F5 N5 B5 B6 HK HZ HO;cases bb
     all_goals
      go_wp2_with fail;with_reducible refine(kp_same K8.out).mono ?_
      rintro e w19 ⟨rfl,k19,f19⟩;have K19:=Lib.hid k19;have F19:=Lib.hid (F8.out.step f19 (fun k hk=> .inr (HQ.out k hk)));clear k19 f19;go_wp2_with fail;go_roundg (gk-1);case measure=>omega
      case rel=>exact⟨i+1,_,_,by go_num,by have:=HM.out;omega,K19,F19⟩
    by_cases h6:dk=6
    ·subst h6
     clear h3 h4 h5;obtain⟨l0,par,own,nm,fr,hC,hD,hO⟩:=K4.out.c;have OK:=Lib.hid K4.out.ok;have hga:=cgrow_a hC;have D4:=Lib.hid hD;have HO:=Lib.hid hO;clear hC hD hO;go_wp2_with fail;with_reducible refine hga.mono ?_
     rintro e w5 ⟨rfl,f5,c5⟩;have hge:=cgrow_e c5;have F5:=Lib.hid f5;clear hga f5 c5;go_wp2_with fail;with_reducible refine hge.mono ?_
     rintro e w6 ⟨rfl,f6,c6⟩;have f56:=F5.out.trans f6;have F6:=Lib.hid (F4.out.step f56 (fun k hk=> .inr (HQ.out k hk)));have K6:=Lib.hid (K4.out.nb (Nb.ofQ f56) ⟨l0,par,own,nm,fr,c6,D4.out.frQ OK.out (Nat.le_refl _) f56,HO.out⟩);clear hge f6 c6 f56 F5 HO;go_wp2_with fail;with_reducible refine(kp_same K6.out).mono ?_
     rintro e w19 ⟨rfl,k19,f19⟩;have K19:=Lib.hid k19;have F19:=Lib.hid (F6.out.step f19 (fun k hk=> .inr (HQ.out k hk)));clear k19 f19;go_wp2_with fail;go_roundg (gk-1);case measure=>omega
     case rel=>exact⟨i+1,_,_,by go_num,by have:=HM.out;omega,K19,F19⟩
    ·have x3:(dk==3)=false:=by rw[beq_eq_false_iff_ne];exact h3
     have x4:(dk==4)=false:=by rw[beq_eq_false_iff_ne];exact h4
     have x5:(dk==5)=false:=by rw[beq_eq_false_iff_ne];exact h5
     have x6:(dk==6)=false:=by rw[beq_eq_false_iff_ne];exact h6
     clear h3 h4 h5 h6;have hnm:=kp_name K4.out da dc dl (HSA.out _ F4.out) HSq.out HFE.out (by rw[HNN.out];omega) (by rw[HM.out];omega);rw[HNN.out]at hnm;go_wp2_with fail;with_reducible refine hnm.mono ?_
     rintro e w6 ⟨v6,hn6,⟨rfl,k6⟩|⟨at_,rfl,k6⟩⟩
     ·have F6:=Lib.hid (K4.out.out HQ.out HPW.out F4.out hn6)
      have K6:=Lib.hid k6;clear hnm hn6 k6;go_wp2_with fail;with_reducible refine(kp_same K6.out).mono ?_
      rintro e w19 ⟨rfl,k19,f19⟩;have K19:=Lib.hid k19;have F19:=Lib.hid (F6.out.step f19 (fun k hk=> .inr (HQ.out k hk)));clear k19 f19;go_wp2_with fail;go_roundg (gk-1);case measure=>omega
      case rel=>exact⟨i+1,_,_,by go_num,by have:=HM.out;omega,K19,F19⟩
     ·have F6:=Lib.hid (K4.out.out HQ.out HPW.out F4.out hn6)
      have K6:=Lib.hid k6;have R6:=Lib.hid k6.r;have hb6:p+1≤w6.heap.size:=Nat.le_trans HPW2.out hn6.f.size;have hm20:P.length≤1048576:=by rw[HM.out];omega
      clear hnm hn6 k6;go_wp2_with (at_builtin;go_must (refine wpList_append2 rfl _ _ rfl rfl (p+1) (.slice ad5 m cap5) P rfl at_ w6 rfl R6.out rfl hm20 hb6 ?_;intro g1 q1 W1 hO1 hF1 hob1))
      have K7:=Lib.hid (K6.out.app hO1 hF1 (fun g hg=>by
       have e5:g1=g:=Option.some.inj (ownS_mem hg);rcases hob1 with h|h
       ·exact .inl (by unfold ownS;rw[h,e5];simp)
       ·exact .inr (by rw[←e5,h];omega)))
      have F7:=Lib.hid (F6.out.step hF1 (fun g hg=> .inr (by have:=(R6.out.lt g (ownS_mem hg)).1;have:=HPW.out;omega)))
      have hlP:(P++ [at_]).length≤i+1:=by
       rw[List.length_append,HM.out,List.length_singleton];have:=HM.out;omega
      clear hO1 hF1 hob1;go_wp2_with fail;with_reducible refine(kp_same K7.out).mono ?_
      rintro e w19 ⟨rfl,k19,f19⟩;have K19:=Lib.hid k19;have F19:=Lib.hid (F7.out.step f19 (fun k hk=> .inr (HQ.out k hk)));clear k19 f19;go_wp2_with fail;go_roundg (gk-1);case measure=>omega
      case rel=>exact⟨i+1,_,_,by go_num,by have:=HM.out;omega,K19,F19⟩
   ·obtain rfl:i=n:=by omega
    have b6:decide ((i:Int)<i)=false:=by simp
    have b6':decide (i<i)=false:=by simp
    have HFl:=Lib.hid (kp_flt KH.out);obtain⟨ad5,cap5,rfl,-⟩:=own_row KH.out.r;clear KH;go_wp2_with fail;with_reducible refine HFl.out.mono ?_
    rintro e w6 ⟨rfl,f6⟩;have F6:=Lib.hid (F3.out.step f6 (fun k hk=> .inr (HQ.out k hk)));clear HFl f6 F3;go_wp2_with fail;with_reducible refine(HGo.out _ F6.out).mono ?_
    rintro e w7 ⟨rfl,f7⟩;have F7:=Lib.hid (F6.out.trans f7);clear f7;go_wp2_with fail;go_ret;exact⟨rfl,F7.out⟩
theorem walk_cplaysW(w:World)(h:TabM w∧Tabs w)(ad:Option Addr)(cap:Nat)(l:List A22)(hA:ActA22 w ad cap l):Calls Tryz.prog 3 #[.slice ad l.length cap] w fun e w'=>e= .returned (.bool true)∧Fr [] w w':=walk_cplays w h.1 h.2 ad cap l hA
end Go.Proofs.YtjjkfcnlgmbbcaaGreatDoor
