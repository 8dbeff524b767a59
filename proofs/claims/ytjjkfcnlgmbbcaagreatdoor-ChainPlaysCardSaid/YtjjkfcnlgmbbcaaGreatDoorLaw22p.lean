/- law22: same. -/
import Derived.Test.YtjjkfcnlgmbbcaaGreatDoorX22d
import Derived.Test.YtjjkfcnlgmbbcaaGreatDoorKT
import Derived.Test.YtjjkfcnlgmbbcaaGreatDoorMI
namespace Go.Proofs.YtjjkfcnlgmbbcaaGreatDoor
set_option linter.unusedVariables false
set_option linter.unusedSimpArgs false
open Go.RowKit
section
variable {w0 w W W' : World} {q : MH} {u0 : TM} {l : List Nat} {par own : Nat → Nat} {nm : Nat → List (List Nat)} {fr x p a c base : Nat} {b s : List Nat} {v : Value}
theorem DD.frQ(h:DD W p v l par own nm)(ok:BaseOk w0 q base)(hp:base≤p)(hf:Fr q.blocks W W'):DD W' p v l par own nm:=h.frq hf (fun k hk=>Nat.lt_of_lt_of_le (ok.q k hk) hp)
theorem CP.frD(h:CP w0 q u0 l par own nm fr W){l2:List Nat}{par2 own2:Nat→Nat}{nm2:Nat→List (List Nat)}(d:DD W p v l2 par2 own2 nm2)(ok:BaseOk w0 q base)(hp:base≤p)(hf:Fr (p::ownS v) W W'):CP w0 q u0 l par own nm fr W':=
 h.frL ok hf (fun k hk=>by
  rcases List.mem_cons.1 hk with rfl|hk
  ·exact hp
  ·have:=(d.r.lt k (ownS_mem hk)).1
   omega)
theorem DD.len(h:DD W p v l par own nm):∃ad cap,v= .slice ad l.length cap:=by
 obtain⟨ad,cap,e,-⟩:=IsN.row h;rw[List.length_map]at e;exact⟨ad,cap,e⟩
theorem DD.c0(h:DD W p v l par own nm):W.cell? ⟨p,0,none⟩=some v:=by
 have:=h.st.cell 0;simpa using this
theorem DD.cells(h:DD w p v l par own nm){i:Nat}(hi:l[i]?=some x):∃g cap,v= .slice (some ⟨g,0,none⟩) l.length cap∧i<l.length∧∀W,DD W p v l par own nm→W.cell? ⟨p,0,none⟩=some (.slice (some ⟨g,0,none⟩) l.length cap)∧W.cell? ⟨g,i*4,none⟩=some (.int .i64 x)∧W.cell? ⟨g,i*4+3,none⟩=some (.int .i64 (own x+bel par l x:Nat)):=by
 have hlt:=(List.getElem?_eq_some_iff.1 hi).1;obtain⟨ad,cap,ev,hrow⟩:=IsN.row h;rw[List.length_map]at ev hrow;obtain⟨g,rfl,hg,hr⟩:=hrow (by omega);refine⟨g,cap,ev,hlt,fun W hW=> ?_⟩;subst ev;obtain⟨k0,k1,k2,k3⟩:=((IsD.rowg hW (by omega)).1.four (d:=nd4 par (fun y=>own y+bel par l y) (hdL nm) x) (by rw[List.getElem?_map,hi];rfl));exact⟨hW.c0,k0,k3⟩
set_option maxRecDepth 100000 in
set_option maxHeartbeats 8000000 in
theorem same22(h:CP w0 q u0 l par own nm fr w)(hd:DD w p v l par own nm)(ok:BaseOk w0 q base)(hp:base≤p):Calls Tryz.prog 19 #[.pointer (some ⟨q.m,0,none⟩),.pointer (some ⟨p,0,none⟩)] w fun e w'=>e= .returned (.bool true)∧CP w0 q u0 l par own nm fr w'∧DD w' p v l par own nm∧Fr q.blocks w w':=by
 have HC:=Lib.hid h;have HD:=Lib.hid hd;have HN:=Lib.hid h.dn;have HFQ:=Lib.hid (fun W W' (hW:DD W p v l par own nm) (hf:Fr q.blocks W W')=>hW.frQ ok hp hf);have HNm:=Lib.hid (fun W (hW:CP w0 q u0 l par own nm fr W) x (hx:x∈l)=>cname hW (.inr hx));have HXN:=Lib.hid (fun W (hW:DD W p v l par own nm) x (hx:x∈l)=>xname hW HN.out (.inr hx));have HDp:=Lib.hid (fun W (hW:CP w0 q u0 l par own nm fr W) x (hx:x∈l)=>cdepth hW (.inr hx));have HRf:=Lib.hid (fun W (hW:CP w0 q u0 l par own nm fr W) x (hx:x∈l)=>c_refs hW hx);have HCt:=Lib.hid (fun W (hW:CP w0 q u0 l par own nm fr W)=>c_count hW);have hfew:=h.few;obtain⟨ad,cap,hv⟩:=hd.len;obtain⟨n,hn⟩:∃n,l.length=n:=⟨_,rfl⟩;rw[hn]at HCt hv hfew;have HLn:=Lib.hid hn;have HVV:=Lib.hid hv;have HC0:=Lib.hid (fun W (hW:DD W p v l par own nm)=>(show W.cell? ⟨p,0,none⟩=some (.slice ad n cap)from hv▸hW.c0));clear h hd ok hp hn hv;go_enter Tryz.func19,Tryz.ntmps19;go_wp2_with fail;go_loopg [5] (n+1) (fun gk v5 W=>∃i:Nat,v5= .int .i64 i∧(i+gk=n+1∧i≤n)∧Hid (CP w0 q u0 l par own nm fr W)∧Hid (DD W p v l par own nm)∧Hid (Fr q.blocks w W));case atStart=>exact⟨0,rfl,by omega,HC,HD,Lib.hid (Fr.refl _ w)⟩
 case round=>
  obtain⟨i,rfl,hi,HC3,HD3,F3⟩:=hrel;have c0:=HC0.out _ HD3.out;by_cases hlt:i<n
  ·have b6:decide ((i:Int)<n)=true:=by simp;omega
   have b6':decide (i<n)=true:=by simp;omega
   obtain⟨x,hx⟩:∃x,l[i]?=some x:=⟨_,List.getElem?_eq_getElem (by rw[HLn.out];exact hlt)⟩;have hxl:=List.mem_of_getElem? hx;obtain⟨g,cap2,ev,-,hcl⟩:=HD3.out.cells hx;rw[HLn.out]at ev hcl;have ev2:=HVV.out.symm.trans ev;injection ev2 with e1 _ e3;subst e1 e3;have HCl:=Lib.hid hcl;obtain⟨-,c1,c3⟩:=hcl _ HD3.out;have i0:(0:Int)≤i:=by omega
   have i1:(i:Int)<n:=by omega
   have wi:IntKind.i64.wrap ((i:Int)+1)=(i:Int)+1:=IntWalk.i64_in _ (by omega);have hnm:=HNm.out _ HC3.out x hxl;have HXL:=Lib.hid hxl;obtain⟨R,hR⟩:∃R,own x+bel par l x=R:=⟨_,rfl⟩
   have HRf':=Lib.hid (fun W (hW:CP w0 q u0 l par own nm fr W)=>by
    have:=HRf.out W hW x hxl;rw[hR]at this;exact this)
   rw[hR]at c3 hcl HCl;clear hR;clear ev hx hxl hcl;go_wp2_with fail;with_reducible refine hnm.mono ?_
   rintro e w4 ⟨a1,rfl,h4,-,h4c,f4⟩;have HD4:=Lib.hid (HFQ.out _ _ HD3.out f4);have HS4:=Lib.hid h4;have F4:=Lib.hid (F3.out.trans f4);have HC4:=Lib.hid h4c;have hxn:=HXN.out _ HD4.out x HXL.out;clear hnm h4 h4c f4 c0 c1 c3;go_wp2_with fail;with_reducible refine hxn.mono ?_
   rintro e w5 ⟨a2,cap5,rfl,h5,f5⟩;have HD5:=Lib.hid (HD4.out.fr0 f5);have HC5:=Lib.hid (HC4.out.fr0 f5);have F5:=Lib.hid (F4.out.trans f5.nil);have HSm:=Lib.hid (fun W (hW:Fr [] w5 W)=>same4 W a1 a2 (nm x).length cap5 (nm x) ((HS4.out.fr f5).fr hW) (h5.fr hW));have HDp':=Lib.hid (fun W hW=>HDp.out W hW x HXL.out);generalize(nm x).length=m at*;clear hxn h5 f5;go_wp2_with fail;have HD5d:=Lib.hid (HD5.out.fr0 (Fr.refl [] w5).drew);have hY:=And.intro (HCl.out _ HD5d.out).1 (HCl.out _ HD5d.out).2.2;refine wp_region_held_drew (S:=fun W=>W.cell? ⟨p,0,none⟩=some (.slice (some ⟨g,0,none⟩) n cap)∧W.cell? ⟨g,i*4+3,none⟩=some (.int .i64 R)) (by kernel_rfl) (hY) (fun yH=> ?_);refine tkY 0 yH (h:= ?_);refine tkY 1 yH (h:= ?_);refine wpAnyH_ready (rs:= [2]) (by kernel_rfl) (by simp) ?_;refine AllReadyH.cons (o:= ?oos2) ?his2 (fun K hK=> ?hcs2) AllReadyH.nil;case his2=>(simp only[List.getElem?_toArray,List.getElem?_cons_zero,List.getElem?_cons_succ];rfl)
   go_simp;with_reducible refine(HSm.out _ (Fr.refl [] _).drew).mono ?_
   rintro e w6 ⟨rfl,f6⟩;have f6d:=(Fr.refl [] w5).drew.trans f6;have HD6:=Lib.hid (HD5.out.fr0 f6d);have HC6:=Lib.hid (HC5.out.fr0 f6d);have F6:=Lib.hid (F5.out.trans f6d.nil);have hY:=And.intro (HCl.out _ HD6.out).1 (HCl.out _ HD6.out).2.2;clear f6 f6d;go_wp2_with fail;refine hK.out _ _ (hY) (fun yH=> ?_);clear hK K;try simp only[Act.put,List.setIfInBounds_toArray,List.set_cons_zero,List.set_cons_succ]
   refine tkY 3 yH (h:= ?_);refine tkY 4 yH (h:= ?_);refine tkY 5 yH (h:= ?_);refine tkY 6 yH (h:= ?_);refine tkY 7 yH (h:= ?_);refine tkY 8 yH (h:= ?_);refine tkY 9 yH (h:= ?_);refine tkY 10 yH (h:= ?_);refine tkY 11 yH (h:= ?_);refine tkY 13 yH (h:= ?_);refine tkY 14 yH (h:= ?_);refine wpAnyH_ready (rs:= [12]) (by kernel_rfl) (by simp) ?_;refine AllReadyH.cons (o:= ?oos14) ?his14 (fun K hK=> ?hcs14) AllReadyH.nil;case his14=>(simp only[List.getElem?_toArray,List.getElem?_cons_zero,List.getElem?_cons_succ];rfl)
   go_simp;with_reducible refine(HDp'.out _ HC6.out).mono ?_
   rintro e w7 ⟨rfl,h7,f7⟩;have HD7:=Lib.hid (HFQ.out _ _ HD6.out f7);have HC7:=Lib.hid h7;have F7:=Lib.hid (F6.out.trans f7);have hY:=And.intro (HCl.out _ HD7.out).1 (HCl.out _ HD7.out).2.2;clear h7 f7;go_wp2_with fail;refine hK.out _ _ (hY) (fun yH=> ?_);clear hK K;try simp only[Act.put,List.setIfInBounds_toArray,List.set_cons_zero,List.set_cons_succ]
   refine tkY 15 yH (h:= ?_);refine tkY 16 yH (h:= ?_);refine tkY 17 yH (h:= ?_);refine tkY 18 yH (h:= ?_);refine tkY 19 yH (h:= ?_);refine tkY 21 yH (h:= ?_);refine tkY 22 yH (h:= ?_);refine tkY 23 yH (h:= ?_);refine tkY 24 yH (h:= ?_);refine tkY 25 yH (h:= ?_);refine tkY 26 yH (h:= ?_);refine tkY 27 yH (h:= ?_);refine tkY 28 yH (h:= ?_);refine wpAnyH_ready (rs:= [20]) (by kernel_rfl) (by simp) ?_;refine AllReadyH.cons (o:= ?oos28) ?his28 (fun K hK=> ?hcs28) AllReadyH.nil;case his28=>(simp only[List.getElem?_toArray,List.getElem?_cons_zero,List.getElem?_cons_succ];rfl)
   go_simp;with_reducible refine(HRf'.out _ HC7.out).mono ?_
   rintro e w8 ⟨rfl,h8,f8⟩;have HD8:=Lib.hid (HFQ.out _ _ HD7.out f8);have HC8:=Lib.hid h8;have F8:=Lib.hid (F7.out.trans f8);have hY:=And.intro (HCl.out _ HD8.out).1 (HCl.out _ HD8.out).2.2;clear h8 f8;go_wp2_with fail;refine hK.out _ _ (hY) (fun yH=> ?_);clear hK K;try simp only[Act.put,List.setIfInBounds_toArray,List.set_cons_zero,List.set_cons_succ]
   refine tkY 29 yH (h:= ?_);refine tkY 30 yH (h:= ?_);refine wpAnyH_done (by kernel_rfl) ?_ _;try simp only[Act.put,List.getElem_toArray,List.getElem_cons_zero,List.getElem_cons_succ,List.setIfInBounds_toArray,List.set_cons_zero,List.set_cons_succ]
   clear hY;go_wp2_with fail;go_roundg (gk-1);case measure=>omega
   case rel=>exact⟨i+1,by go_num,by omega,HC8,HD8,F8⟩
  ·obtain rfl:i=n:=by omega
   have b6:decide ((i:Int)<i)=false:=by simp
   have b6':decide (i<i)=false:=by simp
   have be:((i:Int)==i)=true:=by simp
   go_wp2_with fail;have hY:wr.drew.cell? ⟨p,0,none⟩=some (.slice ad i cap):=c0;refine wp_region_held_drew (S:=fun W=>W.cell? ⟨p,0,none⟩=some (.slice ad i cap)) (by kernel_rfl) (hY) (fun yH=> ?_);refine tkY 0 yH (h:= ?_);refine tkY 2 yH (h:= ?_);refine tkY 3 yH (h:= ?_);refine tkY 4 yH (h:= ?_);refine tkY 5 yH (h:= ?_);refine tkY 6 yH (h:= ?_);refine wpAnyH_ready (rs:= [1]) (by kernel_rfl) (by simp) ?_;refine AllReadyH.cons (o:= ?oot6) ?hit6 (fun K hK=> ?hct6) AllReadyH.nil;case hit6=>(simp only[List.getElem?_toArray,List.getElem?_cons_zero,List.getElem?_cons_succ];rfl)
   go_simp;with_reducible refine(HCt.out _ (HC3.out.fr0 (Fr.refl [] _).drew)).mono ?_
   rintro e w6 ⟨rfl,h6,f6⟩;have f6d:=((Fr.refl [] wr).drew.nil (S:=q.blocks)).trans f6;have HD6:=Lib.hid (HFQ.out _ _ HD3.out f6d);have HC6:=Lib.hid h6;have F6:=Lib.hid (F3.out.trans f6d);have hY:=HC0.out _ HD6.out;clear f6 f6d h6;go_wp2_with fail;refine hK.out _ _ (hY) (fun yH=> ?_);clear hK K;try simp only[Act.put,List.setIfInBounds_toArray,List.set_cons_zero,List.set_cons_succ]
   refine tkY 7 yH (h:= ?_);refine tkY 8 yH (h:= ?_);refine wpAnyH_done (by kernel_rfl) ?_ _;try simp only[Act.put,List.getElem_toArray,List.getElem_cons_zero,List.getElem_cons_succ,List.setIfInBounds_toArray,List.set_cons_zero,List.set_cons_succ]
   clear hY;go_wp2_with fail;go_ret;exact⟨rfl,HC6.out,HD6.out,F6.out⟩
end
end Go.Proofs.YtjjkfcnlgmbbcaaGreatDoor
