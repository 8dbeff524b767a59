/- The document's chains: Name. -/
import Derived.Test.YtjjkfcnlgmbbcaaGreatDoorX22c
namespace Go.Proofs.YtjjkfcnlgmbbcaaGreatDoor
set_option linter.unusedVariables false
set_option linter.unusedSimpArgs false
open Go.RowKit
section
variable {w0 w W W' : World} {q : MH} {u0 : TM} {l : List Nat} {par own : Nat → Nat} {nm : Nat → List (List Nat)} {fr x p a c : Nat} {b s : List Nat} {v : Value}
set_option maxRecDepth 100000 in
set_option maxHeartbeats 4000000 in
theorem xname(h:DD w p v l par own nm)(d:DN l par own nm)(hx:x=0∨x∈l):Calls Tryz.prog 61 #[.pointer (some ⟨p,0,none⟩),.int .i64 x] w fun e w'=>∃ad cap,e= .returned (.tuple #[.slice ad (nm x).length cap,.int .i64 0])∧StrA w' ad (nm x)∧Fr [] w w':=by
 have HD:=Lib.hid h;have HN:=Lib.hid d;have HAt:=Lib.hid (fun W (hf:Fr [] w W) (a:Nat) (ha:a∈l)=>xat_yes (IsN.fr0 h hf) (by have:=d.few;omega) ha);have hm:=d.len x hx;have HX:=Lib.hid hx;obtain⟨M,hM⟩:∃M,nm x=M:=⟨_,rfl⟩;rw[hM]at hm⊢;have HM:=Lib.hid hM;obtain⟨n,hn⟩:∃n,M.length=n:=⟨_,rfl⟩;have HL:=Lib.hid hn;rw[hn]at hm⊢;clear h d hx hM hn;go_enter Tryz.func61,Tryz.ntmps61;go_wp2_with fail;go_loopg [1,6] (n+1) (fun gk v1 v6 W=>∃a k:Nat,v1= .int .i64 a∧(k+gk=n+1∧k≤n)∧Hid (a=0∨a∈l)∧Hid (nm a=M.drop k)∧Hid (∀s∈M.take k,labOk s=true)∧Hid (W.ownsRow w.heap.size 9 1 v6 (M.take k).length (strC (M.take k)))∧Hid (Fr [] w W));case atStart=>exact⟨x,0,rfl,by omega,HX,Lib.hid (by rw[HM.out];rfl),Lib.hid (fun s hs=>by simp at hs),Lib.hid (World.ownsRow_nil _ _ _ _),Lib.hid (Fr.refl [] w)⟩
 case round=>
  obtain⟨a,k,rfl,hk,HP,HE,HB,HR,F3⟩:=hrel;by_cases h0:a=0
  ·subst h0
   have hkn:k=n:=by
    have:=congrArg List.length HE.out;rw[HN.out.z0,List.length_drop,HL.out]at this;simp at this;omega
   subst hkn;have hR:=HR.out;have hB:=HB.out;rw[←HL.out,List.take_length]at hR hB;obtain⟨ad',cap',rfl,k1,k2,k3,k4⟩:=own_strs hR (fun s hs=>labOk_lt (hB s hs)) (fun s hs=>(labOk_len2 (hB s hs)).2);have HA:=Lib.hid k3;rw[HL.out]at*;clear k1 k2 k3 k4 hR HR hB;go_wp2_with fail;go_ret2;exact⟨ad',⟨cap',rfl⟩,HA.out,F3.out⟩
  ·have hal:=HP.out.resolve_left h0
   have b1:((a:Int) !=0)=true:=by rw[bne_iff_ne];omega
   have b1':(a !=0)=true:=by rw[bne_iff_ne];exact h0
   have hat:=HAt.out _ F3.out a hal;have hsx:=HN.out.sx a hal
   have hkn:k<n:=by
    have:=congrArg List.length HE.out;rw[hsx,List.length_drop,HL.out]at this;simp at this;omega
   have hdr:M.drop k=hdL nm a::nm (par a):=by rw[←HE.out];exact hsx
   have hgt:M[k]?=some (hdL nm a):=by rw[List.getElem?_eq_some_iff];refine⟨by rw[HL.out];exact hkn,?_⟩;rw[List.drop_eq_getElem_cons (by rw[HL.out];exact hkn)]at hdr;injection hdr
   have HE':=Lib.hid (show nm (par a)=M.drop (k+1)from by
    rw[List.drop_eq_getElem_cons (by rw[HL.out];exact hkn)]at hdr;injection hdr with _ e;exact e.symm)
   have HT:=Lib.hid (show M.take (k+1)=M.take k++ [hdL nm a]from by rw[List.take_add_one,hgt,Option.toList_some])
   have HB':=Lib.hid (show∀s∈M.take (k+1),labOk s=true from fun s hs=>by
    rw[HT.out]at hs;rcases List.mem_append.1 hs with h|h
    ·exact HB.out s h
    ·rw[List.mem_singleton]at h;rw[h];exact HN.out.lab a hal)
   have HP':=Lib.hid (HN.out.ux a hal);have hln:(M.take k).length≤1048576:=by rw[List.length_take];omega
   have HAL:=Lib.hid hal;clear h0 hal hsx hdr hgt;go_wp2_with fail;with_reducible refine hat.mono ?_
   rintro e w4 ⟨⟨i,rfl,hi⟩,rfl⟩;have b2:decide ((i:Int)<0)=false:=decide_eq_false (by omega);have hlt:=(List.getElem?_eq_some_iff.1 hi).1;have hI4:=HD.out.fr0 F3.out;have hst:=hI4.st.cell 0;simp only[List.getElem?_toArray,List.getElem?_cons_zero]at hst;obtain⟨ad,cap,ev,hrow⟩:=IsN.row hI4;rw[List.length_map]at ev hrow;obtain⟨g,rfl,hg,hr⟩:=hrow (by omega);rw[ev]at hst;obtain⟨-,-,c2,-⟩:=hr.four (d:=nd4 par (fun y=>own y+bel par l y) (hdL nm) a) (by rw[List.getElem?_map,hi];rfl)
   have HC:=Lib.hid (fun W (hW:Fr [] w W)=>(show W.cell? ⟨p,0,none⟩=some (.slice (some ⟨g,0,none⟩) l.length cap)∧W.cell? ⟨g,i*4+1,none⟩=some (.int .i64 (par a))from by
    have hI:=HD.out.fr0 hW;have hs:=hI.st.cell 0;simp only[List.getElem?_toArray,List.getElem?_cons_zero]at hs;rw[ev]at hs;refine⟨hs,?_⟩;have hI':IsD W p (.slice (some ⟨g,0,none⟩) l.length cap) l par (fun y=>own y+bel par l y) (hdL nm):=ev▸hI;exact((hI'.rowg (by omega)).1.four (d:=nd4 par (fun y=>own y+bel par l y) (hdL nm) a) (by rw[List.getElem?_map,hi];rfl)).2.1))
   have i0:(0:Int)≤i:=by omega
   have i1:(i:Int)<l.length:=by omega
   rw[show(nd4 par (fun y=>own y+bel par l y) (hdL nm) a).s=hdL nm a from rfl]at c2;have hb4:=F3.out.size;have R4:=HR;generalize M.take k=K at*;generalize hdL nm a=t at*;obtain⟨S0,hS0⟩:∃S0,strOf t=S0:=⟨_,rfl⟩;have HS0:=Lib.hid hS0;rw[hS0]at c2;generalize hll:l.length=ll at*;generalize par a=pa at*;clear hat hr hrow hI4 hi ev hS0 hll hlt;go_wp2_with (first|(at_builtin;refine wpList_appS rfl _ _ rfl rfl w.heap.size _ K rfl t w4 (by rw[HS0.out]) R4.out rfl hln hb4 ?_;intro g1 q1 W1 hO1 hF1 hob1;have F5:=Lib.hid (F3.out.step hF1 (fun k hk=> .inr (R4.out.lt k (ownS_mem hk)).1));have HO:=Lib.hid hO1;obtain⟨d0,d1⟩:=HC.out _ F5.out;clear hO1 hF1 hob1)|fail);go_roundg (gk-1);case measure=>omega
   case rel=>exact⟨pa,k+1,rfl,by omega,HP',HE',HB',Lib.hid (by rw[HT.out];exact HO.out),F5⟩
end
end Go.Proofs.YtjjkfcnlgmbbcaaGreatDoor
