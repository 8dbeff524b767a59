/- The document's chains: Known, Find, Pin, Drop. -/
import Derived.Test.YtjjkfcnlgmbbcaaGreatDoorX22a
import Derived.Test.YtjjkfcnlgmbbcaaGreatDoorMI
namespace Go.Proofs.YtjjkfcnlgmbbcaaGreatDoor
set_option linter.unusedVariables false
set_option linter.unusedSimpArgs false
open Go.RowKit
section
variable {w0 w W W' : World} {q : MH} {u0 : TM} {l : List Nat} {par own : Nat → Nat} {nm : Nat → List (List Nat)} {fr x p a c : Nat} {b : List Nat} {v : Value}
set_option maxRecDepth 1000000 in
set_option maxHeartbeats 4000000 in
theorem xknown(h:DD w p v l par own nm)(d:DN l par own nm)(ad:Option Addr)(cap:Nat)(L:List (List Nat))(hA:StrA w ad L)(hb:wireN L≤1000000):Calls Tryz.prog 16 #[.pointer (some ⟨p,0,none⟩),.slice ad L.length cap] w fun e w'=>∃at_ k:Nat,e= .returned (.tuple #[.int .i64 at_,.int .i64 k])∧Kn l nm (lowN L) at_ k∧Fr [] w w':=by
 have HFi:=Lib.hid (fun W (hW:Fr [] w W) (a:Nat) (ha:a=0∨a∈l) (b:List Nat) (hb:∀k∈b,k<256) (hb2:b.length≤1048576)=>xfindD (h.fr0 hW) d ha hb hb2);have HA:=Lib.hid hA;have HZ:=Lib.hid d.z0
 have H6:=Lib.hid (show∀s∈L,s.length≤1048576 from fun s hs=>by
  have h1:=List.append_of_mem hs;obtain⟨s1,s2,e⟩:=h1
  have:s.length≤wireN L:=by
   rw[e,wireN,List.foldl_append,List.foldl_cons];exact Nat.le_trans (by omega) (fold_mono s2 _)
  omega)
 have hle:L.length≤1000000:=by
  have:∀(L:List (List Nat)) (n:Nat),n+L.length≤L.foldl (fun n s=>n+(s.length+1)) n:=by
   intro L;induction L with
   |nil=>intro n;simp
   |cons s L ih=>
    intro n;have:=ih (n+(s.length+1));simp only[List.foldl_cons,List.length_cons];omega
  have:=this L 1;unfold wireN at hb;omega
 obtain⟨n,hn⟩:∃n,L.length=n:=⟨_,rfl⟩;have HN:=Lib.hid hn;rw[hn]at hle⊢;clear h d hA hn hb;go_enter Tryz.func16,Tryz.ntmps16;have wn:IntKind.i64.wrap ((n:Int)-1)=((n:Int)-1):=IntWalk.i64_in _ (by omega);go_wp2_with fail;go_loopg [6,7,8] (n+1) (fun gk v6 v7 v8 W=>∃(a k:Nat) (i:Int),v6= .int .i64 a∧v7= .int .i64 k∧v8= .int .i64 i∧(k+gk=n+1∧k≤n∧i+k+1=n)∧Hid (a=0∨a∈l)∧Hid (nm a=sfx (lowN L) k)∧Hid (Fr [] w W));case atStart=>exact⟨0,0,(n:Int)-1,rfl,rfl,rfl,by omega,Lib.hid (.inl rfl),Lib.hid (by rw[HZ.out,sfx_zero]),Lib.hid (Fr.refl [] w)⟩
 case round=>
  obtain⟨a,k,i,rfl,rfl,rfl,hi,HP,HE,F3⟩:=hrel;by_cases hlt:k<n
  ·have b6:decide (i≥0)=true:=by simp;omega
   have b6':decide (0≤i)=true:=by simp;omega
   have hL:n-1-k<L.length:=by rw[HN.out];omega
   obtain⟨g,o,rfl,hc,hg⟩:=HA.out.at_ (n-1-k) hL;have k1:=(F3.out.cell (p:=⟨g,o+(n-1-k),none⟩) hg (by simp)).trans hc;have hgd:L[n-1-k]?=some (L[n-1-k]'hL):=List.getElem?_eq_getElem hL;rw[hgd]at k1;simp only[Option.getD_some]at k1;have hs:=HA.out.lt _ (List.getElem_mem hL);have hs6:=H6.out _ (List.getElem_mem hL)
   have HSX:=Lib.hid (show sfx (lowN L) (k+1)=(L[n-1-k]'hL).map lowB::sfx (lowN L) k from by
    rw[sfx_succ (by rw[lowN_len,HN.out];exact hlt)];congr 1;simp only[lowN,List.getElem_map,List.length_map,HN.out])
   generalize L[n-1-k]'hL=s at*;have hfi:=HFi.out _ F3.out a HP.out s hs hs6;have HLE:=Lib.hid (show k+1≤(lowN L).length from by rw[lowN_len,HN.out];exact hlt);have e8:i=((n-1-k:Nat):Int):=by omega
   have w3:IntKind.i64.wrap ((k:Int)+1)=((k+1:Nat):Int):=IntWalk.i64_in _ (by omega);subst e8;have i0:(0:Int)≤((n-1-k:Nat):Int):=by omega
   have i1:((n-1-k:Nat):Int)<n:=by omega
   have w4:IntKind.i64.wrap (((n-1-k:Nat):Int)-1)=((n-1-k:Nat):Int)-1:=IntWalk.i64_in _ (by omega);have HI:=Lib.hid (show(((n-1-k:Nat):Int)-1)+(k+1:Nat)+1=n from by omega);generalize hix:n-1-k=ix at*;generalize strOf s=S at*;clear hc hgd hs hs6;go_wp2_with fail;with_reducible refine hfi.mono ?_
   rintro e w5 ⟨f5,⟨x,rfl,hx,hnx⟩|⟨rfl,hno⟩⟩
   ·have F5:=Lib.hid (F3.out.trans f5)
    have HX:=Lib.hid (show x=0∨x∈l from .inr hx);have HNX:=Lib.hid (show nm x=sfx (lowN L) (k+1)from by rw[HSX.out,←HE.out];exact hnx);clear f5 hx hnx hfi k1;go_wp2_with fail;go_roundg (gk-1);case measure=>omega
    case rel=>exact⟨x,k+1,((ix:Nat):Int)-1,rfl,by go_num,by go_num,by have:=HI.out;omega,HX,HNX,F5⟩
   ·have HK:=Lib.hid (show Kn l nm (lowN L) a k from⟨Nat.le_trans (Nat.le_succ _) HLE.out,HP.out,HE.out,fun _ x hx e=>hno x hx (by rw[e,HSX.out,HE.out])⟩)
    have F5:=Lib.hid (F3.out.trans f5);clear f5 hno hfi k1;go_wp2_with fail;go_ret2;exact⟨a,k,rfl,HK.out,F5.out⟩
  ·obtain rfl:k=n:=by omega
   obtain rfl:i= -1:=by omega
   have b6:decide ((-1:Int)≥0)=false:=rfl;have HK:=Lib.hid (show Kn l nm (lowN L) a k from⟨by rw[lowN_len,HN.out];exact Nat.le_refl _,HP.out,HE.out,fun hlt=>by rw[lowN_len,HN.out]at hlt;omega⟩);go_wp2_with fail;go_ret2;exact⟨a,k,rfl,HK.out,F3.out⟩
set_option maxRecDepth 100000 in
theorem xfind22(h:DD w p v l par own nm)(d:DN l par own nm)(ad:Option Addr)(cap:Nat)(L:List (List Nat))(hA:StrA w ad L)(hb:wireN L≤1000000):Calls Tryz.prog 14 #[.pointer (some ⟨p,0,none⟩),.slice ad L.length cap] w fun e w'=>∃at_ k:Nat,e= .returned (if k<L.length then .tuple #[.int .i64 0,.bool false]else .tuple #[.int .i64 at_,.bool true])∧Kn l nm (lowN L) at_ k∧Fr [] w w':=by
 have hkn:=xknown h d ad cap L hA hb;obtain⟨n,hn⟩:∃n,L.length=n:=⟨_,rfl⟩;rw[hn]at hkn⊢;clear h d hA hn hb;go_enter Tryz.func14,Tryz.ntmps14;go_wp2_with fail;with_reducible refine hkn.mono ?_
 rintro e w1 ⟨a,k,rfl,h1,h2⟩;have H1:=Lib.hid (And.intro h1 h2);clear h1 h2 hkn;by_cases hk:k<n
 ·have b6:decide ((k:Int)<n)=true:=by simp;omega
  have b6':decide (k<n)=true:=by simp;omega
  have HI:=Lib.hid (show(if k<n then Value.tuple #[.int .i64 0,.bool false]else .tuple #[.int .i64 a,.bool true])= .tuple #[.int .i64 0,.bool false]from if_pos hk);clear hk;go_wp2_with fail;go_ret2;exact⟨a,k,by rw[HI.out];rfl,H1.out.1,H1.out.2⟩
 ·have b6:decide ((k:Int)<n)=false:=by simp;omega
  have b6':decide (k<n)=false:=by simp;omega
  have HI:=Lib.hid (show(if k<n then Value.tuple #[.int .i64 0,.bool false]else .tuple #[.int .i64 a,.bool true])= .tuple #[.int .i64 a,.bool true]from if_neg hk);clear hk;go_wp2_with fail;go_ret2;exact⟨a,k,by rw[HI.out];rfl,H1.out.1,H1.out.2⟩
def PinX(p:Nat)(v:Value)(w:World)(l:List Nat)(par own:Nat→Nat)(nm:Nat→List (List Nat))(ck:Nat)(N:List (List Nat))(e:Ending)(w':World):Prop:=
 Fr (ownS v) w w'∧((ck≠0∧e= .returned (.tuple #[.int .i64 0,.int .i64 0,.int .i64 ck])∧DD w' p v l par own nm)∨(ck=0∧ ∃at_ k:Nat,e= .returned (.tuple #[.int .i64 at_,.int .i64 k,.int .i64 0])∧Kn l nm N at_ k∧DD w' p v l par (ownP own at_) nm))
theorem DD.hold(h:IsD W p v l par (up (fun y=>own y+bel par l y) a (own a+bel par l a+1)) (hdL nm))(h0:a≠0):DD W p v l par (ownP own a) nm:=
 IsD.congr h (fun y hy=>⟨rfl,by
  rw[ownP,if_neg h0];by_cases e:y=a
  ·rw[e,up_same,up_same];omega
  ·rw[up_ne _ _ e,up_ne _ _ e],rfl⟩)
set_option maxRecDepth 100000 in
theorem xpin(h:DD w p v l par own nm)(d:DN l par own nm)(ad:Option Addr)(cap:Nat)(L:List (List Nat))(hA:StrA w ad L)(hb:wireN L≤1000000)(ho:∀y,own y≤900000000):Calls Tryz.prog 57 #[.pointer (some ⟨p,0,none⟩),.slice ad L.length cap] w (PinX p v w l par own nm (chkN L) (lowN L)):=by
 have hck:=xcheck4 w ad cap L hA (by omega);have hkn:=xknown h d ad cap L hA hb;have HD:=Lib.hid h;have HHo:=Lib.hid (fun W (hf:Fr [] w W) (a:Nat) (ha:a∈l)=>xnhold (IsN.fr0 h hf) d.nd (by have:=d.few;omega) ha (by have:=ho a;have:=bel_le par l a;have:=d.few;omega));obtain⟨n,hn⟩:∃n,L.length=n:=⟨_,rfl⟩;rw[hn]at hck hkn⊢;clear h d hA hn hb ho;generalize chkN L=ck at*;generalize lowN L=N at*;go_enter Tryz.func57,Tryz.ntmps57;go_wp2_with fail;with_reducible refine hck.mono ?_
 rintro e w1 ⟨rfl,rfl⟩;clear hck;by_cases hc:ck=0
 ·subst hc
  have b1:(((0:Nat):Int) !=0)=false:=rfl;go_wp2_with fail;with_reducible refine hkn.mono ?_
  rintro e w2 ⟨a,k,rfl,h1,f2⟩;have H1:=Lib.hid h1;have F2:=Lib.hid f2;clear hkn h1 f2;by_cases h0:a=0
  ·subst h0
   have HR:=Lib.hid (show DD w2 p v l par (ownP own 0) nm from by rw[ownP,if_pos rfl];exact HD.out.fr0 F2.out);go_wp2_with fail;go_ret3;exact⟨F2.out.nil,.inr ⟨rfl,0,k,rfl,H1.out,HR.out⟩⟩
  ·have b2:((a:Int) !=0)=true:=by rw[bne_iff_ne];omega
   have b2':(a !=0)=true:=by rw[bne_iff_ne];exact h0
   have hho:=HHo.out _ F2.out a (H1.out.pl.resolve_left h0);have H0:=Lib.hid h0;clear h0;go_wp2_with fail;with_reducible refine hho.mono ?_
   rintro e w3 ⟨rfl,h3,f3⟩;have H3:=Lib.hid (And.intro h3 f3);clear hho h3 f3;go_wp2_with fail;go_ret3;exact⟨F2.out.nil.trans H3.out.2,.inr ⟨rfl,a,k,rfl,H1.out,DD.hold H3.out.1 H0.out⟩⟩
 ·have b1:((ck:Int) !=0)=true:=by rw[bne_iff_ne];omega
  have b1':(ck !=0)=true:=by rw[bne_iff_ne];exact hc
  have HC:=Lib.hid hc;clear hc hkn;go_wp2_with fail;go_ret3;exact⟨Fr.refl _ _,.inl ⟨HC.out,rfl,HD.out⟩⟩
def DrpX(p:Nat)(v:Value)(w:World)(l:List Nat)(par own:Nat→Nat)(nm:Nat→List (List Nat))(e:Ending)(w':World):Prop:=
 ∃(n:Nat) (l1:List Nat) (v':Value),e= .returned (.tuple #[.int .i64 (n:Nat),.int .i64 0])∧DD w' p v' l1 par own nm∧Rem own par l l1∧n+l1.length=l.length∧Firm own par l1∧Nx p v w v' w'
theorem xlet22(h:DD w p v l par own nm)(d:DN l par own nm)(hx:x∈l)(k:Nat)(ho:own x=k+1)(ho2:∀y,own y≤900000000):Calls Tryz.prog 49 #[.pointer (some ⟨p,0,none⟩),.int .i64 x] w (DrpX p v w l par (up own x k) nm):=
 (xnlet (up own x k) par (hdL nm) p l.length rfl (by have:=d.few;omega) h ⟨d.nd,hx,fun y hy=>by
  by_cases e:y=x
  ·rw[e,if_pos rfl,up_same,ho];omega
  ·rw[if_neg e,up_ne _ _ e];rfl,fun y hy hne h0=>by
  rw[up_ne _ _ hne]at h0;exact d.firm y hy h0,d.ux,d.nz,fun y hy=>by
  by_cases e:y=x
  ·rw[e,up_same];have:=ho2 x;omega
  ·rw[up_ne _ _ e];exact ho2 y⟩).mono fun e w' ⟨n,l1,R1,v',h1,h2,h3,h4,h5,h6,h7⟩=>⟨n,l1,v',h1,IsD.congr h2 (fun y hy=>⟨rfl,(h5 y hy).symm,rfl⟩),h3,h4,h6,h7⟩
set_option maxRecDepth 100000 in
theorem xdrop(h:DD w p v l par own nm)(d:DN l par own nm)(hx:x∈l)(k:Nat)(ho:own x=k+1)(ho2:∀y,own y≤900000000):Calls Tryz.prog 12 #[.pointer (some ⟨p,0,none⟩),.int .i64 x] w (DrpX p v w l par (up own x k) nm):=by
 have hlet:=xlet22 h d hx k ho ho2;have hx0:=d.nz x hx;have b1:((x:Int)==0)=false:=by rw[beq_eq_false_iff_ne];omega
 have b1':(x==0)=false:=by rw[beq_eq_false_iff_ne];omega
 clear h d hx ho ho2 hx0;go_enter Tryz.func12,Tryz.ntmps12;go_wp2_with fail;with_reducible refine hlet.mono ?_
 rintro e w1 ⟨n,l1,v',rfl,h2⟩;have H2:=Lib.hid h2;clear h2 hlet;go_wp2_with fail;go_ret2;exact⟨n,l1,v',rfl,H2.out⟩
set_option maxRecDepth 100000 in
theorem xdrop0:Calls Tryz.prog 12 #[.pointer (some ⟨p,0,none⟩),.int .i64 0] w fun e w'=>e= .returned (.tuple #[.int .i64 0,.int .i64 0])∧w'=w:=by
 go_enter Tryz.func12,Tryz.ntmps12;go_wp2_with fail;go_ret2;exact⟨rfl,rfl⟩
end
end Go.Proofs.YtjjkfcnlgmbbcaaGreatDoor
