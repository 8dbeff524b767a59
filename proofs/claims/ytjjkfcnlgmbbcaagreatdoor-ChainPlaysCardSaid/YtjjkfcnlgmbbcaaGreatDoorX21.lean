/- The document's nodes: At, Find, Hold. -/
import Derived.Test.YtjjkfcnlgmbbcaaGreatDoorCutN
import Derived.Test.YtjjkfcnlgmbbcaaGreatDoorMO
import Derived.Test.YtjjkfcnlgmbbcaaGreatDoorMD
import Derived.Test.YtjjkfcnlgmbbcaaGreatDoorKT
import Derived.Test.YtjjkfcnlgmbbcaaGreatDoorGD
namespace Go.Proofs.YtjjkfcnlgmbbcaaGreatDoor
set_option linter.unusedVariables false
set_option linter.unusedSimpArgs false
open Go.RowKit
structure IsN(w:World)(p:Nat)(v:Value)(L:List ND4):Prop where
 st:Blk w p 31 #[v]
 r:Rkn w (p+1) v L
section
variable {w w' W W' : World} {p : Nat} {v : Value} {L : List ND4} {x : Nat}
theorem IsN.fr{S:List Nat}(h:IsN w p v L)(hf:Fr S w w')(hp:p∉S)(hS:∀k∈S,v.ownBlock≠some k):IsN w' p v L:=⟨h.st.fr hf hp,h.r.fr hf hS⟩
theorem IsN.fr0(h:IsN w p v L)(hf:Fr [] w w'):IsN w' p v L:=h.fr hf (by simp) (by simp)
theorem IsN.frq{S:List Nat}(h:IsN w p v L)(hf:Fr S w w')(hS:∀k∈S,k<p):IsN w' p v L:=h.fr hf (fun hm=>by have:=hS p hm;omega) (fun k hk e=>by
 have h1:=(h.r.lt k e).1;have:=hS k hk;omega)
theorem IsN.row(h:IsN w p v L):∃ad cap,v= .slice ad L.length cap∧(0<L.length→∃g,ad=some ⟨g,0,none⟩∧p+1≤g∧RowKn w g cap L):=h.r.row
theorem RowKn.four{g cap:Nat}(h:RowKn w g cap L){i:Nat}{d:ND4}(hi:L[i]?=some d):w.cell? ⟨g,i*4,none⟩=some (.int .i64 d.y)∧w.cell? ⟨g,i*4+1,none⟩=some (.int .i64 d.p)∧w.cell? ⟨g,i*4+2,none⟩=some (.string (strOf d.s))∧w.cell? ⟨g,i*4+3,none⟩=some (.int .i64 d.r):=by
 obtain⟨hlt,e⟩:=List.getElem?_eq_some_iff.1 hi;have h0:=h.cell i hlt 0 (by decide);have h1:=h.cell i hlt 1 (by decide);have h2:=h.cell i hlt 2 (by decide);have h3:=h.cell i hlt 3 (by decide);rw[e]at h0 h1 h2 h3;exact⟨h0,h1,h2,h3⟩
def AtN(L:List ND4)(x:Nat)(e:Ending):Prop:=(∃(i:Nat) (d:ND4),e= .returned (.int .i64 (i:Nat))∧L[i]?=some d∧d.y=x)∨(e= .returned (.int .i64 (-1))∧ ∀d∈L,d.y≠x)
set_option maxRecDepth 100000 in
theorem xnat(h:IsN w p v L)(hl:L.length≤100000)(x:Nat):Calls Tryz.prog 117 #[.pointer (some ⟨p,0,none⟩),.int .i64 x] w fun e w'=>AtN L x e∧w'=w:=by
 obtain⟨ad,cap,rfl,hrow⟩:=h.row;have hst:=h.st.cell 0;simp at hst;have HR:=Lib.hid hrow;obtain⟨n,hn⟩:∃n,L.length=n:=⟨_,rfl⟩;have HN:=Lib.hid hn;rw[hn]at hst hl;clear h hrow hn;go_enter Tryz.func117,Tryz.ntmps117;go_wp2_with fail;go_loopg [5] (n+1) (fun gk v5 W=>∃i:Nat,v5= .int .i64 i∧(i+gk=n+1∧i≤n)∧Hid (∀d∈L.take i,d.y≠x)∧w=W);case atStart=>exact⟨0,rfl,by omega,Lib.hid (fun d hd=>by simp at hd),rfl⟩
 case round=>
  obtain⟨i,rfl,hi,HD,rfl⟩:=hrel;by_cases hlt:i<n
  ·have b6:decide ((i:Int)<n)=true:=by simp;omega
   have b6':decide (i<n)=true:=by simp;omega
   obtain⟨d,hd⟩:∃d,L[i]?=some d:=⟨_,List.getElem?_eq_getElem (by rw[HN.out];exact hlt)⟩;obtain⟨g,rfl,hg,hr⟩:=HR.out (by rw[HN.out];omega);have c0:=(hr.four hd).1;have HDd:=Lib.hid hd;have i0:(0:Int)≤i:=by omega
   have i1:(i:Int)<n:=by omega
   have wi:IntKind.i64.wrap ((i:Int)+1)=(i:Int)+1:=IntWalk.i64_in _ (by omega);clear hr hd;by_cases hx:d.y=x
   ·have HX:=Lib.hid hx
    have b1:((d.y:Int)==(x:Int))=true:=by simp;omega
    have b1':(d.y==x)=true:=by simp;omega
    clear hx;go_wp2_with fail;go_ret;exact⟨.inl ⟨i,d,rfl,HDd.out,HX.out⟩,rfl⟩
   ·have HD':=Lib.hid (show∀d∈L.take (i+1),d.y≠x from fun d' hd'=>by
     rw[List.take_add_one,HDd.out,Option.toList_some]at hd';rcases List.mem_append.1 hd' with h|h
     ·exact HD.out d' h
     ·rw[List.mem_singleton]at h;rw[h];exact hx)
    have b1:((d.y:Int)==(x:Int))=false:=by simp;omega
    have b1':(d.y==x)=false:=by simp;omega
    clear hx;go_wp2_with fail;go_roundg (gk-1);case measure=>omega
    case rel=>exact⟨i+1,by go_num,by omega,HD',rfl⟩
  ·obtain rfl:i=n:=by omega
   have b6:decide ((i:Int)<i)=false:=by simp
   have b6':decide (i<i)=false:=by simp
   have HNo:=Lib.hid (show∀d∈L,d.y≠x from by have:=HD.out;rwa[←HN.out,List.take_length]at this);go_wp2_with fail;go_ret;exact⟨.inr ⟨rfl,HNo.out⟩,rfl⟩
def FndN(L:List ND4)(a:Nat)(s:List Nat)(e:Ending):Prop:=(∃(i:Nat) (d:ND4),e= .returned (.tuple #[.int .i64 (d.y:Nat),.bool true])∧L[i]?=some d∧d.p=a∧d.s=s)∨(e= .returned (.tuple #[.int .i64 0,.bool false])∧ ∀d∈L,d.p=a→d.s≠s)
set_option maxRecDepth 1000000 in
set_option maxHeartbeats 4000000 in
theorem xnfind(h:IsN w p v L)(hl:L.length≤100000)(hL:∀d∈L,∀c∈d.s,c<256)(a:Nat)(s:List Nat)(hs:∀c∈s,c<256)(hs2:s.length≤1048576):Calls Tryz.prog 51 #[.pointer (some ⟨p,0,none⟩),.int .i64 a,.string (strOf s)] w fun e w'=>FndN L a (s.map lowB) e∧Fr [] w w':=by
 have HI:=Lib.hid h;have HLc:=Lib.hid hL;have HLow:=Lib.hid (fun V=>x2lower V s hs hs2);have hsl:=low_lt hs;have HEq:=Lib.hid (fun d (hd:d∈L)=>strOf_eq d.s (s.map lowB) (hL d hd) hsl);generalize strOf s=S0 at*;generalize hS1:s.map lowB=s1 at*;obtain⟨n,hn⟩:∃n,L.length=n:=⟨_,rfl⟩;have HN:=Lib.hid hn;obtain⟨ad,cap,rfl,-⟩:=h.row;rw[hn]at HI hl;clear h hL hn hs hs2 hsl hS1;go_enter Tryz.func51,Tryz.ntmps51;go_wp2_with fail;go_loopg [8] (n+1) (fun gk v8 W=>∃i:Nat,v8= .int .i64 i∧(i+gk=n+1∧i≤n)∧Hid (∀d∈L.take i,d.p=a→d.s≠s1)∧Hid (Fr [] w W));case atStart=>exact⟨0,rfl,by omega,Lib.hid (fun d hd=>by simp at hd),Lib.hid (Fr.refl [] w)⟩
 case round=>
  obtain⟨i,rfl,hi,HD,F3⟩:=hrel;have I3:=HI.out.fr0 F3.out;have hst:=I3.st.cell 0;simp at hst;by_cases hlt:i<n
  ·have b6:decide ((i:Int)<n)=true:=by simp;omega
   have b6':decide (i<n)=true:=by simp;omega
   obtain⟨d,hd⟩:∃d,L[i]?=some d:=⟨_,List.getElem?_eq_getElem (by rw[HN.out];exact hlt)⟩;have hdm:=List.mem_of_getElem? hd;have F3d:=Lib.hid F3.out.drew;have Id:=HI.out.fr0 F3d.out;obtain⟨ad',cap',ev,hrow⟩:=Id.row;rw[HN.out]at ev;injection ev with e1 _ e3;subst e1 e3;obtain⟨g,rfl,hg,hr⟩:=hrow (by rw[HN.out];omega);have hstd:=Id.st.cell 0;simp at hstd;obtain⟨c0,c1,c2,-⟩:=hr.four hd;have hgV:=hr.lt;have hpV:=Id.st.lt;have HDd:=Lib.hid hd;have i0:(0:Int)≤i:=by omega
   have i1:(i:Int)<n:=by omega
   have wi:IntKind.i64.wrap ((i:Int)+1)=(i:Int)+1:=IntWalk.i64_in _ (by omega);have hY:=And.intro hstd (And.intro c0 (And.intro c1 c2));have heq0:=HEq.out d hdm;clear hrow hd Id I3;by_cases hx:d.p=a
   ·have b1:((d.p:Int)==(a:Int))=true:=by simp;omega
    have b1':(d.p==a)=true:=by simp;omega
    obtain⟨be,hbe⟩:∃be,(d.s==s1)=be:=⟨_,rfl⟩;rw[hbe]at heq0;have HX:=Lib.hid (And.intro hx hbe);generalize strOf d.s=S2 at*;generalize strOf s1=S3 at*;clear hx hbe c0 c1 c2 hstd hr hst;go_wp2_with fail;refine wp_region_held_drew (S:=fun W=>W.cell? ⟨p,0,none⟩=some (.slice (some ⟨g,0,none⟩) n cap)∧W.cell? ⟨g,i*4,none⟩=some (.int .i64 d.y)∧W.cell? ⟨g,i*4+1,none⟩=some (.int .i64 d.p)∧W.cell? ⟨g,i*4+2,none⟩=some (.string S2)) (by kernel_rfl) (hY) (fun yH=> ?_);refine tkY 0 yH (h:= ?_);refine tkY 1 yH (h:= ?_);refine tkY 2 yH (h:= ?_);refine tkY 3 yH (h:= ?_);refine tkY 4 yH (h:= ?_);refine tkY 5 yH (h:= ?_);refine tkY 6 yH (h:= ?_);refine tkY 7 yH (h:= ?_);refine tkY 8 yH (h:= ?_);refine tkY 9 yH (h:= ?_);refine tkY 10 yH (h:= ?_);refine tkY 11 yH (h:= ?_);refine tkY 12 yH (h:= ?_);refine tkY 13 yH (h:= ?_);refine tkY 14 yH (h:= ?_);refine tkY 15 yH (h:= ?_);refine tkY 16 yH (h:= ?_);refine tkY 17 yH (h:= ?_);refine tkY 18 yH (h:= ?_);refine tkY 19 yH (h:= ?_);refine wpAnyH_ready (rs:= [20]) (by kernel_rfl) (by simp) ?_;refine AllReadyH.cons (o:= ?oofa20) ?hifa20 (fun K hK=> ?hcfa20) AllReadyH.nil;case hifa20=>(simp only[List.getElem?_toArray,List.getElem?_cons_zero,List.getElem?_cons_succ];rfl)
    go_simp;with_reducible refine(HLow.out _).mono ?_
    rintro e w5 ⟨rfl,f5⟩;have F5:=Lib.hid (F3d.out.trans f5);have hY:=And.intro ((f5.cell (p:=⟨p,0,none⟩) hpV (by simp)).trans hY.1) (And.intro ((f5.cell (p:=⟨g,i*4,none⟩) hgV (by simp)).trans hY.2.1) (And.intro ((f5.cell (p:=⟨g,i*4+1,none⟩) hgV (by simp)).trans hY.2.2.1) ((f5.cell (p:=⟨g,i*4+2,none⟩) hgV (by simp)).trans hY.2.2.2)));clear f5;go_wp2_with fail;refine hK.out _ _ (hY) (fun yH=> ?_);clear hK K;try simp only[Act.put,List.setIfInBounds_toArray,List.set_cons_zero,List.set_cons_succ]
    refine tkY 21 yH (h:= ?_);refine tkY 22 yH (h:= ?_);refine wpAnyH_done (by kernel_rfl) ?_ _;try simp only[Act.put,List.getElem_toArray,List.getElem_cons_zero,List.getElem_cons_succ,List.setIfInBounds_toArray,List.set_cons_zero,List.set_cons_succ]
    cases be with
    |true=>
     have HR:=Lib.hid (show FndN L a s1 (.returned (.tuple #[.int .i64 d.y,.bool true]))from .inl ⟨i,d,rfl,HDd.out,HX.out.1,by simpa using HX.out.2⟩);have hstd:=hY.1;have c0:=hY.2.1;clear HX hY;go_wp2_with fail;go_ret2;exact⟨HR.out,F5.out⟩
    |false=>
     have HD':=Lib.hid (show∀d∈L.take (i+1),d.p=a→d.s≠s1 from fun d' hd'=>by
      rw[List.take_add_one,HDd.out,Option.toList_some]at hd';rcases List.mem_append.1 hd' with h|h
      ·exact HD.out d' h
      ·rw[List.mem_singleton]at h;subst h;intro _;simpa using HX.out.2)
     clear HX hY;go_wp2_with fail;go_roundg (gk-1);case measure=>omega
     case rel=>exact⟨i+1,by go_num,by omega,HD',F5⟩
   ·have HD':=Lib.hid (show∀d∈L.take (i+1),d.p=a→d.s≠s1 from fun d' hd'=>by
     rw[List.take_add_one,HDd.out,Option.toList_some]at hd';rcases List.mem_append.1 hd' with h|h
     ·exact HD.out d' h
     ·rw[List.mem_singleton]at h;subst h;exact fun e=>absurd e hx)
    have b1:((d.p:Int)==(a:Int))=false:=by simp;omega
    have b1':(d.p==a)=false:=by simp;omega
    generalize strOf d.s=S2 at*;clear hx c0 c1 c2 hstd hr hst heq0;go_wp2_with fail;refine wp_region_held_drew (S:=fun W=>W.cell? ⟨p,0,none⟩=some (.slice (some ⟨g,0,none⟩) n cap)∧W.cell? ⟨g,i*4,none⟩=some (.int .i64 d.y)∧W.cell? ⟨g,i*4+1,none⟩=some (.int .i64 d.p)∧W.cell? ⟨g,i*4+2,none⟩=some (.string S2)) (by kernel_rfl) (hY) (fun yH=> ?_);refine tkY 0 yH (h:= ?_);refine tkY 1 yH (h:= ?_);refine tkY 2 yH (h:= ?_);refine tkY 3 yH (h:= ?_);refine tkY 4 yH (h:= ?_);refine tkY 5 yH (h:= ?_);refine tkY 6 yH (h:= ?_);refine tkY 7 yH (h:= ?_);refine tkY 8 yH (h:= ?_);refine tkY 9 yH (h:= ?_);refine tkY 10 yH (h:= ?_);refine tkN 11 yH (h:= ?_);refine tkN 12 yH (h:= ?_);refine tkN 13 yH (h:= ?_);refine tkN 14 yH (h:= ?_);refine tkN 15 yH (h:= ?_);refine tkN 16 yH (h:= ?_);refine tkN 17 yH (h:= ?_);refine tkN 18 yH (h:= ?_);refine tkN 19 yH (h:= ?_);refine tkN 20 yH (h:= ?_);refine tkN 21 yH (h:= ?_);refine tkY 22 yH (h:= ?_);refine wpAnyH_done (by kernel_rfl) ?_ _;try simp only[Act.put,List.getElem_toArray,List.getElem_cons_zero,List.getElem_cons_succ,List.setIfInBounds_toArray,List.set_cons_zero,List.set_cons_succ]
    go_wp2_with fail;go_roundg (gk-1);case measure=>omega
    case rel=>exact⟨i+1,by go_num,by omega,HD',F3d⟩
  ·obtain rfl:i=n:=by omega
   have b6:decide ((i:Int)<i)=false:=by simp
   have b6':decide (i<i)=false:=by simp
   have HNo:=Lib.hid (show FndN L a s1 (.returned (.tuple #[.int .i64 0,.bool false]))from .inr ⟨rfl,by have:=HD.out;rwa[←HN.out,List.take_length]at this⟩);clear I3;go_wp2_with fail;go_ret2;exact⟨HNo.out,F3.out⟩
end
end Go.Proofs.YtjjkfcnlgmbbcaaGreatDoor
