/- The document's chains: Wire, Check; Known, Find. -/
import Derived.Test.YtjjkfcnlgmbbcaaGreatDoorX21d
import Derived.Test.YtjjkfcnlgmbbcaaGreatDoorMJ
namespace Go.Proofs.YtjjkfcnlgmbbcaaGreatDoor
set_option linter.unusedVariables false
set_option linter.unusedSimpArgs false
open Go.RowKit
def hdL(nm:Nat→List (List Nat))(y:Nat):List Nat:=(nm y).headD []
structure DN(l:List Nat)(par own:Nat→Nat)(nm:Nat→List (List Nat)):Prop where
 z0:nm 0= []
 sx: ∀y∈l,nm y=hdL nm y::nm (par y)
 ux: ∀y∈l,par y=0∨par y∈l
 nz: ∀y∈l,y≠0
 nd:l.Nodup
 few:l.length≤224
 bx: ∀y∈l,∀c∈hdL nm y,c<256
 inj: ∀x y,(x=0∨x∈l)→(y=0∨y∈l)→nm x=nm y→x=y
 len: ∀y,(y=0∨y∈l)→(nm y).length≤224
 firm:Firm own par l
 lab: ∀y∈l,labOk (hdL nm y)=true
section
variable {w0 w W W' : World} {q : MH} {u0 : TM} {l : List Nat} {par own : Nat → Nat} {nm : Nat → List (List Nat)} {fr x p a c : Nat} {b : List Nat} {v : Value}
theorem CP.dn(h:CP w0 q u0 l par own nm fr W):DN l par own nm:=by
 have hs:∀y∈l,nm y=hdL nm y::nm (par y)∧∀c∈hdL nm y,c<256:=fun y hy=>by
  obtain⟨s,e,hb,_⟩:=h.hd hy;have e2:hdL nm y=s:=by rw[hdL,e];rfl
  rw[e2];exact⟨e,hb⟩
 exact⟨h.z,fun y hy=>(hs y hy).1,fun y hy=>h.up hy,fun y hy=>(h.rng hy).1,h.nd,h.few,fun y hy=>(hs y hy).2,fun x y hx hy e=>h.inj hx hy e,fun y hy=>h.nmlen hy,h.firm,fun y hy=>(h.lab hy _ (by rw[(hs y hy).1];exact List.mem_cons_self)).1⟩
def DD(w:World)(p:Nat)(v:Value)(l:List Nat)(par own:Nat→Nat)(nm:Nat→List (List Nat)):Prop:=IsD w p v l par (fun y=>own y+bel par l y) (hdL nm)
theorem DD.fr0(h:DD w p v l par own nm)(hf:Fr [] w W):DD W p v l par own nm:=IsN.fr0 h hf
theorem DD.frq{S:List Nat}(h:DD w p v l par own nm)(hf:Fr S w W)(hS:∀k∈S,k<p):DD W p v l par own nm:=IsN.frq h hf hS
theorem Kn.uniq{N:List (List Nat)}{a1 k1 a2 k2:Nat}(d:DN l par own nm)(h1:Kn l nm N a1 k1)(h2:Kn l nm N a2 k2):a1=a2∧k1=k2:=by
 have key:∀{a1 k1 a2 k2:Nat},Kn l nm N a1 k1→Kn l nm N a2 k2→k1<k2→False:=fun{a1 k1 a2 k2} h1 h2 hlt=>by
  have hsuf:∀(j y:Nat),(y=0∨y∈l)→nm y=sfx N (k1+1+j)→k1+1+j≤N.length→∃z∈l,nm z=sfx N (k1+1):=by
   intro j;induction j with
   |zero=>
    intro y hy e hle;refine⟨y,hy.resolve_left (fun h0=> ?_),e⟩;subst h0;rw[d.z0]at e;have:=congrArg List.length e;rw[sfx_len (by omega)]at this;simp at this
   |succ j ih=>
    intro y hy e hle
    have hyl:y∈l:=hy.resolve_left (fun h0=>by
     subst h0;rw[d.z0]at e;have:=congrArg List.length e;rw[sfx_len (by omega)]at this;simp at this)
    rw[show k1+1+(j+1)=(k1+1+j)+1 by omega,sfx_succ (by omega),d.sx y hyl]at e;injection e with _ e;exact ih (par y) (d.ux y hyl) e (by omega)
  obtain⟨z,hz,e⟩:=hsuf (k2-(k1+1)) a2 h2.pl (by rw[show k1+1+(k2-(k1+1))=k2 by omega];exact h2.ew) (by have:=h2.le;omega);exact h1.no (by have:=h2.le;omega) z hz e
 have hk:k1=k2:=by
  rcases Nat.lt_trichotomy k1 k2 with h|h|h
  ·exact(key h1 h2 h).elim
  ·exact h
  ·exact(key h2 h1 h).elim
 subst hk;exact⟨d.inj _ _ h1.pl h2.pl (h1.ew.trans h2.ew.symm),rfl⟩
set_option maxRecDepth 100000 in
theorem xwire4(w:World)(ad:Option Addr)(cap:Nat)(L:List (List Nat))(h:StrA w ad L)(hb:wireN L≤1099511627776):Calls Tryz.prog 236 #[.slice ad L.length cap] w fun e w'=>e= .returned (.int .i64 (wireN L))∧w'=w:=by
 have HA:=Lib.hid h;have hle:=h.len;obtain⟨n,hn⟩:∃n,L.length=n:=⟨_,rfl⟩;have HX:=Lib.hid (fun k s (hs:L[k]?=some s)=>fold_take L k s 1 hs)
 have HB:=Lib.hid (fun k=>(show(L.take k).foldl (fun n s=>n+(s.length+1)) 1≤1099511627776 from by
  refine Nat.le_trans ?_ hb;unfold wireN;conv=>rhs;rw[←List.take_append_drop k L,List.foldl_append]
  exact fold_mono _ _))
 have HZ:=Lib.hid (show(L.take 0).foldl (fun n s=>n+(s.length+1)) 1=1 from rfl);have HF:=Lib.hid (show(L.take n).foldl (fun n s=>n+(s.length+1)) 1=wireN L from by rw[←hn,List.take_length];rfl);rw[←HF.out];obtain⟨M,hM⟩:∃M:Nat→Nat,(fun k=>(L.take k).foldl (fun n s=>n+(s.length+1)) 1)=M:=⟨_,rfl⟩;have hM':∀k,(L.take k).foldl (fun n s=>n+(s.length+1)) 1=M k:=fun k=>by rw[←hM]
 simp only[hM']at HX HB HZ⊢;rw[hn];rw[hn]at hle;have HN:=Lib.hid hn;clear hn h hM hM' HF hb;go_enter Tryz.func236,Tryz.ntmps236;go_wp2_with fail;go_loopg [3,4] (n+1) (fun gk v3 v4 W=>∃i:Nat,v3= .int .i64 (M i)∧v4= .int .i64 i∧(i+gk=n+1∧i≤n)∧w=W);case atStart=>exact⟨0,by rw[HZ.out];rfl,rfl,by omega,rfl⟩
 case round=>
  obtain⟨i,rfl,rfl,hi,rfl⟩:=hrel;by_cases hlt:i<n
  ·have hL:i<L.length:=by rw[HN.out];exact hlt
   obtain⟨g,o,rfl,hc,hg⟩:=HA.out.at_ i hL;have hgd:L[i]?=some L[i] :=List.getElem?_eq_getElem hL;rw[hgd]at hc;simp only[Option.getD_some]at hc;have hx:=HX.out i _ hgd;generalize L[i]'hL=s at*;have hb1:=HB.out (i+1);have hsz:=strOf_sz s;obtain⟨k,hk⟩:∃k,s.length=k:=⟨_,rfl⟩;rw[hk]at hx hsz;have b6:decide ((i:Int)<n)=true:=by simp;omega
   have b6':decide (i<n)=true:=by simp;omega
   have i0:(0:Int)≤i:=by omega
   have i1:(i:Int)<n:=by omega
   have wi:IntKind.i64.wrap ((i:Int)+1)=(i:Int)+1:=IntWalk.i64_in _ (by omega);have wk:IntKind.i64.wrap ((M i:Int)+1)=(M i:Int)+1:=IntWalk.i64_in _ (by omega);have HS:=Lib.hid hx;have wm:IntKind.i64.wrap ((M i:Int)+1+(k:Int))=(M i:Int)+1+(k:Int):=IntWalk.i64_in _ (by omega);generalize strOf s=S at*;clear hk hgd hL hx;go_wp2_with fail;go_roundg (gk-1);case measure=>omega
   case rel=>exact⟨i+1,by rw[HS.out];congr 1;push_cast;omega,by go_num,by omega,rfl⟩
  ·obtain rfl:i=n:=by omega
   have b6:decide ((i:Int)<i)=false:=by simp
   have b6':decide (i<i)=false:=by simp
   go_wp2_with fail;go_ret;exact⟨rfl,rfl⟩
set_option maxRecDepth 100000 in
theorem xcheck4(w:World)(ad:Option Addr)(cap:Nat)(L:List (List Nat))(h:StrA w ad L)(hb:wireN L≤1099511627776):Calls Tryz.prog 132 #[.slice ad L.length cap] w fun e w'=>e= .returned (.int .i64 (chkN L))∧w'=w:=by
 have HA:=Lib.hid h;have HW:=Lib.hid (xwire4 w ad cap L h hb);have hle:=h.len;obtain⟨n,hn⟩:∃n,L.length=n:=⟨_,rfl⟩;obtain⟨wn,hwn⟩:∃wn,wireN L=wn:=⟨_,rfl⟩;rw[hn,hwn]at HW;have HWN:=Lib.hid hwn;rw[hn];rw[hn]at hle;have HN:=Lib.hid hn;clear hn h hb hwn;go_enter Tryz.func132,Tryz.ntmps132;go_wp2_with fail;go_loopg [3] (n+1) (fun gk v3 W=>∃i:Nat,v3= .int .i64 i∧(i+gk=n+1∧i≤n)∧Hid (∀s∈L.take i,labOk s=true)∧w=W);case atStart=>exact⟨0,rfl,by omega,Lib.hid (fun s hs=>by simp at hs),rfl⟩
 case round=>
  obtain⟨i,rfl,hi,HT,rfl⟩:=hrel;by_cases hlt:i<n
  ·have hL:i<L.length:=by rw[HN.out];exact hlt
   obtain⟨g,o,rfl,hc,hg⟩:=HA.out.at_ i hL;have hgd:L[i]?=some L[i] :=List.getElem?_eq_getElem hL;rw[hgd]at hc;simp only[Option.getD_some]at hc;have hs:=HA.out.lt _ (List.getElem_mem hL);have hs2:=HA.out.each _ (List.getElem_mem hL);have HGD:=Lib.hid hgd;have HM:=Lib.hid (List.getElem_mem hL);generalize L[i]'hL=s at*;have HLb:=Lib.hid (fun V=>x2label V s hs hs2);have b6:decide ((i:Int)<n)=true:=by simp;omega
   have b6':decide (i<n)=true:=by simp;omega
   have i0:(0:Int)≤i:=by omega
   have i1:(i:Int)<n:=by omega
   have wi:IntKind.i64.wrap ((i:Int)+1)=(i:Int)+1:=IntWalk.i64_in _ (by omega);generalize strOf s=S at*;clear hgd hL hs hs2;by_cases hk:labOk s=true
   ·rw[if_pos hk]at HLb
    have HT':=Lib.hid (show∀t∈L.take (i+1),labOk t=true from fun t ht=>by
     rw[List.take_add_one,HGD.out,Option.toList_some]at ht;rcases List.mem_append.1 ht with h|h
     ·exact HT.out t h
     ·rw[List.mem_singleton]at h;rw[h];exact hk)
    clear hk;go_wp2_with fail;with_reducible refine(HLb.out _).mono ?_
    rintro e w5 ⟨rfl,rfl⟩;go_wp2_with fail;go_roundg (gk-1);case measure=>omega
    case rel=>exact⟨i+1,by go_num,by omega,HT',rfl⟩
   ·rw[if_neg hk]at HLb
    have HC:=Lib.hid (show chkN L=20 from by
     rw[chkN,if_neg];intro hall;rw[List.all_eq_true]at hall;exact hk (hall s HM.out))
    clear hk;go_wp2_with fail;with_reducible refine(HLb.out _).mono ?_
    rintro e w5 ⟨rfl,rfl⟩;go_wp2_with fail;go_ret;exact⟨by rw[HC.out];rfl,rfl⟩
  ·obtain rfl:i=n:=by omega
   have b6:decide ((i:Int)<i)=false:=by simp
   have b6':decide (i<i)=false:=by simp
   have hall:L.all labOk=true:=by
    rw[List.all_eq_true];have:=HT.out;rwa[←HN.out,List.take_length]at this
   by_cases h5:255<wn
   ·have b5:decide ((255:Int)<wn)=true:=by simp;omega
    have b5':decide (255<wn)=true:=by simp;omega
    have HC:=Lib.hid (show chkN L=21 from by rw[chkN,if_pos hall,HWN.out,if_pos h5]);clear hall h5;go_wp2_with fail;with_reducible refine HW.out.mono ?_
    rintro e w5 ⟨rfl,rfl⟩;go_wp2_with fail;go_ret;exact⟨by rw[HC.out];rfl,rfl⟩
   ·have b5:decide ((255:Int)<wn)=false:=by simp;omega
    have b5':decide (255<wn)=false:=by simp;omega
    have HC:=Lib.hid (show chkN L=0 from by rw[chkN,if_pos hall,HWN.out,if_neg h5]);clear hall h5;go_wp2_with fail;with_reducible refine HW.out.mono ?_
    rintro e w5 ⟨rfl,rfl⟩;go_wp2_with fail;go_ret;exact⟨by rw[HC.out];rfl,rfl⟩
theorem xfindD(h:DD w p v l par own nm)(d:DN l par own nm)(ha:a=0∨a∈l)(hb:∀k∈b,k<256)(hb2:b.length≤1048576):Calls Tryz.prog 51 #[.pointer (some ⟨p,0,none⟩),.int .i64 a,.string (strOf b)] w fun e w'=>Fr [] w w'∧((∃x:Nat,e= .returned (.tuple #[.int .i64 x,.bool true])∧x∈l∧nm x=b.map lowB::nm a)∨(e= .returned (.tuple #[.int .i64 0,.bool false])∧∀x∈l,nm x≠b.map lowB::nm a)):=
 (xnfind h (by rw[List.length_map];have:=d.few;omega) (fun d' hd=>by
  obtain⟨y,hy,rfl⟩:=List.mem_map.1 hd;exact d.bx y hy) a b hb hb2).mono fun e w' ⟨hf,h2⟩=>⟨h2,by
  rcases hf with⟨i,d',he,hd,h3,h4⟩|⟨he,hno⟩
  ·obtain⟨y,hy,rfl⟩:=List.mem_map.1 (List.mem_of_getElem? hd)
   exact .inl ⟨y,he,hy,by rw[d.sx y hy,show hdL nm y=b.map lowB from h4,show par y=a from h3]⟩
  ·refine .inr ⟨he,fun x hx e=> ?_⟩
   rw[d.sx x hx]at e;injection e with e1 e2;exact hno _ (List.mem_map_of_mem hx) (d.inj _ _ (d.ux x hx) ha e2) e1⟩
end
end Go.Proofs.YtjjkfcnlgmbbcaaGreatDoor
