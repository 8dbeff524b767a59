/- law22.ChainPlays: the walk's state. -/
import Derived.Test.YtjjkfcnlgmbbcaaGreatDoorLaw22q
import Derived.Test.YtjjkfcnlgmbbcaaGreatDoorCr
import Derived.Test.YtjjkfcnlgmbbcaaGreatDoorGD
namespace Go.Proofs.YtjjkfcnlgmbbcaaGreatDoor
set_option linter.unusedVariables false
set_option linter.unusedSimpArgs false
open Go.RowKit
structure KP(wa:World)(q:MH)(u0:TM)(p:Nat)(v v5:Value)(P C:List Nat)(W:World):Prop where
 c: ∃l par own nm fr,CP wa q u0 l par own nm fr W∧DD W p v l par own nm∧ ∀y,y≠0→own y=C.count y
 r:Rw W (p+1) v5 P
 j: ∀k∈ownS v5,k∉ownS v
 ok:BaseOk wa q p
section
variable {wa w W W' : World} {q : MH} {u0 : TM} {p x a : Nat} {v v' v5 v6 : Value} {P C : List Nat} {l : List Nat} {par own : Nat → Nat} {nm : Nat → List (List Nat)} {fr : Nat}
theorem KP.nb(k:KP wa q u0 p v v5 P C W){C':List Nat}(hn:Nb q p v W v' W')(hc:∃l par own nm fr,CP wa q u0 l par own nm fr W'∧DD W' p v' l par own nm∧∀y,y≠0→own y=C'.count y):KP wa q u0 p v' v5 P C' W':=by
 refine⟨hc,k.r.fr hn.f (fun g hg e=> ?_),fun g hg hm=> ?_,k.ok⟩
 ·have h1:=(k.r.lt g e).1
  rcases List.mem_append.1 hg with hg|hg
  ·have:=k.ok.q g hg;omega
  ·rcases List.mem_cons.1 hg with rfl|hg
   ·omega
   ·exact k.j g (by unfold ownS;rw[e];simp) hg
 ·have h1:=(k.r.lt g (ownS_mem hg)).2
  rcases hn.o g hm with h|h
  ·exact k.j g hg h
  ·omega
theorem own_cnt0{own:Nat→Nat}(hl:∀y∈l,y≠0)(hc:CP wa q u0 l par own nm fr W)(ho:∀y,y≠0→own y=C.count y):∀y,own y≤C.length:=fun y=>by
 by_cases h0:y=0
 ·rw[hc.out (fun hm=>hl y hm h0)];exact Nat.zero_le _
 ·rw[ho y h0];exact List.count_le_length
theorem kp_same(k:KP wa q u0 p v v5 P C W):Calls Tryz.prog 19 #[.pointer (some ⟨q.m,0,none⟩),.pointer (some ⟨p,0,none⟩)] W fun e w'=>e= .returned (.bool true)∧KP wa q u0 p v v5 P C w'∧Fr q.blocks W w':=by
 obtain⟨l,par,own,nm,fr,h1,h2,h3⟩:=k.c;exact(same22 h1 h2 k.ok (Nat.le_refl _)).mono fun e w' ⟨he,g1,g2,g3⟩=>⟨he,k.nb (.ofQ g3) ⟨l,par,own,nm,fr,g1,g2,h3⟩,g3⟩
theorem kp_flt(k:KP wa q u0 p v v5 P C W):Calls Tryz.prog 20 #[.pointer (some ⟨q.m,0,none⟩)] W fun e w'=>e= .returned (.int .i64 0)∧Fr q.blocks W w':=by
 obtain⟨l,par,own,nm,fr,h1,h2,h3⟩:=k.c;exact(c_flt h1).mono fun e w' ⟨he,_,g⟩=>⟨he,g⟩
theorem KP.fr0(k:KP wa q u0 p v v5 P C W)(hf:Fr [] W W'):KP wa q u0 p v v5 P C W':=by
 obtain⟨l,par,own,nm,fr,h1,h2,h3⟩:=k.c;exact k.nb (.ofQ hf.nil) ⟨l,par,own,nm,fr,h1.fr0 hf,h2.fr0 hf,h3⟩
theorem KP.out(k:KP wa q u0 p v v5 P C W)(hq:∀g∈q.blocks,w.heap.size≤g)(hp:w.heap.size≤p)(hf:Fr [] w W)(hn:Nb q p v W v' W'):Fr [] w W':=
 hf.step hn.f (fun g hg=> .inr (by
  rcases List.mem_append.1 hg with hg|hg
  ·exact hq g hg
  ·obtain⟨l,par,own,nm,fr,h1,h2,h3⟩:=k.c
   rcases List.mem_cons.1 hg with rfl|hg
   ·exact hp
   ·have:=(h2.r.lt g (ownS_mem hg)).1
    omega))
theorem cnt_snoc(C:List Nat){own:Nat→Nat}(ho:∀y,y≠0→own y=C.count y)(a:Nat):∀y,y≠0→ownP own a y=(C++ [a]).count y:=fun y h0=>by
 rw[List.count_append,List.count_singleton];by_cases e:y=a
 ·subst e
  rw[ownP_at _ h0,ho y h0];simp
 ·rw[ownP_ne _ e,ho y h0,if_neg (by simp;exact fun e2=>e e2.symm)];rfl
def KNm(wa:World)(q:MH)(u0:TM)(p:Nat)(v v5:Value)(P:List Nat)(W:World)(e:Ending)(w':World):Prop:=
 ∃v',Nb q p v W v' w'∧((e= .returned (.tuple #[.int .i64 0,.bool false,.bool true])∧KP wa q u0 p v' v5 P P w')∨(∃at_:Nat,e= .returned (.tuple #[.int .i64 at_,.bool true,.bool true])∧KP wa q u0 p v' v5 P (P++ [at_]) w'))
theorem kp_name(k:KP wa q u0 p v v5 P P W)(ad:Option Addr)(cap:Nat)(L:List (List Nat))(hA:StrA W ad L)(hAq:0<L.length→∀g o,ad=some ⟨g,o,none⟩→g∉q.blocks∧g<p)(hb:wireN L≤1131)(hl:L.length≤130)(hP:P.length≤1000):Calls Tryz.prog 18 #[.pointer (some ⟨q.m,0,none⟩),.pointer (some ⟨p,0,none⟩),.slice ad L.length cap] W (KNm wa q u0 p v v5 P W):=by
 obtain⟨l,par,own,nm,fr,h1,h2,h3⟩:=k.c;have ho:=own_cnt0 (fun y hy=>(h1.rng hy).1) h1 h3;refine(name22 h1 h2 k.ok (Nat.le_refl _) ad cap L hA hAq hb hl (fun y=>by have:=ho y;omega)).mono fun e w' ⟨v',hn,hh⟩=>⟨v',hn,?_⟩;rcases hh with⟨he,fr1,g1,g2⟩|⟨at_,he,l1,par1,nm1,fr1,g0,g1,g2⟩
 ·exact .inl ⟨he,k.nb hn ⟨l,par,own,nm,fr1,g1,g2,h3⟩⟩
 ·exact .inr ⟨at_,he,k.nb hn ⟨l1,par1,_,nm1,fr1,g1,g2,cnt_snoc P h3 at_⟩⟩
theorem KP.app(k:KP wa q u0 p v v5 P C W){P':List Nat}(hr:Rw W' (p+1) v6 P')(hf:Fr (ownS v5) W W')(ho:∀g∈ownS v6,g∈ownS v5∨W.heap.size≤g):KP wa q u0 p v v6 P' C W':=by
 obtain⟨l,par,own,nm,fr,h1,h2,h3⟩:=k.c;refine⟨⟨l,par,own,nm,fr,h1.frL k.ok hf (fun g hg=> ?_),IsN.fr h2 hf (fun hm=> ?_) (fun g hg e=> ?_),h3⟩,hr,fun g hg hm=> ?_,k.ok⟩
 ·have:=(k.r.lt g (ownS_mem hg)).1;omega
 ·have:=(k.r.lt p (ownS_mem hm)).1;omega
 ·exact k.j g hg (by unfold ownS;rw[e];simp)
 ·have:=(h2.r.lt g (ownS_mem hm)).2
  rcases ho g hg with h|h
  ·exact k.j g h hm
  ·omega
theorem cut_cnt{P:List Nat}{i a:Nat}(hi:P[i]?=some a)(y:Nat):(cutL P i).count y+(if y=a then 1 else 0)=P.count y:=by
 have hlt:=(List.getElem?_eq_some_iff.1 hi).1
 have e:P=P.take i++a::P.drop (i+1):=by
  have:=List.take_append_drop i P;rw[List.drop_eq_getElem_cons hlt,(List.getElem?_eq_some_iff.1 hi).2]at this;exact this.symm
 conv=>rhs;rw[e,List.count_append,List.count_cons]
 rw[cutL,List.count_append];by_cases h:y=a
 ·subst h;simp;omega
 ·rw[if_neg h,if_neg (by simp;exact fun e=>h e.symm)];omega
def KDr(wa:World)(q:MH)(u0:TM)(p:Nat)(v v5:Value)(P:List Nat)(a i:Nat)(W:World)(e:Ending)(w':World):Prop:=
 ∃n:Nat,e= .returned (.tuple #[.int .i64 n,.int .i64 0])∧Fr q.blocks W w'∧Rw w' (p+1) v5 P∧Calls Tryz.prog 12 #[.pointer (some ⟨p,0,none⟩),.int .i64 a] w' fun e w''=> ∃v',e= .returned (.tuple #[.int .i64 n,.int .i64 0])∧Nb q p v W v' w''∧KP wa q u0 p v' v5 P (cutL P i) w''
theorem kp_drop(k:KP wa q u0 p v v5 P P W){i:Nat}(hi:P[i]?=some a)(hP:P.length≤1000):Calls Tryz.prog 11 #[.pointer (some ⟨q.m,0,none⟩),.int .i64 a] W (KDr wa q u0 p v v5 P a i W):=by
 obtain⟨l,par,own,nm,fr,h1,h2,h3⟩:=k.c;have ho:=own_cnt0 (fun y hy=>(h1.rng hy).1) h1 h3;have hct:=cut_cnt hi;have hrow:∀w',Fr q.blocks W w'→Rw w' (p+1) v5 P:=fun w' hf=>k.r.frq hf (fun g hg=>by have:=k.ok.q g hg;omega);by_cases h0:a=0
 ·subst h0
  refine c_drop0.mono fun e w' ⟨he,hw⟩=> ?_;subst hw;refine⟨0,he,Fr.refl _ _,k.r,xdrop0.mono fun e w'' ⟨he2,hw2⟩=>⟨v,he2,?_,?_⟩⟩
  ·rw[hw2];exact Nb.refl _ _ _ _
  ·rw[hw2]
   refine k.nb (Nb.refl _ _ _ _) ⟨l,par,own,nm,fr,h1,h2,fun y hy=> ?_⟩;have:=hct y;rw[if_neg hy]at this;rw[h3 y hy];omega
 ·have hpos:own a=(own a-1)+1:=by
   have:=List.count_pos_iff.2 (List.mem_of_getElem? hi);have:=h3 a h0;omega
  have hal:a∈l:=by
   by_cases hm:a∈l
   ·exact hm
   ·have:=h1.out hm;omega
  have h3':∀y,y≠0→up own a (own a-1) y=(cutL P i).count y:=fun y hy=>by
   have:=hct y;by_cases e:y=a
   ·subst e
    rw[if_pos rfl]at this;rw[up_same,h3 y hy];omega
   ·rw[if_neg e]at this
    rw[up_ne _ _ e,h3 y hy];omega
  refine(c_drop h1 hal (own a-1) hpos).mono fun e w' ⟨n,l1,fr1,he,f1,c1,r1,n1⟩=>⟨n,he,f1,hrow w' f1,?_⟩;have hd:=h2.frQ k.ok (Nat.le_refl _) f1;refine(xdrop hd h1.dn hal (own a-1) hpos (fun y=>by have:=ho y;omega)).mono fun e w'' ⟨n2,l2,v',he2,d2,r2,m2,q2,x2⟩=> ?_;have el:l2=l1:=r2.uniq r1 q2 c1.firm h1.nd;subst el;have en:n2=n:=by omega
  subst en;exact⟨v',he2,(Nb.ofQ f1).trans (.ofX x2),k.nb ((Nb.ofQ f1).trans (.ofX x2)) ⟨l2,par,_,nm,fr1,c1.frD hd k.ok (Nat.le_refl _) x2.f,d2,h3'⟩⟩
end
end Go.Proofs.YtjjkfcnlgmbbcaaGreatDoor
