/- The document's chains: Grow. -/
import Derived.Test.YtjjkfcnlgmbbcaaGreatDoorX22b
namespace Go.Proofs.YtjjkfcnlgmbbcaaGreatDoor
set_option linter.unusedVariables false
set_option linter.unusedSimpArgs false
open Go.RowKit
section
variable {w0 w W W' : World} {q : MH} {u0 : TM} {l : List Nat} {par own : Nat → Nat} {nm : Nat → List (List Nat)} {fr x p a c : Nat} {b s : List Nat} {v : Value}
theorem hdL_up(nm:Nat→List (List Nat))(x:Nat)(s:List Nat)(t:List (List Nat))(y:Nat):hdL (up nm x (s::t)) y=up (hdL nm) x s y:=by
 by_cases e:y=x
 ·rw[e,hdL,up_same,up_same];rfl
 ·rw[hdL,up_ne _ _ e,up_ne _ _ e];rfl
structure GrQ(l:List Nat)(par own:Nat→Nat)(x a:Nat):Prop where
 nx:x∉l
 x0:x≠0
 pa:a=0∨(a∈l∧own a≠0)
theorem GrQ.ne(g:GrQ l par own x a):a≠x:=fun e=>by
 rcases g.pa with h|⟨h,_⟩
 ·exact g.x0 (e.symm.trans h)
 ·exact g.nx (e▸h)
theorem GrQ.nez(g:GrQ l par own x a){z:Nat}(hz:z∈l):z≠x:=fun e=>g.nx (e▸hz)
theorem GrQ.bel0(g:GrQ l par own x a)(hu:∀y∈l,par y=0∨par y∈l):bel par l x=0:=by
 rcases Nat.eq_zero_or_pos (bel par l x)with h|h
 ·exact h
 ·obtain⟨z,hz,e⟩:=bel_pos.1 (by omega:bel par l x≠0)
  rcases hu z hz with h|h
  ·exact absurd (e.symm.trans h) g.x0
  ·exact absurd (e▸h) g.nx
theorem GrQ.bel(g:GrQ l par own x a)(y:Nat):bel (up par x a) (l++ [x]) y=bel par l y+(if a=y then 1 else 0):=by
 rw[bel_snoc,up_same,bel_congr (fun z hz=>up_ne _ _ (g.nez hz))]
theorem GrQ.firm(g:GrQ l par own x a)(hf:Firm own par l):Firm (ownG own x a) (up par x a) (l++ [x]):=fun y hy h0=>by
 by_cases ea:y=a
 ·exact⟨x,by simp,by rw[up_same,ea]⟩
 ·by_cases ex:y=x
  ·exfalso
   subst ex;unfold ownG at h0;split at h0
   ·rw[up_same]at h0;cases h0
   ·rw[up_ne _ _ ea,up_same]at h0;cases h0
  ·have h1:own y=0:=by
    unfold ownG at h0;split at h0
    ·rwa[up_ne _ _ ex]at h0
    ·rwa[up_ne _ _ ea,up_ne _ _ ex]at h0
   obtain⟨z,hz,e⟩:=hf y (by
    rcases List.mem_append.1 hy with h|h
    ·exact h
    ·exact absurd (List.mem_singleton.1 h) ex) h1
   exact⟨z,List.mem_append_left _ hz,by rw[up_ne _ _ (g.nez hz)];exact e⟩
theorem GrQ.root(g:GrQ l par own x 0)(hu:∀y∈l,par y=0∨par y∈l)(hz:∀y∈l,y≠0):∀y∈l++ [x],ownG own x 0 y+Go.Proofs.YtjjkfcnlgmbbcaaGreatDoor.bel (up par x 0) (l++ [x]) y=up (up (holdR (fun y=>own y+Go.Proofs.YtjjkfcnlgmbbcaaGreatDoor.bel par l y) 0) x 0) x 1 y:=fun y hy=>by
 rw[g.bel,ownG,if_pos rfl,holdR,if_pos rfl];by_cases ex:y=x
 ·rw[ex,up_same,up_same,g.bel0 hu,if_neg (fun e=>g.x0 e.symm)]
 ·rw[up_ne _ _ ex,up_ne _ _ ex,up_ne _ _ ex]
  have hyl:y∈l:=by
   rcases List.mem_append.1 hy with h|h
   ·exact h
   ·exact absurd (List.mem_singleton.1 h) ex
  rw[if_neg (fun e=>hz y hyl e.symm)];rfl
theorem GrQ.letq(g:GrQ l par own x a)(h0:a≠0)(d:DN l par own nm)(ho:∀y,own y≤900000000):LetQ (l++ [x]) (up par x a) (ownG own x a) (up (up (holdR (fun y=>own y+Go.Proofs.YtjjkfcnlgmbbcaaGreatDoor.bel par l y) a) x 0) x 1) a:=by
 obtain⟨hal,hoa⟩:=g.pa.resolve_left h0;have hne:=g.ne;refine⟨?_,List.mem_append_left _ hal,fun y hy=> ?_,fun y hy hya h=>g.firm d.firm y hy h,fun y hy=> ?_,fun y hy=> ?_,fun y hy=> ?_⟩
 ·rw[List.nodup_append]
  exact⟨d.nd,by simp,fun y hy z hz e=>by rw[List.mem_singleton]at hz;subst hz;exact g.nx (e▸hy)⟩
 ·rw[g.bel,ownG,if_neg h0,holdR,if_neg h0]
  by_cases ex:y=x
  ·rw[ex,up_same,up_ne _ _ hne.symm,up_same,g.bel0 d.ux,if_neg hne,if_neg hne.symm]
  ·rw[up_ne _ _ ex,up_ne _ _ ex]
   by_cases ea:y=a
   ·rw[ea,up_same,up_same,if_pos rfl];omega
   ·rw[up_ne _ _ ea,up_ne _ _ ea,up_ne _ _ ex,if_neg (fun e=>ea e.symm),if_neg ea];rfl
 ·rcases List.mem_append.1 hy with h|h
  ·rw[up_ne _ _ (g.nez h)]
   rcases d.ux y h with h|h
   ·exact .inl h
   ·exact .inr (List.mem_append_left _ h)
  ·rw[List.mem_singleton.1 h,up_same]
   exact .inr (List.mem_append_left _ hal)
 ·rcases List.mem_append.1 hy with h|h
  ·exact d.nz y h
  ·rw[List.mem_singleton.1 h];exact g.x0
 ·rw[ownG,if_neg h0]
  by_cases ea:y=a
  ·rw[ea,up_same];have:=ho a;omega
  ·rw[up_ne _ _ ea]
   by_cases ex:y=x
   ·rw[ex,up_same];omega
   ·rw[up_ne _ _ ex];exact ho y
def GwX(p:Nat)(v:Value)(w:World)(l:List Nat)(par own:Nat→Nat)(nm:Nat→List (List Nat))(x a:Nat)(s:List Nat)(e:Ending)(w':World):Prop:=
 ∃v',e= .returned (.int .i64 0)∧DD w' p v' (l++ [x]) (up par x a) (ownG own x a) (up nm x (s::nm a))∧Nx p v w v' w'
set_option maxRecDepth 100000 in
set_option maxHeartbeats 1000000 in
theorem xgrow(h:DD w p v l par own nm)(d:DN l par own nm)(g:GrQ l par own x a)(hb:∀k∈b,k<256)(hk:labOk b=true)(hno:∀y∈l,nm y≠b.map lowB::nm a)(ho:∀y,own y≤900000000):Calls Tryz.prog 60 #[.pointer (some ⟨p,0,none⟩),.int .i64 a,.int .i64 x,.string (strOf b)] w (GwX p v w l par own nm x a (b.map lowB)):=by
 have hfew:=d.few;have hmk:=xnmake h d.nd (by omega) d.bx g.nx (g.pa.imp id (·.1)) (by have:=ho a;have:=bel_le par l a;omega) hb hk (fun y hy hp e=>hno y hy (by rw[d.sx y hy,e,hp]));have hlen:(l++ [x]).length=l.length+1:=by simp
 have hnd:(l++ [x]).Nodup:=by
  rw[List.nodup_append];exact⟨d.nd,by simp,fun y hy z hz e=>by rw[List.mem_singleton]at hz;subst hz;exact g.nx (e▸hy)⟩
 have HHo:=Lib.hid (fun W v' (hW:IsD W p v' (l++ [x]) (up par x a) (up (holdR (fun y=>own y+bel par l y) a) x 0) (up (hdL nm) x (b.map lowB)))=>by
  have:=xnhold (x:=x) hW hnd (by omega) (by simp) (by rw[up_same];omega);rwa[up_same]at this)
 have HLt:=Lib.hid (fun(h0:a≠0) W v' (hW:IsD W p v' (l++ [x]) (up par x a) (up (up (holdR (fun y=>own y+bel par l y) a) x 0) x 1) (up (hdL nm) x (b.map lowB)))=>xnlet (ownG own x a) (up par x a) (up (hdL nm) x (b.map lowB)) p (l++ [x]).length rfl (by omega) hW (g.letq h0 d ho));have HL1:=Lib.hid (fun l1 (hr:Rem (ownG own x a) (up par x a) (l++ [x]) l1) (hf:Firm (ownG own x a) (up par x a) l1)=>hr.uniq (.refl _) hf (g.firm d.firm) hnd);have HG:=Lib.hid g;have HD:=Lib.hid d;have hax:=g.ne;generalize strOf b=S at*;generalize b.map lowB=s at*;clear h d g hb hk hno ho hfew hlen hnd;go_enter Tryz.func60,Tryz.ntmps60;go_wp2_with fail;with_reducible refine hmk.mono ?_
 rintro e w1 ⟨v1,rfl,h1,n1⟩;have hho:=HHo.out _ _ h1;have N1:=Lib.hid n1;clear hmk h1 n1;go_wp2_with fail;with_reducible refine hho.mono ?_
 rintro e w2 ⟨rfl,h2,f2⟩;have N2:=Lib.hid (N1.out.trans ⟨f2.mono (fun k hk=> .inl (List.mem_cons_of_mem p hk)),fun k hk=> .inl hk⟩);have H2:=Lib.hid h2;clear hho h2 f2;by_cases h0:a=0
 ·subst h0
  have HR:=Lib.hid (show DD w2 p v1 (l++ [x]) (up par x 0) (ownG own x 0) (up nm x (s::nm 0))from IsD.congr H2.out (fun y hy=>⟨rfl,HG.out.root HD.out.ux HD.out.nz y hy,hdL_up nm x s _ y⟩));clear HLt;go_wp2_with fail;go_ret;exact⟨v1,rfl,HR.out,N2.out⟩
 ·have b1:((a:Int) !=0)=true:=by rw[bne_iff_ne];omega
  have b1':(a !=0)=true:=by rw[bne_iff_ne];exact h0
  have hlt:=HLt.out h0 _ _ H2.out;clear h0;go_wp2_with fail;with_reducible refine hlt.mono ?_
  rintro e w3 ⟨k,l1,R1,v3,rfl,h3,h4,-,h5,h6,h7⟩;obtain rfl:=HL1.out l1 h4 h6;have HR:=Lib.hid (show DD w3 p v3 (l++ [x]) (up par x a) (ownG own x a) (up nm x (s::nm a))from IsD.congr h3 (fun y hy=>⟨rfl,(h5 y hy).symm,hdL_up nm x s _ y⟩));have N3:=Lib.hid (N2.out.trans h7);clear h3 h4 h5 h6 h7 hlt;go_wp2_with fail;go_ret;exact⟨v3,rfl,HR.out,N3.out⟩
end
end Go.Proofs.YtjjkfcnlgmbbcaaGreatDoor
