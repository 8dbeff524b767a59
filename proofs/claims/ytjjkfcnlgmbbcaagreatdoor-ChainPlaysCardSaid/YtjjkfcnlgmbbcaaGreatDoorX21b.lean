/- The document's nodes: written in place, cut; Hold. -/
import Derived.Test.YtjjkfcnlgmbbcaaGreatDoorX21
import Derived.Test.YtjjkfcnlgmbbcaaGreatDoorME
import Derived.Test.YtjjkfcnlgmbbcaaGreatDoorMG
namespace Go.Proofs.YtjjkfcnlgmbbcaaGreatDoor
set_option linter.unusedVariables false
set_option linter.unusedSimpArgs false
open Go.RowKit
theorem ndL_set:∀(l:List ND4) (i r:Nat) (hi:i<l.length),(ndL l).set (i*4+3) (.int .i64 r)=ndL (l.set i {l[i]with r:=r})
 |b::l,0,r,hi=>rfl
 |b::l,i+1,r,hi=>by
  rw[show(i+1)*4+3=i*4+3+1+1+1+1 by omega];show(.int .i64 b.y:: .int .i64 b.p:: .string (strOf b.s):: .int .i64 b.r::ndL l).set (i*4+3+1+1+1+1) (.int .i64 r)=_;rw[List.set_cons_succ,List.set_cons_succ,List.set_cons_succ,List.set_cons_succ,ndL_set l i r (by simpa using hi)];rfl
theorem Rkn.setR{W:World}{base g cap n:Nat}{L:List ND4}(h:Rkn W base (.slice (some ⟨g,0,none⟩) n cap) L)(i r:Nat)(hi:i<L.length):Rkn (W.setCell ⟨g,i*4+3,none⟩ (.int .i64 r)) base (.slice (some ⟨g,0,none⟩) n cap) (L.set i {L[i]with r:=r}):=by
 obtain⟨h1,⟨h2,h3⟩|⟨g',cap',cur,e,hb,hg,r1,r2,r3,r4⟩⟩:=h
 ·omega
 ·injection e with e1 e2 e3
  injection e1 with e1;injection e1 with e1;subst e1 e3;have hs:=Blk.set (g:=g) (t:=102) (cs:=cur) hg (i*4+3) (.int .i64 r);refine⟨by rw[ndL_len,List.length_set],.inr ⟨g,cap,_,by rw[e2,List.length_set],hb,hs,by rw[List.length_set];exact r1,r2,by simpa using r3,?_⟩⟩;rw[List.length_set,Array.toList_setIfInBounds,List.take_set,r4,ndL_set _ _ _ hi]
theorem RowKn.frozen{w:World}{g cap:Nat}{l:List ND4}(h:RowKn w g cap l)(i:Nat):w.frozen? ⟨g,i,none⟩=false:=by
 obtain⟨cur,hb,_⟩:=h;exact hb.frozen i
theorem set_mapG{α:Type}{f g:Nat→α}{u:Nat}:∀{l:List Nat} {k:Nat},l.Nodup→l[k]?=some u→(∀y,y≠u→f y=g y)→(l.map f).set k (g u)=l.map g
 | [],k,_,h,_=>by simp at h
 |a::l,0,hn,h,hf=>by
  simp at h;subst h;rw[List.nodup_cons]at hn;rw[List.map_cons,List.set_cons_zero,List.map_cons];congr 1;exact List.map_congr_left fun y hy=>hf y (fun e=>hn.1 (by rw[←e];exact hy))
 |a::l,k+1,hn,h,hf=>by
  rw[List.getElem?_cons_succ]at h;rw[List.nodup_cons]at hn;rw[List.map_cons,List.set_cons_succ,List.map_cons,set_mapG hn.2 h hf,hf a (fun e=>hn.1 (by rw[e];exact List.mem_of_getElem? h))]
theorem cut_mapG{f:Nat→ND4}{u:Nat}:∀{l:List Nat} {k:Nat},l.Nodup→l[k]?=some u→cutN (l.map f) k=(l.erase u).map f
 | [],k,_,h=>by simp at h
 |a::l,0,hn,h=>by
  simp at h;subst h;rw[List.erase_cons_head];rfl
 |a::l,k+1,hn,h=>by
  rw[List.getElem?_cons_succ]at h;rw[List.nodup_cons]at hn;have hne:a≠u:=fun e=>hn.1 (by rw[e];exact List.mem_of_getElem? h);rw[List.erase_cons_tail (by simpa using hne),List.map_cons,List.map_cons];show f a::cutN (l.map f) k=_;rw[cut_mapG hn.2 h]
def nd4(par R:Nat→Nat)(lb:Nat→List Nat)(y:Nat):ND4:=⟨y,par y,R y,lb y⟩
def IsD(w:World)(p:Nat)(v:Value)(l:List Nat)(par R:Nat→Nat)(lb:Nat→List Nat):Prop:=IsN w p v (l.map (nd4 par R lb))
section
variable {w w' W W' : World} {p : Nat} {v : Value} {l : List Nat} {par R : Nat → Nat} {lb : Nat → List Nat} {x a : Nat}
theorem IsD.congr{par' R':Nat→Nat}{lb':Nat→List Nat}(h:IsD w p v l par R lb)(hc:∀y∈l,par' y=par y∧R' y=R y∧lb' y=lb y):IsD w p v l par' R' lb':=by
 unfold IsD at h⊢;rwa[List.map_congr_left fun y hy=>show nd4 par' R' lb' y=nd4 par R lb y from by rw[nd4,(hc y hy).1,(hc y hy).2.1,(hc y hy).2.2];rfl]
theorem nd4_get{i:Nat}{d:ND4}(h:(l.map (nd4 par R lb))[i]?=some d):l[i]?=some d.y∧d=nd4 par R lb d.y:=by
 rw[List.getElem?_map]at h;cases e:l[i]? with
 |none=>rw[e]at h;cases h
 |some u=>
  rw[e]at h;injection h with h;subst h;exact⟨rfl,rfl⟩
theorem xat_yes(h:IsD w p v l par R lb)(hl:l.length≤100000)(hx:x∈l):Calls Tryz.prog 117 #[.pointer (some ⟨p,0,none⟩),.int .i64 x] w fun e w'=>(∃i:Nat,e= .returned (.int .i64 (i:Nat))∧l[i]?=some x)∧w'=w:=
 (xnat h (by rw[List.length_map];exact hl) x).mono fun e w' ⟨ha,hw⟩=>⟨by
  rcases ha with⟨i,d,he,hd,hdx⟩|⟨_,hno⟩
  ·exact⟨i,he,hdx▸(nd4_get hd).1⟩
  ·exact absurd rfl (hno _ (List.mem_map_of_mem hx)),hw⟩
theorem IsD.rowg{g n cap:Nat}(h:IsD w p (.slice (some ⟨g,0,none⟩) n cap) l par R lb)(h0:0<l.length):RowKn w g cap (l.map (nd4 par R lb))∧p<g:=by
 obtain⟨ad,cap',e,hrow⟩:=IsN.row h;rw[List.length_map]at hrow;injection e with e1 _ e3;obtain⟨g',e4,hg,hr⟩:=hrow h0;rw[e4]at e1;injection e1 with e1;injection e1 with e1;subst e1 e3;exact⟨hr,hg⟩
theorem IsD.set(h:IsD w p v l par R lb)(hn:l.Nodup){i:Nat}(hi:l[i]?=some x)(r:Nat):∃g cap,v= .slice (some ⟨g,0,none⟩) l.length cap∧p<g∧RowKn w g cap (l.map (nd4 par R lb))∧l.length≤cap∧∀W,Fr [] w W→IsD (W.setCell ⟨g,i*4+3,none⟩ (.int .i64 r)) p v l par (up R x r) lb∧Fr [g] W (W.setCell ⟨g,i*4+3,none⟩ (.int .i64 r)):=by
 have hlt:=(List.getElem?_eq_some_iff.1 hi).1;obtain⟨ad,cap,e,hrow⟩:=IsN.row h;rw[List.length_map]at e hrow;obtain⟨g,rfl,hg,hr⟩:=hrow (by omega);subst e;refine⟨g,cap,rfl,hg,hr,by have:=hr.le;rwa[List.length_map]at this,fun W hW=> ?_⟩;have f:Fr [g] W (W.setCell ⟨g,i*4+3,none⟩ (.int .i64 r)):=(Fr.refl [g] W).setCell (p:=⟨g,i*4+3,none⟩) (.inl (by simp)) _;have h':=IsN.fr0 h hW;refine⟨⟨h'.st.fr f (by simp;omega),?_⟩,f⟩;have:=h'.r.setR i r (by rw[List.length_map];exact hlt)
 rwa[show({(l.map (nd4 par R lb))[i]'(by rw[List.length_map];exact hlt)with r:=r}:ND4)=nd4 par (up R x r) lb x from by
  rw[List.getElem_map];have e:l[i] =x:=(List.getElem?_eq_some_iff.1 hi).2;rw[e,nd4,nd4,up_same],set_mapG hn hi (fun y hy=>by rw[nd4,nd4,up_ne _ _ hy])]at this
set_option maxRecDepth 100000 in
theorem xnhold(h:IsD w p v l par R lb)(hn:l.Nodup)(hl:l.length≤100000)(hx:x∈l)(hR:R x≤1000000000):Calls Tryz.prog 133 #[.pointer (some ⟨p,0,none⟩),.int .i64 x] w fun e w'=>e= .returned (.int .i64 0)∧IsD w' p v l par (up R x (R x+1)) lb∧Fr (ownS v) w w':=by
 have hat:=xat_yes h hl hx;have hst:=h.st.cell 0;simp at hst;have HI:=Lib.hid h;have HN:=Lib.hid hn;generalize hr0:R x=r at*;have HR0:=Lib.hid hr0;clear h hn hx hr0;go_enter Tryz.func133,Tryz.ntmps133;go_wp2_with fail;with_reducible refine hat.mono ?_
 rintro e w1 ⟨⟨i,rfl,hi⟩,rfl⟩;obtain⟨g,cap,rfl,hpg,hr,hcap,hset⟩:=HI.out.set HN.out hi (r+1);have c3:=(hr.four (d:=nd4 par R lb x) (by rw[List.getElem?_map,hi];rfl)).2.2.2;have e3:(nd4 par R lb x).r=r:=HR0.out;rw[e3]at c3;have zf:=hr.frozen (i*4+3);have hlt:=(List.getElem?_eq_some_iff.1 hi).1;have HSt:=Lib.hid hset;obtain⟨n,hnl⟩:∃n,l.length=n:=⟨_,rfl⟩;rw[hnl]at hlt hcap hst hl;have b0:decide ((i:Int)<0)=false:=decide_eq_false (by omega);have i0:(0:Int)≤i:=by omega
 have i1:(i:Int)<n:=by omega
 have wi:IntKind.i64.wrap ((r:Int)+1)=((r+1:Nat):Int):=IntWalk.i64_in _ (by omega);have HNL:=Lib.hid hnl;clear hset hr hat hi hnl hpg e3;go_wp2_with fail;go_ret;obtain⟨k1,k2⟩:=HSt.out _ (Fr.refl [] _);exact⟨rfl,k1,k2⟩
end
end Go.Proofs.YtjjkfcnlgmbbcaaGreatDoor
