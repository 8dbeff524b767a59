/- The document's nodes: Let. -/
import Derived.Test.YtjjkfcnlgmbbcaaGreatDoorX21b
namespace Go.Proofs.YtjjkfcnlgmbbcaaGreatDoor
set_option linter.unusedVariables false
set_option linter.unusedSimpArgs false
open Go.RowKit
theorem step_appN{P:Program}{ops:Array Oper}{o:Oper}{a:Act}{w:World}{K:Act→World→Prop}{Q:Exit→Act→World→Prop}{E:Prop}
  (hg:o.guard=none) (s x:Operand) (t:TypeId) (hop:o.op=Op.call {callee:=Callee.builtin Builtin.append,args:= #[s,x],argTypes:= #[t,t]}) (hty:o.type=t)
  (vs vx v':Value) (w':World) (hs:a.eval s=vs) (hx:a.eval x=vx) (hrun:(Builtin.append_ #[t,t] t #[vs,vx]).run P w= .ok v' w')
  (hK:K (a.put o.dst v') w'):if Region.wanted o (yielded ops a.tmps)=true then Oper.wp P o a w K Q else E:=by
 have hw:Region.wanted o (yielded ops a.tmps)=true:=by simp[Region.wanted,hg]
 rw[if_pos hw]
 subst hty
 unfold Oper.wp
 simp[execOp,hop,resolve,invoke,builtin,hs,hx,hrun,Result.andThen]
 exact hK
theorem cutGN{G H:Prop}(f:G→H)(g:G):H:=f g
structure Nx(p:Nat)(v:Value)(w:World)(v':Value)(w':World):Prop where
 f:Fr (p::ownS v) w w'
 o: ∀k∈ownS v',k∈ownS v∨w.heap.size≤k
theorem Nx.trans{p:Nat}{v v' v2:Value}{w w' w2:World}(h:Nx p v w v' w')(h2:Nx p v' w' v2 w2):Nx p v w v2 w2:=
 ⟨h.f.step h2.f (fun k hk=>by
  rcases List.mem_cons.1 hk with rfl|hk
  ·exact .inl (by simp)
  rcases h.o k hk with h|h
  ·exact .inl (List.mem_cons_of_mem _ h)
  ·exact .inr h),fun k hk=>by
  rcases h2.o k hk with h3|h3
  ·exact h.o k h3
  ·exact .inr (Nat.le_trans h.f.size h3)⟩
def LetX(p:Nat)(v:Value)(w:World)(l:List Nat)(par own:Nat→Nat)(lb:Nat→List Nat)(e:Ending)(w':World):Prop:=
 ∃(k:Nat) (l1:List Nat) (R1:Nat→Nat) (v':Value),e= .returned (.tuple #[.int .i64 (k:Nat),.int .i64 0])∧IsD w' p v' l1 par R1 lb∧Rem own par l l1∧k+l1.length=l.length∧(∀y∈l1,R1 y=own y+bel par l1 y)∧Firm own par l1∧Nx p v w v' w'
structure LetQ(l:List Nat)(par own R:Nat→Nat)(x:Nat):Prop where
 nd:l.Nodup
 ix:x∈l
 rf: ∀y∈l,R y=own y+bel par l y+(if y=x then 1 else 0)
 nf: ∀y∈l,y≠x→own y=0→ ∃z∈l,par z=y
 u: ∀y∈l,par y=0∨par y∈l
 z: ∀y∈l,y≠0
 o: ∀y∈l,own y≤900000000
section
variable {l : List Nat} {par own R : Nat → Nat} {x : Nat}
theorem LetQ.at_x(h:LetQ l par own R x):∃r,R x=r+1∧r=own x+bel par l x:=⟨own x+bel par l x,by rw[h.rf x h.ix,if_pos rfl],rfl⟩
theorem LetQ.keep(h:LetQ l par own R x){r:Nat}(hr:r=own x+bel par l x)(h0:r≠0):(∀y∈l,up R x r y=own y+bel par l y)∧Firm own par l:=by
 refine⟨fun y hy=> ?_,fun y hy ho=> ?_⟩
 ·by_cases e:y=x
  ·rw[e,up_same,hr]
  ·rw[up_ne _ _ e,h.rf y hy,if_neg e];rfl
 ·by_cases e:y=x
  ·subst e
   exact bel_pos.1 (by omega)
  ·exact h.nf y hy e ho
theorem LetQ.gone(h:LetQ l par own R x)(h0:own x+bel par l x=0):own x=0∧∀z∈l,par z≠x:=⟨by omega,fun z hz e=>by
 have:bel par l x≠0:=bel_pos.2 ⟨z,hz,e⟩;omega⟩
theorem LetQ.rem(h:LetQ l par own R x)(h0:own x+bel par l x=0):Rem own par l (l.erase x):= .step (.refl l) h.ix (h.gone h0).1 (h.gone h0).2
theorem LetQ.mem(h:LetQ l par own R x){y:Nat}:y∈l.erase x↔y≠x∧y∈l:=by rw[h.nd.mem_erase_iff]
theorem LetQ.stop(h:LetQ l par own R x)(h0:own x+bel par l x=0)(hp:par x=0):(∀y∈l.erase x,R y=own y+bel par (l.erase x) y)∧Firm own par (l.erase x):=by
 refine⟨fun y hy=> ?_,fun y hy ho=> ?_⟩
 ·obtain⟨hne,hm⟩:=h.mem.1 hy
  have:=h.z y hm;rw[h.rf y hm,if_neg hne,bel_erase h.ix,hp,if_neg (by omega)];rfl
 ·obtain⟨hne,hm⟩:=h.mem.1 hy
  obtain⟨z,hz,e⟩:=h.nf y hm hne ho;exact⟨z,h.mem.2 ⟨fun e2=>by subst e2;exact h.z y hm (by rw[←e,hp]),hz⟩,e⟩
theorem LetQ.next(h:LetQ l par own R x)(h0:own x+bel par l x=0)(hp:par x≠0):LetQ (l.erase x) par own R (par x):=by
 have hg:=(h.gone h0).2;refine⟨h.nd.erase x,h.mem.2 ⟨hg x h.ix,(h.u x h.ix).resolve_left hp⟩,fun y hy=> ?_,fun y hy hne ho=> ?_,fun y hy=> ?_,fun y hy=>h.z y (h.mem.1 hy).2,fun y hy=>h.o y (h.mem.1 hy).2⟩
 ·obtain⟨hne,hm⟩:=h.mem.1 hy
  rw[h.rf y hm,if_neg hne,bel_erase h.ix];by_cases e:par x=y
  ·rw[if_pos e,if_pos e.symm];omega
  ·rw[if_neg e,if_neg (fun e2=>e e2.symm)];omega
 ·obtain⟨hnx,hm⟩:=h.mem.1 hy
  obtain⟨z,hz,e⟩:=h.nf y hm hnx ho;exact⟨z,h.mem.2 ⟨fun e2=>by subst e2;exact hne e.symm,hz⟩,e⟩
 ·obtain⟨hnx,hm⟩:=h.mem.1 hy
  rcases h.u y hm with e|e
  ·exact .inl e
  ·exact .inr (h.mem.2 ⟨hg y hm,e⟩)
end
section
variable {w W : World} {p : Nat} {v : Value} {l : List Nat} {par R : Nat → Nat} {lb : Nat → List Nat} {x : Nat}
theorem IsD.cut{g cap n:Nat}(h:IsD W p (.slice (some ⟨g,0,none⟩) n cap) l par R lb)(hn:l.Nodup){i:Nat}(hi:l[i]?=some x)(hl:l.length≤100000)(hln:l.length=n):∃v1 w1 v2 w2,(Builtin.append_ #[29,29] 29 #[.slice (some ⟨W.heap.size,0,none⟩) 0 0,.slice (some ⟨g,0,none⟩) i cap]).run Tryz.prog (W.alloc (.cells #[] 102)).drew= .ok v1 w1
   ∧(Builtin.append_ #[29,29] 29 #[v1,.slice (if cap-(i+1)=0 then some ⟨g,0,none⟩else some ⟨g,(i+1)*4,none⟩) (n-(i+1)) (cap-(i+1))]).run Tryz.prog w1= .ok v2 w2
   ∧(W.alloc (.cells #[] 102)).drew.cell? ⟨p,0,none⟩=some (.slice (some ⟨g,0,none⟩) n cap)∧w1.cell? ⟨p,0,none⟩=some (.slice (some ⟨g,0,none⟩) n cap)∧w2.cell? ⟨p,0,none⟩=some (.slice (some ⟨g,0,none⟩) n cap)∧w2.frozen? ⟨p,0,none⟩=false
   ∧IsD (w2.setCell ⟨p,0,none⟩ v2) p v2 (l.erase x) par R lb∧Fr [p] W (w2.setCell ⟨p,0,none⟩ v2)∧ ∀k∈ownS v2,W.heap.size≤k:=by
 have hlt:=(List.getElem?_eq_some_iff.1 hi).1
 obtain⟨hr,hpg⟩:=h.rowg (by omega)
 obtain⟨v1,w1,v2,w2,e1,e2,o,f⟩:=cut_runN hr (k:=i) (by rw[List.length_map];exact hlt) (by rw[List.length_map];omega)
 rw[List.length_map,hln]at e2
 have hp:=h.st.lt
 have f2:Fr [p] w2 (w2.setCell ⟨p,0,none⟩ v2):=(Fr.refl [p] w2).setCell (p:=⟨p,0,none⟩) (.inl (by simp)) _
 have c0:=h.st.cell 0
 simp at c0
 have fa:Fr [] W (W.alloc (.cells #[] 102)).drew:=((Fr.refl [] W).alloc _).drew
 have f1:Fr [] W w1:=by
  have hO0:Rkn (W.alloc (.cells #[] 102)).drew W.heap.size (.slice (some ⟨W.heap.size,0,none⟩) 0 0) [] :=ownKn0 W
  have hg:=hr.lt
  obtain⟨v1',w1',e1',hO1,g1,_⟩:=run_appKn _ _ _ [] hO0 (some ⟨g,0,none⟩) cap ((l.map (nd4 par R lb)).take i) (fun _=>⟨g,0,rfl,fun j hj k hk=>by
   rw[List.length_take,List.length_map]at hj
   have:=(hr.fr fa (by simp)).cell j (by rw[List.length_map];omega) k hk
   rw[Nat.zero_add,this,List.getElem_take]⟩) (by simp;omega) fa.size
  rw[List.length_take,List.length_map,Nat.min_eq_left (by omega)]at e1'
  rw[e1']at e1
  injection e1 with _ e1
  subst e1
  exact hO0.grow g1 fa (Nat.le_refl _)
 refine⟨v1,w1,v2,w2,e1,e2,(fa.cell (p:=⟨p,0,none⟩) hp (by simp)).trans c0,(f1.cell (p:=⟨p,0,none⟩) hp (by simp)).trans c0,(f.cell (p:=⟨p,0,none⟩) hp (by simp)).trans c0,(h.st.fr f (by simp)).frozen 0,⟨?_,?_⟩,f.nil.trans f2,fun k hk=>(o.lt k (ownS_mem hk)).1⟩
 ·exact(h.st.fr f (by simp)).set 0 v2
 ·rw[cut_mapG hn hi]at o
  exact(o.fr f2 (fun k hk e=>by
   simp at hk
   subst hk
   have:=(o.lt _ e).1
   omega)).lo (by omega)
end
set_option maxRecDepth 100000 in
set_option maxHeartbeats 4000000 in
theorem xnlet(own par:Nat→Nat)(lb:Nat→List Nat)(p:Nat):∀(n:Nat) {w:World} {v:Value} {l:List Nat} {R:Nat→Nat} {x:Nat},l.length=n→n≤100000→IsD w p v l par R lb→LetQ l par own R x→
  Calls Tryz.prog 49 #[.pointer (some ⟨p,0,none⟩),.int .i64 x] w (LetX p v w l par own lb)
 |0,w,v,l,R,x,hl,_,_,hq=>by
  have:=List.length_pos_of_mem hq.ix;omega
 |n+1,w,v,l,R,x,hln,hl,h,hq=>by
  have hat:=xat_yes h (by omega) hq.ix;have hst:=h.st.cell 0;simp at hst;have HI:=Lib.hid h;have HQ:=Lib.hid hq;obtain⟨r,hr0,hrx⟩:=hq.at_x;have hbl:=bel_le par l x;have hox:=hq.o x hq.ix;have HR:=Lib.hid hrx;have hr9:r≤1000000000:=by omega
  obtain⟨rr,hrr⟩:∃rr,r+1=rr:=⟨_,rfl⟩;rw[hrr]at hr0;have HR0:=Lib.hid hr0;have IH:=Lib.hid (fun w v l R x=>xnlet own par lb p n (w:=w) (v:=v) (l:=l) (R:=R) (x:=x));have HLN:=Lib.hid hln;have hp:=h.st.lt;clear h hq hr0 hrx hbl hox hln;go_enter Tryz.func49,Tryz.ntmps49;go_wp2_with fail;with_reducible refine hat.mono ?_
  rintro e w1 ⟨⟨i,rfl,hi⟩,rfl⟩;obtain⟨g,cap,rfl,hpg,hr,hcap,hset⟩:=HI.out.set HQ.out.nd hi r;obtain⟨c0,c1,c2,c3⟩:=hr.four (d:=nd4 par R lb x) (by rw[List.getElem?_map,hi];rfl);have e3:(nd4 par R lb x).r=rr:=HR0.out;rw[e3]at c3;have zf:=hr.frozen (i*4+3);have hlt:=(List.getElem?_eq_some_iff.1 hi).1;obtain⟨h1,f1⟩:=hset _ (Fr.refl [] w1);rw[HLN.out]at hlt hcap hst;have HI1:=Lib.hid h1;have HF1:=Lib.hid f1;obtain⟨d0,d1,d2,d3⟩:=(h1.rowg (by rw[HLN.out];omega)).1.four (d:=nd4 par (up R x r) lb x) (by rw[List.getElem?_map,hi];rfl);have e4:(nd4 par (up R x r) lb x).r=r:=up_same _ _ _;rw[e4]at d3;have hst1:=h1.st.cell 0;simp at hst1;rw[HLN.out]at hst1;have HIi:=Lib.hid hi;generalize hN:n+1=N at*;have b0:decide ((i:Int)<0)=false:=decide_eq_false (by omega);have i0:(0:Int)≤i:=by omega
  have i1:(i:Int)<N:=by omega
  have wi:IntKind.i64.wrap ((rr:Int)-1)=(r:Int):=by rw[show(rr:Int)-1=(r:Int)by omega];exact IntWalk.i64_in _ (by omega)
  have br:((rr:Int)==0)=false:=by rw[beq_eq_false_iff_ne];omega
  have br':(rr==0)=false:=by rw[beq_eq_false_iff_ne];omega
  have hs1:w1.heap.size≤(w1.setCell ⟨g,i*4+3,none⟩ (.int .i64 r)).heap.size:=f1.size;clear hset hr hat h1 f1 e3 e4 hi;rw[show(nd4 par R lb x).y=x from rfl]at c0;rw[show(nd4 par R lb x).p=par x from rfl]at c1;rw[show(nd4 par R lb x).s=lb x from rfl]at c2;rw[show(nd4 par (up R x r) lb x).y=x from rfl]at d0;rw[show(nd4 par (up R x r) lb x).p=par x from rfl]at d1;rw[show(nd4 par (up R x r) lb x).s=lb x from rfl]at d2;generalize strOf (lb x)=S0 at*;generalize hpx:par x=px at*;by_cases hr1:r=0
  ·have b1:decide ((0:Int)<r)=false:=decide_eq_false (by omega)
   have b1':decide (0<r)=false:=decide_eq_false (by omega);have h00:own x+bel par l x=0:=HR.out.symm.trans hr1;have HR1:=Lib.hid hr1;have H00:=Lib.hid h00;clear hr1 hrr h00;go_wp2_with fail;have hIW:IsD ((w1.setCell ⟨g,i*4+3,none⟩ (.int .i64 r)).alloc (.cells #[.int .i64 x,.int .i64 px,.string S0,.int .i64 r] 102)) p (.slice (some ⟨g,0,none⟩) l.length cap) l par (up R x r) lb:=IsN.fr0 HI1.out ((Fr.refl [] _).alloc _);have hFW:Fr [g] w1 ((w1.setCell ⟨g,i*4+3,none⟩ (.int .i64 r)).alloc (.cells #[.int .i64 x,.int .i64 px,.string S0,.int .i64 r] 102)):=HF1.out.alloc _
   have hB7:Blk ((w1.setCell ⟨g,i*4+3,none⟩ (.int .i64 r)).alloc (.cells #[.int .i64 x,.int .i64 px,.string S0,.int .i64 r] 102)) w1.heap.size 102 #[.int .i64 x,.int .i64 px,.string S0,.int .i64 r] :=by
    have:=Blk.new (w1.setCell ⟨g,i*4+3,none⟩ (.int .i64 r)) 102 #[.int .i64 x,.int .i64 px,.string S0,.int .i64 r];rwa[show(w1.setCell ⟨g,i*4+3,none⟩ (.int .i64 r)).heap.size=w1.heap.size by simp[World.setCell]]at this
   have hstW:=hIW.st.cell 0;simp only[List.getElem?_toArray,List.getElem?_cons_zero]at hstW;rw[HLN.out]at hstW;generalize(w1.setCell ⟨g,i*4+3,none⟩ (.int .i64 r)).alloc (.cells #[.int .i64 x,.int .i64 px,.string S0,.int .i64 r] 102)=W at*;obtain⟨v1,wa,v2,wb,e1,e2,ca,cb,cc,zc,hI3,hF3,ho3⟩:=hIW.cut HQ.out.nd HIi.out (by rw[HLN.out];exact hl) rfl;rw[HLN.out]at e2 ca cb cc
   obtain⟨ad3,n3,cap3,hv2⟩:∃ad3 n3 cap3,v2= .slice ad3 n3 cap3:=by
    obtain⟨ad3,cap3,e,-⟩:=IsN.row hI3;exact⟨ad3,_,cap3,e⟩
   subst hv2;have HE1:=Lib.hid e1;have HE2:=Lib.hid e2;have HI3:=Lib.hid (show IsD _ p (.slice ad3 n3 cap3) (l.erase x) par R lb from IsD.congr hI3 (fun y hy=>⟨rfl,(up_ne _ _ (HQ.out.mem.1 hy).1).symm,rfl⟩));have hs3:=hF3.size;have hpb:p≠w1.heap.size:=by omega
   have hB3:=hB7.fr hF3 (by simp;omega);have HNx:=Lib.hid (show Nx p (.slice (some ⟨g,0,none⟩) l.length cap) w1 (.slice ad3 n3 cap3) _ from⟨(hFW.mono (fun k hk=> .inl (List.mem_cons_of_mem p hk))).step hF3 (fun k hk=>by simp at hk;subst hk;exact .inl (by simp)),fun k hk=> .inr (Nat.le_trans hFW.size (ho3 k hk))⟩);have q0:=hB3.cell 1;simp only[List.getElem?_toArray,List.getElem?_cons_zero,List.getElem?_cons_succ]at q0;have g2:(i:Int)≤cap:=by omega
   have g2':i≤cap:=by omega
   have g3:(i:Int)+1≤N:=by omega
   have g3':i+1≤N:=by omega
   have g4:(N:Int)≤cap:=by omega
   have g5:IntKind.i64.wrap ((i:Int)+1)=(i:Int)+1:=IntWalk.i64_in _ (by omega);have g6:(0:Int)≤(i:Int)+1:=by omega
   have g8:((i:Int)+1).toNat=i+1:=by omega
   clear e1 e2 hI3 hF3 ho3 hB7 hB3 hFW hIW HI HI1 HF1 c0 c1 c2 c3 d0 d1 d2 d3 zf hst hst1 wi br br' b0 b1 b1' hs1;generalize hc2:(if cap-(i+1)=0 then(some ⟨g,0,none⟩:Option Addr)else some ⟨g,(i+1)*4,none⟩)=ad2 at*
   have hc3:(if cap=i+1 then(some ⟨g,0,none⟩:Option Addr)else some ⟨g,(i+1)*4,none⟩)=ad2:=by
    rw[←hc2];by_cases e:cap=i+1
    ·rw[if_pos e,if_pos (by omega)]
    ·rw[if_neg e,if_neg (by omega)]
   generalize w1.heap.size=b7 at*;apply cutGN
   ·intro key
    go_region_law (first|(refine step_appN rfl (.tmp 45) (.tmp 51) 29 rfl rfl _ _ _ _ (by simp[Act.eval,Act.put]) (by simp[Act.eval,Act.put]) HE1.out ?_)|(refine step_appN rfl (.tmp 52) (.tmp 59) 29 rfl rfl _ _ _ _ (by simp[Act.eval,Act.put]) (by simp[Act.eval,Act.put,hc3]) HE2.out ?_));all_goals exact key
   ·clear hc2 hc3 HE1 HE2 ca cb cc zc hstW
    try simp only[Act.put,List.getElem_toArray,List.getElem_cons_zero,List.getElem_cons_succ,List.setIfInBounds_toArray,List.set_cons_zero,List.set_cons_succ]
    generalize wb.setCell ⟨p,0,none⟩ (.slice ad3 n3 cap3)=W3 at*;by_cases hp0:px=0
    ·have b2:((px:Int) !=0)=false:=by subst hp0;rfl
     have HP0:=Lib.hid (hpx.trans hp0);clear hp0;go_wp2_with fail;go_ret2;obtain⟨k1,k2⟩:=HQ.out.stop H00.out HP0.out;exact⟨1,l.erase x,R,_,rfl,HI3.out,HQ.out.rem H00.out,by rw[List.length_erase_of_mem HQ.out.ix,HLN.out];omega,k1,k2,HNx.out⟩
    ·have b2:((px:Int) !=0)=true:=by rw[bne_iff_ne];omega
     have hih:=IH.out W3 (.slice ad3 n3 cap3) (l.erase x) R px (by rw[List.length_erase_of_mem HQ.out.ix,HLN.out];omega) (by omega) HI3.out (by rw[←hpx];exact HQ.out.next H00.out (by rw[hpx];exact hp0));have hlen:(l.erase x).length≤100000:=by rw[List.length_erase_of_mem HQ.out.ix,HLN.out];omega
     clear hp0;go_wp2_with fail;with_reducible refine hih.mono ?_
     rintro e w4 ⟨k,l1,R1,v4,rfl,h1,h2,h3,h4,h5,h6⟩;have wk:IntKind.i64.wrap ((k:Int)+1)=((k+1:Nat):Int):=IntWalk.i64_in _ (by omega);have HX:=Lib.hid (show LetX p (.slice (some ⟨g,0,none⟩) l.length cap) _ l par own lb (.returned (.tuple #[.int .i64 (k+1:Nat),.int .i64 0])) w4 from⟨k+1,l1,R1,v4,rfl,h1,(HQ.out.rem H00.out).trans h2,by rw[List.length_erase_of_mem HQ.out.ix]at h3;have:=List.length_pos_of_mem HQ.out.ix;omega,h4,h5,HNx.out.trans h6⟩);clear hih h1 h2 h3 h4 h5 h6;go_wp2_with fail;go_ret2;exact HX.out
  ·have b1:decide ((0:Int)<r)=true:=decide_eq_true (by omega)
   have b1':decide (0<r)=true:=decide_eq_true (by omega);have HR1:=Lib.hid hr1;clear hr1 hrr;go_wp2_with fail;go_ret2;obtain⟨k1,k2⟩:=HQ.out.keep HR.out HR1.out;exact⟨0,l,_,_,rfl,IsN.fr0 HI1.out ((Fr.refl [] _).alloc _),.refl l,by omega,k1,k2,(HF1.out.alloc _).mono (fun k hk=> .inl (List.mem_cons_of_mem p hk)),fun k hk=> .inl hk⟩
end Go.Proofs.YtjjkfcnlgmbbcaaGreatDoor
