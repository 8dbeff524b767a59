/- The document's nodes: Make. -/
import Derived.Test.YtjjkfcnlgmbbcaaGreatDoorX21c
namespace Go.Proofs.YtjjkfcnlgmbbcaaGreatDoor
set_option linter.unusedVariables false
set_option linter.unusedSimpArgs false
open Go.RowKit
theorem step_appKn{ops:Array Oper}{o:Oper}{a:Act}{w:World}{K:Act→World→Prop}{Q:Exit→Act→World→Prop}{E:Prop}
  (hg:o.guard=none) (s x:Operand) (ho:o.op= .call {callee:= .builtin .append,args:= #[s,x],argTypes:= #[29,29]}) (hty:o.type=29)
  (base:Nat) (v:Value) (l:List ND4) (hs:a.eval s=v) (y:ND4) (W0:World) (hW:w=W0.alloc (.cells y.cells 102)) (hown:Rkn W0 base v l) (hx:a.eval x= .slice (some ⟨W0.heap.size,0,none⟩) 1 1)
  (n:Nat) (hn:l.length=n) (hl:n≤1000000) (hbase:base≤W0.heap.size)
  (h: ∀g cap w',Rkn w' base (.slice (some ⟨g,0,none⟩) (n+1) cap) (l++ [y])→Fr (ownS v) W0 w'→(v.ownBlock=some g∨W0.heap.size≤g)→K (a.put o.dst (.slice (some ⟨g,0,none⟩) (n+1) cap)) w'):if Region.wanted o (yielded ops a.tmps)=true then Oper.wp Tryz.prog o a w K Q else E:=by
 have hw:Region.wanted o (yielded ops a.tmps)=true:=by simp[Region.wanted,hg]
 rw[if_pos hw]
 subst hW hn
 obtain⟨v',w',hrun,h2,h3,h5⟩:=run_appKn (W0.alloc (.cells y.cells 102)) base v l (hown.fr0 ((Fr.refl [] W0).alloc _)) (some ⟨W0.heap.size,0,none⟩) 1 [y] (fun _=>⟨_,0,rfl,fun j hj i hi=>by
  obtain rfl:j=0:=by simp at hj;omega
  rw[Nat.zero_mul,Nat.zero_add,Nat.zero_add,(Blk.new W0 102 y.cells).cell]
  show(#[.int .i64 (y.y:Int),.int .i64 (y.p:Int),.string (strOf y.s),.int .i64 (y.r:Int)] :Array Value)[i]?=y.cl[i]?
  rw[List.getElem?_toArray]
  rfl⟩) (by simp;omega) (by simp;omega)
 rw[show([y] :List ND4).length=1 from rfl]at hrun
 obtain⟨g,cap,rfl⟩:=ownsRow_succ (show w'.ownsRow base 102 4 v' (l.length+1) (ndL (l++ [y]))from by
  have:=h2
  unfold Rkn at this
  rwa[List.length_append]at this)
 have hK':=h g cap w' h2 (fr_grown h3) (by
  rw[World.size_alloc]at h5
  rcases h5 with h5|h5
  ·exact .inl h5.symm
  ·refine .inr ?_
   have:g=W0.heap.size+1:=Option.some.inj h5
   omega)
 unfold Oper.wp execOp
 simp only[ho,hty,resolve,invoke,builtin,Sem.run_bind,Sem.run_pure,Result.andThen_ok,List.map_toArray,List.map_cons,List.map_nil,hs,hx,hrun]
 exact hK'
def holdR(R:Nat→Nat)(a:Nat):Nat→Nat:=if a=0 then R else up R a (R a+1)
def MkX(p:Nat)(v:Value)(w:World)(l:List Nat)(par R:Nat→Nat)(lb:Nat→List Nat)(x a:Nat)(s:List Nat)(e:Ending)(w':World):Prop:=
 ∃v',e= .returned (.int .i64 0)∧IsD w' p v' (l++ [x]) (up par x a) (up R x 0) (up lb x s)∧Nx p v w v' w'
section
variable {w w' W W' : World} {p : Nat} {v v' : Value} {l : List Nat} {par R : Nat → Nat} {lb : Nat → List Nat} {x a : Nat} {s : List Nat}
theorem IsD.app (h : IsD W p v l par R lb) (hx : x ∉ l) (hr : Rkn W' (p + 1) v' (l.map (nd4 par R lb) ++ [⟨x, a, 0, s⟩])) (hf : Fr (ownS v) W W') :
    IsD (W'.setCell ⟨p, 0, none⟩ v') p v' (l ++ [x]) (up par x a) (up R x 0) (up lb x s) ∧ Fr (p :: ownS v) W (W'.setCell ⟨p, 0, none⟩ v') ∧ W'.frozen? ⟨p, 0, none⟩ = false ∧ W'.cell? ⟨p, 0, none⟩ = some v := by
  have hpn : p ∉ ownS v := fun hm => by
    have := (h.r.lt p (ownS_mem hm)).1
    omega
  have f : Fr [p] W' (W'.setCell ⟨p, 0, none⟩ v') := (Fr.refl [p] W').setCell (p := ⟨p, 0, none⟩) (.inl (by simp)) _
  have hst := h.st.fr hf hpn
  have c := hst.cell 0
  simp only [List.getElem?_toArray, List.getElem?_cons_zero] at c
  refine ⟨⟨hst.set 0 v', ?_⟩, (hf.mono (fun k hk => .inl (List.mem_cons_of_mem p hk))).step f (fun k hk => by simp at hk; subst hk; exact .inl (by simp)), hst.frozen 0, c⟩
  rw [List.map_append, List.map_cons, List.map_nil, List.map_congr_left (g := nd4 par R lb) fun y hy => by
    have hne : y ≠ x := fun e => hx (e ▸ hy)
    rw [nd4, nd4, up_ne _ _ hne, up_ne _ _ hne, up_ne _ _ hne], show nd4 (up par x a) (up R x 0) (up lb x s) x = ⟨x, a, 0, s⟩ from by rw [nd4, up_same, up_same, up_same]]
  exact hr.fr f (fun k hk e => by
    simp at hk
    subst hk
    have := (hr.lt _ e).1
    omega)
theorem xfind_no(h:IsD w p v l par R lb)(hl:l.length≤100000)(hL:∀y∈l,∀c∈lb y,c<256)(a:Nat)(s:List Nat)(hs:∀c∈s,c<256)(hs2:s.length≤1048576)(hno:∀y∈l,par y=a→lb y≠s.map lowB):Calls Tryz.prog 51 #[.pointer (some ⟨p,0,none⟩),.int .i64 a,.string (strOf s)] w fun e w'=>e= .returned (.tuple #[.int .i64 0,.bool false])∧Fr [] w w':=
 (xnfind h (by rw[List.length_map];exact hl) (fun d hd=>by
  obtain⟨y,hy,rfl⟩:=List.mem_map.1 hd;exact hL y hy) a s hs hs2).mono fun e w' ⟨hf,h2⟩=>⟨by
  rcases hf with⟨i,d,_,hd,h3,h4⟩|⟨he,_⟩
  ·obtain⟨y,hy,rfl⟩:=List.mem_map.1 (List.mem_of_getElem? hd)
   exact absurd h4 (hno y hy h3)
  ·exact he,h2⟩
set_option maxRecDepth 100000 in
set_option maxHeartbeats 4000000 in
theorem xnmake(h:IsD w p v l par R lb)(hn:l.Nodup)(hl:l.length≤1000)(hL:∀y∈l,∀c∈lb y,c<256)(hx:x∉l)(ha:a=0∨a∈l)(hR:R a≤1000000000)(hs:∀c∈s,c<256)(hk:labOk s=true)(hno:∀y∈l,par y=a→lb y≠s.map lowB):Calls Tryz.prog 140 #[.pointer (some ⟨p,0,none⟩),.int .i64 x,.int .i64 a,.string (strOf s)] w (MkX p v w l par (holdR R a) lb x a (s.map lowB)):=by
 have hk1:=(labOk_len2 hk).2;have HLb:=Lib.hid (fun V=>x2label V s hs (by omega));rw[if_pos hk]at HLb;have HLw:=Lib.hid (fun V=>x2lower V s hs (by omega));have HFd:=Lib.hid (fun W (hf:Fr [] w W)=>xfind_no (IsN.fr0 h hf) (by omega) hL a s hs (by omega) hno)
 obtain⟨ad,cap,hv⟩:∃ad cap,v= .slice ad l.length cap:=by
  obtain⟨ad,cap,e,-⟩:=IsN.row h;rw[List.length_map]at e;exact⟨ad,cap,e⟩
 subst hv;have HI:=Lib.hid h;have HX:=Lib.hid hx;have HN:=Lib.hid hn;have hp:=h.st.lt;obtain⟨n,hnl⟩:∃n,l.length=n:=⟨_,rfl⟩;have HNL:=Lib.hid hnl;have hn1:n≤1000:=by omega
 generalize hS0:strOf s=S0 at*;generalize hS1:strOf (s.map lowB)=S1 at*;have HS1:=Lib.hid hS1;have HHo:=Lib.hid (fun(h0:a≠0) W (hf:Fr [] w W)=>xnhold (IsN.fr0 h hf) hn (by omega) (ha.resolve_left h0) hR);have HAt:=Lib.hid (fun(h0:a≠0) W (hf:Fr [] w W)=>xat_yes (IsN.fr0 h hf) (by omega) (ha.resolve_left h0));clear h hn hl hL hx ha hR hs hk hno hk1 hnl hS1 hS0;go_enter Tryz.func140,Tryz.ntmps140;go_wp2_with fail;with_reducible refine(HLb.out _).mono ?_
 rintro e w1 ⟨rfl,rfl⟩;by_cases h0:a=0
 ·subst h0
  have HF0:=Lib.hid (fun W (hf:Fr [] w1 W)=>(show Calls Tryz.prog 51 #[.pointer (some ⟨p,0,none⟩),.int .i64 0,.string S0] W fun e w'=>e= .returned (.tuple #[.int .i64 0,.bool false])∧Fr [] W w' from HFd.out W hf));go_wp2_with fail;with_reducible refine(HF0.out _ (Fr.refl [] _)).mono ?_
  rintro e w2 ⟨rfl,f2⟩;have hI3:=IsN.fr0 HI.out f2;have FW:=Lib.hid (f2.nil (S:=ownS (.slice ad l.length cap)));clear HF0 f2;go_wp2_with fail;have hpW:=hI3.st.lt;have cW:=hI3.st.cell 0;simp only[List.getElem?_toArray,List.getElem?_cons_zero]at cW;rw[HNL.out]at cW;have HI3:=Lib.hid hI3;clear hI3
  go_region_law
   (first
    |(refine step_appKn rfl (.tmp 39) (.tmp 45) rfl rfl (p+1) (.slice ad n cap) _ (by simp[Act.eval,Act.put]) ⟨x,0,0,s.map lowB⟩ W4 (by rw[ND4.cells,HS1.out];rfl) HR4.out (by simp[Act.eval,Act.put]) n (by rw[List.length_map];exact HNL.out) (by omega) (by omega) ?_;intro g5 cap5 W5 hr5 hf5 ho5;obtain⟨a1,a2,a3,a4⟩:=IsD.app (a:=0) HI4.out HX.out hr5 (by rw[HNL.out];exact hf5);rw[HNL.out]at a4;have A1:=Lib.hid a1;have A2:=Lib.hid a2;have HO5:=Lib.hid (And.intro ho5 hf5.size);clear hr5 hf5 ho5 a1 a2)
    |(go_simp;with_reducible refine(HLw.out _).mono ?_;rintro e W4 ⟨rfl,f4⟩;have HI4:=Lib.hid (IsN.fr0 HI3.out ((Fr.refl [] _).drew.trans f4));have FF4:=Lib.hid ((Fr.refl [] _).drew.trans f4);have HR4:=Lib.hid (show Rkn W4 (p+1) (.slice ad n cap) _ from by rw[←HNL.out];exact HI4.out.r);have c4:=HI4.out.st.cell 0;have c5:=((HI4.out.st).fr ((Fr.refl [] W4).alloc (.cells #[.int .i64 x,.int .i64 0,.string S1,.int .i64 0] 102)) (by simp)).cell 0;simp only[List.getElem?_toArray,List.getElem?_cons_zero]at c4 c5;rw[HNL.out]at c4 c5;have hp4:=HI4.out.st.lt;clear f4))
  all_goals
   clear HLw HHo HAt HFd HLb;go_wp2_with fail;go_ret
   exact⟨_,rfl,A1.out,(FW.out.trans FF4.out.nil|>.mono (fun k hk=> .inl (List.mem_cons_of_mem p hk))).trans A2.out,fun k hk=>by
    have e5:=ownS_mem hk;injection e5 with e5;subst e5;rcases HO5.out.1 with h|h
    ·have h':(Value.slice ad l.length cap).ownBlock=some g5:=by rw[HNL.out];exact h
     exact .inl (by unfold ownS;rw[h'];simp)
    ·exact .inr (Nat.le_trans FW.out.size (Nat.le_trans FF4.out.size h))⟩
 ·have b1:((a:Int) !=0)=true:=by rw[bne_iff_ne];omega
  have hat:=HAt.out h0 _ (Fr.refl [] _);have H0:=Lib.hid h0;have b1':(a !=0)=true:=by rw[bne_iff_ne];exact h0
  go_wp2_with fail;clear h0;with_reducible refine hat.mono ?_
  rintro e w2 ⟨⟨i,rfl,hi⟩,rfl⟩;have b2:decide ((i:Int)<0)=false:=decide_eq_false (by omega);clear hi hat;go_wp2_with fail;with_reducible refine(HFd.out _ (Fr.refl [] _)).mono ?_
  rintro e w2 ⟨rfl,f2⟩;have hho:=HHo.out H0.out _ f2;have F2:=Lib.hid f2;clear f2 b2;go_wp2_with fail;with_reducible refine hho.mono ?_
  rintro e w3 ⟨rfl,hI3',f3⟩;have hI3:IsN w3 p (.slice ad l.length cap) (l.map (nd4 par (holdR R a) lb)):=by rw[holdR,if_neg H0.out];exact hI3'
  have FW:=Lib.hid (F2.out.nil.trans f3);clear hho hI3' f3;go_wp2_with fail;have hpW:=hI3.st.lt;have cW:=hI3.st.cell 0;simp only[List.getElem?_toArray,List.getElem?_cons_zero]at cW;rw[HNL.out]at cW;have HI3:=Lib.hid hI3;clear hI3
  go_region_law
   (first
    |(refine step_appKn rfl (.tmp 39) (.tmp 45) rfl rfl (p+1) (.slice ad n cap) _ (by simp[Act.eval,Act.put]) ⟨x,a,0,s.map lowB⟩ W4 (by rw[ND4.cells,HS1.out];rfl) HR4.out (by simp[Act.eval,Act.put]) n (by rw[List.length_map];exact HNL.out) (by omega) (by omega) ?_;intro g5 cap5 W5 hr5 hf5 ho5;obtain⟨a1,a2,a3,a4⟩:=IsD.app HI4.out HX.out hr5 (by rw[HNL.out];exact hf5);rw[HNL.out]at a4;have A1:=Lib.hid a1;have A2:=Lib.hid a2;have HO5:=Lib.hid (And.intro ho5 hf5.size);clear hr5 hf5 ho5 a1 a2)
    |(go_simp;with_reducible refine(HLw.out _).mono ?_;rintro e W4 ⟨rfl,f4⟩;have HI4:=Lib.hid (IsN.fr0 HI3.out ((Fr.refl [] _).drew.trans f4));have FF4:=Lib.hid ((Fr.refl [] _).drew.trans f4);have HR4:=Lib.hid (show Rkn W4 (p+1) (.slice ad n cap) _ from by rw[←HNL.out];exact HI4.out.r);have c4:=HI4.out.st.cell 0;have c5:=((HI4.out.st).fr ((Fr.refl [] W4).alloc (.cells #[.int .i64 x,.int .i64 a,.string S1,.int .i64 0] 102)) (by simp)).cell 0;simp only[List.getElem?_toArray,List.getElem?_cons_zero]at c4 c5;rw[HNL.out]at c4 c5;have hp4:=HI4.out.st.lt;clear f4))
  all_goals
   clear HLw HHo HAt HFd HLb;go_wp2_with fail;go_ret
   exact⟨_,rfl,A1.out,(FW.out.trans FF4.out.nil|>.mono (fun k hk=> .inl (List.mem_cons_of_mem p hk))).trans A2.out,fun k hk=>by
    have e5:=ownS_mem hk;injection e5 with e5;subst e5;rcases HO5.out.1 with h|h
    ·have h':(Value.slice ad l.length cap).ownBlock=some g5:=by rw[HNL.out];exact h
     exact .inl (by unfold ownS;rw[h'];simp)
    ·exact .inr (Nat.le_trans FW.out.size (Nat.le_trans FF4.out.size h))⟩
end
end Go.Proofs.YtjjkfcnlgmbbcaaGreatDoor
