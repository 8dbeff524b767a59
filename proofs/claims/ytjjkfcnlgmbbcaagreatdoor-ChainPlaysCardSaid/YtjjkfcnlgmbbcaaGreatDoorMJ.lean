/- Several texts in one. -/
import Derived.Test.YtjjkfcnlgmbbcaaGreatDoorMI
import Derived.Test.YtjjkfcnlgmbbcaaGreatDoorMF
import Derived.Test.YtjjkfcnlgmbbcaaGreatDoorMO
import Derived.Test.YtjjkfcnlgmbbcaaGreatDoorGD
import Derived.Lib.MinMax
import Derived.BigQuiet
namespace Go.Proofs.YtjjkfcnlgmbbcaaGreatDoor
set_option linter.unusedVariables false
set_option linter.unusedSimpArgs false
open Go.RowKit
set_option maxRecDepth 100000
set_option maxHeartbeats 8000000
theorem sfx_cons{α:Type}{N:List α}{k:Nat}(h:k<N.length):∃a,sfx N (k+1)=a::sfx N k:=⟨_,sfx_succ h⟩
section
variable {w0 w W W' : World} {q : MH} {u0 : TM} {l : List Nat} {par refs own : Nat → Nat} {B : Nat → List Nat} {nm : Nat → List (List Nat)} {fr x p a c : Nat} {b : List Nat} {N : List (List Nat)} {k j at_ : Nat}
theorem CP.congr{par' own':Nat→Nat}{nm':Nat→List (List Nat)}(h:CP w0 q u0 l par own nm fr W)(hp:∀y∈l,par' y=par y)(ho:∀y,own' y=own y)(hn:∀y,y=0∨y∈l→nm' y=nm y):CP w0 q u0 l par' own' nm' fr W:=by
 obtain rfl:own'=own:=funext ho;obtain⟨refs,B,h1,h2,h3,h4,h5⟩:=h;have hup:=fun y hy=>h1.up (x:=y) hy;obtain⟨S,L,u,E,B0,g,ha,hrt,r,hf⟩:=h1;refine⟨refs,B,⟨S,L,u,E,B0,g,ha,hrt,fun y hy=>⟨by rw[hp y hy];exact(r y hy).1,(r y hy).2⟩,hf⟩,⟨by rw[hn 0 (.inl rfl)];exact h2.z,fun y hy=> ?_⟩,fun y hy=> ?_,fun y hy h0=> ?_,h5⟩
 ·rw[hn y (.inr hy),hp y hy,hn _ (hup y hy)]
  exact h2.s y hy
 ·rw[bel_congr hp]
  exact h3 y hy
 ·obtain⟨z,hz,e⟩:=h4 y hy h0
  exact⟨z,hz,by rw[hp z hz];exact e⟩
structure GwI(w0:World)(q:MH)(u0:TM)(l:List Nat)(par own:Nat→Nat)(nm:Nat→List (List Nat))(N:List (List Nat))(k j at_:Nat)(lj:List Nat)(parj:Nat→Nat)(nmj:Nat→List (List Nat))(frj:Nat)(W:World):Prop where
 cp:CP w0 q u0 lj parj (ownP own at_) nmj frj W
 pl:at_=0∨at_∈lj
 ew:nmj at_=sfx N (k+j)
 rem:Rem own parj lj l
 pa: ∀y∈l,parj y=par y
 na: ∀y,y=0∨y∈l→nmj y=nm y
 len:lj.length=l.length+j
 sf: ∀y∈lj,y∉l→ ∃s,N=s++nmj y
 no:k+j<N.length→ ∀y∈lj,nmj y≠sfx N (k+j+1)
theorem GwI.start(h:CP w0 q u0 l par (ownP own at_) nm fr W)(g:Kn l nm N at_ k):GwI w0 q u0 l par own nm N k 0 at_ l par nm fr W:=
 ⟨h,g.pl,g.ew,.refl l,fun _ _=>rfl,fun _ _=>rfl,rfl,fun y hy hn=>absurd hy hn,g.no⟩
theorem ownP_at(own:Nat→Nat){x:Nat}(hx:x≠0):ownP own x x=own x+1:=by unfold ownP;rw[if_neg hx,up_same]
theorem ownP_ne(own:Nat→Nat){x y:Nat}(h:y≠x):ownP own x y=own y:=by
 unfold ownP;split
 ·rfl
 ·rw[up_ne _ _ h]
theorem ownP_le(own:Nat→Nat)(x y:Nat):ownP own x y≤own y+1:=by
 by_cases e:y=x
 ·subst e
  by_cases h:y=0
  ·unfold ownP;rw[if_pos h];omega
  ·rw[ownP_at _ h];exact Nat.le_refl _
 ·rw[ownP_ne _ e];omega
theorem ownP_ge(own:Nat→Nat)(x y:Nat):own y≤ownP own x y:=by
 by_cases e:y=x
 ·subst e
  by_cases h:y=0
  ·unfold ownP;rw[if_pos h];exact Nat.le_refl _
  ·rw[ownP_at _ h];omega
 ·rw[ownP_ne _ e];exact Nat.le_refl _
variable {lj : List Nat} {parj : Nat → Nat} {nmj : Nat → List (List Nat)} {frj : Nat}
theorem GwI.sub(g:GwI w0 q u0 l par own nm N k j at_ lj parj nmj frj W):∀y∈l,y∈lj:=fun y hy=>g.rem.sub.subset hy
theorem GwI.next(g:GwI w0 q u0 l par own nm N k j at_ lj parj nmj frj W){s:List Nat}{fr1:Nat}(hk:k+j<N.length)(hs:sfx N (k+j+1)=s::sfx N (k+j))(hx:x∉lj)(hx0:x≠0)(hp:at_≠x)(h0:own x=0)
  (h:CP w0 q u0 (lj++ [x]) (up parj x at_) (ownG (ownP own at_) x at_) (up nmj x (s::nmj at_)) fr1 W'):GwI w0 q u0 l par own nm N k (j+1) x (lj++ [x]) (up parj x at_) (up nmj x (s::nmj at_)) fr1 W':=by
 have hxm:x∈lj++ [x] :=List.mem_append_right _ (List.mem_singleton.2 rfl);have hxl:x∉l:=fun hm=>hx (g.sub x hm);have hnx:up nmj x (s::nmj at_) x=sfx N (k+j+1):=by rw[up_same,g.ew,hs]
 have hpy:∀y∈lj,parj y≠x:=fun y hy e=>by
  rcases g.cp.up hy with k|k
  ·exact hx0 (e.symm.trans k)
  ·exact hx (by rw[←e];exact k)
 have hcp:CP w0 q u0 (lj++ [x]) (up parj x at_) (ownP own x) (up nmj x (s::nmj at_)) fr1 W':=h.congr (fun _ _=>rfl) (fun y=> ?_) (fun _ _=>rfl)
 ·refine⟨hcp,.inr hxm,hnx,?_,fun y hy=> ?_,fun y hy=> ?_,by rw[List.length_append,g.len];rfl,fun y hy hyl=> ?_,fun hlt y hy e=> ?_⟩
  ·
   have hr:Rem own (up parj x at_) (lj++ [x]) ((lj++ [x]).erase x):= .step (.refl _) hxm h0 (fun z hz=>by
    rcases List.mem_append.1 hz with k|k
    ·rw[up_ne _ _ (fun e=>hx (by rw[←e];exact k))];exact hpy z k
    ·rw[List.mem_singleton]at k
     subst k;rw[up_same];exact hp)
   have he:(lj++ [x]).erase x=lj:=by rw[List.erase_append_right _ hx];simp
   rw[he]at hr;refine hr.trans ?_
   have hcg:∀(m:List Nat),Rem own parj lj m→Rem own (up parj x at_) lj m:=fun m hm=>by
    have:=Rem.congr (own:=own) (par:=up parj x at_) (par':=parj) hm (fun z hz=>(up_ne _ _ (fun e=>hx (by rw[←e];exact hz))).symm);exact this
   exact hcg _ g.rem
  ·rw[up_ne _ _ (fun e=>hxl (by rw[←e];exact hy))];exact g.pa y hy
  ·have hyx:y≠x:=fun e=>by
    rcases hy with k|k
    ·exact hx0 (e.symm.trans k)
    ·exact hxl (by rw[←e];exact k)
   rw[up_ne _ _ hyx];exact g.na y hy
  ·rcases List.mem_append.1 hy with m|m
   ·rw[up_ne _ _ (fun e=>hx (by rw[←e];exact m))]
    exact g.sf y m hyl
   ·rw[List.mem_singleton]at m
    subst m;rw[hnx];obtain⟨t,ht⟩:=sfx_pre (N:=N) (show k+j+1≤N.length from hk) (Nat.le_refl _);rw[sfx_all]at ht;exact⟨t,ht⟩
  ·rcases List.mem_append.1 hy with m|m
   ·rw[up_ne _ _ (fun e=>hx (by rw[←e];exact m))]at e
    obtain⟨a,ea⟩:=sfx_cons hlt;rw[show k+(j+1)+1=k+j+1+1 by omega,show k+(j+1)=k+j+1 by omega]at*;obtain⟨z,hz,ez⟩:=g.cp.suf (.inr m) (s:= [a]) (t:=sfx N (k+j+1)) (by rw[e,ea];rfl)
    have hzl:z∈lj:=hz.resolve_left (fun e0=>by
     rw[e0,g.cp.z,hs]at ez;cases ez)
    exact g.no hk z hzl ez
   ·rw[List.mem_singleton]at m
    subst m;rw[hnx]at e;have:=congrArg List.length e;rw[sfx_len (by omega),sfx_len (by omega)]at this;omega
 ·
  by_cases ha:at_=0
  ·subst ha
   unfold ownG;rw[if_pos rfl];by_cases e:y=x
   ·subst e
    rw[up_same,ownP_at _ hx0,h0]
   ·rw[up_ne _ _ e,ownP_ne _ e]
    unfold ownP;rw[if_pos rfl]
  ·unfold ownG
   rw[if_neg ha];by_cases e:y=x
   ·subst e
    rw[up_ne _ _ (fun e=>hp e.symm),up_same,ownP_at _ hx0,h0]
   ·by_cases e2:y=at_
    ·subst e2
     rw[up_same,ownP_at _ ha,ownP_ne _ e];omega
    ·rw[up_ne _ _ e2,up_ne _ _ e,ownP_ne _ e,ownP_ne _ e2]
theorem GwI.undo(g:GwI w0 q u0 l par own nm N k j at_ lj parj nmj frj W)(hF:Firm own par l)(hat:at_≠0){l1:List Nat}{fr1:Nat}(h1:CP w0 q u0 l1 parj (up (ownP own at_) at_ (own at_)) nmj fr1 W')(h2:Rem (up (ownP own at_) at_ (own at_)) parj lj l1):CP w0 q u0 l par own nm fr1 W':=by
 have eo:up (ownP own at_) at_ (own at_)=own:=funext fun y=>by
  by_cases e:y=at_
  ·rw[e,up_same]
  ·rw[up_ne _ _ e,ownP_ne _ e]
 rw[eo]at h1 h2
 have hF':Firm own parj l:=fun y hy h0=>by
  obtain⟨z,hz,e⟩:=hF y hy h0;exact⟨z,hz,by rw[g.pa z hz];exact e⟩
 have hl:l1=l:=h2.uniq g.rem h1.firm hF' g.cp.nd;subst hl;exact h1.congr (fun y hy=>(g.pa y hy).symm) (fun _=>rfl) (fun y hy=>(g.na y hy).symm)
end
theorem fresh22(w:World)(hM:TabM w)(hT:Tabs w):Calls Tryz.prog 10 #[] w fun e w'=>∃(q:MH) (u0:TM),e= .returned (.pointer (some ⟨q.m,0,none⟩))∧NP w q u0 [] (fun _=>0) (fun _=>0) (fun _=> []) 7 w'∧P0 u0∧(∀k∈q.blocks,w.heap.size≤k)∧Fr [] w w':=by
 have hn:=(show Calls Tryz.prog 44 #[.agg #[.int .i64 7,.int .i64 224]] w (NewH w 7 224)from hnew w hM hT 7 224 cfg7);go_enter Tryz.func10,Tryz.ntmps10;go_wp2_with fail;with_reducible refine hn.mono ?_
 rintro e w1 ⟨q,rfl,h1,hq,f1⟩;have HB:=Lib.hid (m_begin20 h1 cfg7);have HQ:=Lib.hid hq;have F1:=Lib.hid f1;clear h1 hq f1 hn;go_wp2_with fail;with_reducible refine HB.out.mono ?_
 rintro e w2 ⟨rfl,f2,u,h2,s2,a2,b2,c2,d2⟩;have HG:=Lib.hid (ibegin h2 d2);have OK:=Lib.hid h2.m.ok;have S2:=Lib.hid (And.intro s2 (And.intro a2 (And.intro b2 (And.intro c2 d2))));have F2:=Lib.hid (F1.out.step f2 (fun k hk=> .inr (HQ.out k hk)));clear h2 HB s2 a2 b2 c2 d2 f2;go_wp2_with fail;with_reducible refine HG.out.mono ?_
 rintro e w3 ⟨rfl,h3,f3⟩;have HBe:=Lib.hid (nbegin h3);have F3:=Lib.hid (F2.out.step f3 (fun k hk=> .inr (HQ.out k hk)));clear h3 HG f3;go_wp2_with fail;with_reducible refine HBe.out.mono ?_
 rintro e w4 ⟨rfl,h4,f4⟩;have H4:=Lib.hid h4;have F4:=Lib.hid (F3.out.step f4 (fun k hk=> .inr (HQ.out k hk)));clear h4 HBe f4;go_wp2_with fail;go_ret;obtain⟨s2,a2,b2,c2,d2⟩:=S2.out
 have hsl:SlI (u.setRt 17 0) SS.zero:=by
  have ho:=setRt_out OK.out 17 0 (by decide);refine⟨s2.ls.same' rfl (fun c hc=> ?_) (fun _ _ _=>rfl),fun j hj=>(s2.each j hj).other OK.out hj rfl rfl (fun _ _=>rfl) (ho (sla u j+1024) 0) (.inl (Nat.le_refl _))⟩;show(if 3+c=17 then 0 else u.rt (3+c))=u.rt (3+c);rw[if_neg (by omega)]
 have hwb:WB w q SS.zero (fun _=>False) (u.setRt 17 0) (fun _=>HB.zero) (fun _=> []) w4:=by
  refine⟨H4.out,hsl,⟨fun x hx=>hx.elim,fun i _=> .inl (by show u.sl i=0;rw[d2]),?_,?_⟩,⟨⟨by decide,fun y=> ?_,fun s _ h0=>absurd (by show u.sl _=0;rw[d2]) h0⟩,⟨0,by decide,.inl (by show u.sl 0=0;rw[d2])⟩,fun s s' _ _ h0=>absurd (by show u.sl s=0;rw[d2]) h0⟩,fun x hx=>hx.elim,a2,b2,c2,F4.out,HQ.out,fun i _ h=>absurd rfl h⟩
  ·show 0<u.s;omega
  ·show u.s≤32768;omega
  ·unfold hmE;show _ %u.s<224;rw[b2];exact Nat.mod_lt _ (by decide)
 have hni:NI w q SS.zero (fun _=>False) [] (u.setRt 17 0) (fun _=>HB.zero) (fun _=> []) w4:=by
  refine⟨hwb,List.nodup_nil,fun x=>⟨fun h=>(nomatch h),fun h=>h.1.elim⟩,(show up u.rt 17 0 17=0 from up_same _ _ _),fun x hx=>⟨fun⟨s,hs,e⟩=>hx (by rw[←e];show u.sl s=0;rw[d2]),fun h=>h.elim⟩,?_,?_,?_,?_⟩;all_goals(intro x hx;exact(nomatch hx))
 have hal:AllN SS.zero [] :=fun y m h=>by
  obtain⟨i,hi,hm,_⟩:=h;exact(nomatch hm)
 exact⟨q,u.setRt 17 0,rfl,⟨SS.zero,fun _=>False,u.setRt 17 0,fun _=>HB.zero,fun _=> [],hni,hal,RtQ.refl _,fun y hy=>(nomatch hy),rfl⟩,⟨H4.out.m.ok,a2,b2,hsl,d2,c2,(show up u.rt 17 0 17=0 from up_same _ _ _)⟩,HQ.out,F4.out⟩
theorem wpList_appS{w:World}{ops:Array Oper}{rest:List Oper}{o:Oper}{a:Act}{Q:Exit→Act→World→Prop}(hgd:o.guard=none)(s x:Operand)(ho:o.op= .call {callee:= .builtin .append,args:= #[s,x],argTypes:= #[33,33]})(hty:o.type=33)
  (base:Nat) (v:Value) (l:List (List Nat)) (hs:a.eval s=v) (y:List Nat) (W0:World) (hW:w=W0.alloc (.cells #[.string (strOf y)] 9)) (hown:W0.ownsRow base 9 1 v l.length (strC l)) (hx:a.eval x= .slice (some ⟨W0.heap.size,0,none⟩) 1 1)
  (hl:l.length≤1048576) (hbase:base≤W0.heap.size)
  (h: ∀g cap w',w'.ownsRow base 9 1 (.slice (some ⟨g,0,none⟩) (l.length+1) cap) (l++ [y]).length (strC (l++ [y]))→Fr (ownS v) W0 w'→(v.ownBlock=some g∨g=W0.heap.size+1)→wpList Tryz.prog ops Q rest (a.put o.dst (.slice (some ⟨g,0,none⟩) (l.length+1) cap)) w'):wpList Tryz.prog ops Q (o::rest) a w:=by
 subst hW
 obtain⟨i0,hi,hz0,hz1,hz2⟩:=info_parts info_str
 refine wpList_plain hgd fun K hK=> ?_
 obtain⟨v',w',hrun,h2,h3,_,h5⟩:=run_append_own_at (P:=Tryz.prog) (W0.alloc (.cells #[.string (strOf y)] 9)) base 33 33 9 i0 (.string ⟨#[]⟩) 1 16 Tryz.underlying33 hi hz0 hz1 hz2 rfl (by decide) v l.length (strC l) (hown.alloc _) ⟨W0.heap.size,0,none⟩ 1 1 [.string (strOf y)] (by simp) (cells_new1 _ _ _) (by simp[Value.oneCell']) (by unfold maxLen;omega) (by omega) (by simp;omega)
 have h2':w'.ownsRow base 9 1 v' (l++ [y]).length (strC (l++ [y])):=by rw[List.length_append,List.length_singleton,show strC (l++ [y])=strC l++ [.string (strOf y)]by simp[strC]];exact h2
 obtain⟨g,cap,rfl⟩:=ownsRow_succ h2
 have hK':=hK _ _ (h g cap w' h2' (fr_grown h3) (by
  rw[World.size_alloc]at h5
  rcases h5 with h5|h5
  ·exact .inl h5.symm
  ·exact .inr (Option.some.inj h5)))
 unfold Oper.wp execOp
 simp only[ho,hty,resolve,invoke,builtin,Sem.run_bind,Sem.run_pure,Result.andThen_ok,List.map_toArray,List.map_cons,List.map_nil,hs,hx,hrun]
 exact hK'
section
variable {w0 w W W' : World} {q : MH} {u0 : TM} {l : List Nat} {par refs own : Nat → Nat} {nm : Nat → List (List Nat)} {fr x : Nat}
def Few4(L:List (List Nat))(most bytes:Nat)(w:World)(e:Ending)(w':World):Prop:= ∃b,e= .returned (.bool b)∧Fr [] w w'∧(b=true→L.length≤most∧wireN L≤1+L.length+bytes)
theorem few4(w:World)(ad:Option Addr)(cap:Nat)(L:List (List Nat))(h:StrA w ad L)(most bytes:Nat)(hm:most≤100000)(hb:bytes≤90000):Calls Tryz.prog 38 #[.slice ad L.length cap,.int .i64 most,.int .i64 bytes] w (Few4 L most bytes w):=by
 have HA:=Lib.hid h;have hle:=h.len;obtain⟨n,hn⟩:∃n,L.length=n:=⟨_,rfl⟩;have HX:=Lib.hid (fun k s (hs:L[k]?=some s)=>fold_take L k s 1 hs);have HZ:=Lib.hid (show(L.take 0).foldl (fun n s=>n+(s.length+1)) 1=1 from rfl);have HF:=Lib.hid (show(L.take n).foldl (fun n s=>n+(s.length+1)) 1=wireN L from by rw[←hn,List.take_length];rfl);obtain⟨M,hM⟩:∃M:Nat→Nat,(fun k=>(L.take k).foldl (fun n s=>n+(s.length+1)) 1)=M:=⟨_,rfl⟩;have hM':∀k,(L.take k).foldl (fun n s=>n+(s.length+1)) 1=M k:=fun k=>by rw[←hM]
 simp only[hM']at HX HZ HF;rw[hn];rw[hn]at hle;have HN:=Lib.hid hn;clear hn h hM hM';go_enter Tryz.func38,Tryz.ntmps38;go_wp2_with fail;go_loopg [7,8] (n+1) (fun gk v7 v8 W=>∃(s i:Nat),v7= .int .i64 s∧v8= .int .i64 i∧(i+gk=n+1∧i≤n)∧s≤bytes+99999∧Hid (s≤bytes→M i=1+i+s)∧w=W);case atStart=>exact⟨0,0,rfl,rfl,by omega,by omega,Lib.hid (fun _=>HZ.out),rfl⟩
 case round=>
  obtain⟨s,i,rfl,rfl,hi,hs,HS,rfl⟩:=hrel;obtain⟨b9,h9⟩:∃b9,decide ((n:Int)≤most)=b9:=⟨_,rfl⟩;have h9':decide (n≤most)=b9:=by rw[←h9];exact decide_eq_decide.2 (by omega)
  by_cases hsb:s≤bytes
  ·have b7:decide ((s:Int)≤bytes)=true:=by simp;omega
   have b7':decide (s≤bytes)=true:=by simp;omega
   by_cases hlt:i<n
   ·have b6:decide ((i:Int)<n)=true:=by simp;omega
    have b6':decide (i<n)=true:=by simp;omega
    have hL:i<L.length:=by rw[HN.out];exact hlt
    obtain⟨g,o,rfl,hc,hg⟩:=HA.out.at_ i hL;have hgd:L[i]?=some L[i] :=List.getElem?_eq_getElem hL;rw[hgd]at hc;simp only[Option.getD_some]at hc;have hx:=HX.out i _ hgd;generalize L[i]'hL=t at*;have hsz:=strOf_sz t;obtain⟨k,hk⟩:∃k,t.length=k:=⟨_,rfl⟩;rw[hk]at hx hsz;have HXk:=Lib.hid hx;obtain⟨mn,hmn⟩:∃mn:Nat,min (k:Int) 99999=mn:=⟨min k 99999,by omega⟩;have hmn2:mn≤99999∧(mn≤90000→mn=k):=by omega
    have i0:(0:Int)≤i:=by omega
    have i1:(i:Int)<n:=by omega
    have ws:IntKind.i64.wrap ((s:Int)+mn)=((s+mn:Nat):Int):=by rw[IntWalk.i64_in _ (by omega)];push_cast;rfl
    have wi:IntKind.i64.wrap ((i:Int)+1)=(i:Int)+1:=IntWalk.i64_in _ (by omega);generalize strOf t=S at*;clear hk hgd hL hx;go_wp2_with fail;go_roundg (gk-1);case measure=>omega
    case rel=>exact⟨s+mn,i+1,rfl,by go_num,by omega,by omega,Lib.hid (fun hb2=>by
     have h1:=HS.out hsb;have h2:=hmn2.2 (by omega);rw[HXk.out,h1,h2];omega),rfl⟩
   ·obtain rfl:i=n:=by omega
    have b6:decide ((i:Int)<i)=false:=by simp
    have b6':decide (i<i)=false:=by simp
    have HR:=Lib.hid (show b9=true→L.length≤most∧wireN L≤1+L.length+bytes from fun h=>by
     rw[h]at h9';have h1:=HS.out hsb;rw[HF.out]at h1;exact⟨by rw[HN.out];exact of_decide_eq_true h9',by rw[HN.out];omega⟩)
    cases b9 with
    |true=>
     go_wp2_with fail;go_ret;exact⟨_,rfl,Fr.refl _ _,fun _=>by first|exact HR.out|exact HR.out trivial|exact HR.out rfl⟩
    |false=>
     go_wp2_with fail;go_ret;exact⟨_,rfl,Fr.refl _ _,fun h=>by cases h⟩
  ·have b7:decide ((s:Int)≤bytes)=false:=by simp;omega
   have b7':decide (s≤bytes)=false:=by simp;omega
   obtain⟨b6,h6⟩:∃b6,decide ((i:Int)<n)=b6:=⟨_,rfl⟩;have h6':decide (i<n)=b6:=by rw[←h6];exact decide_eq_decide.2 (by omega)
   cases b6<;>cases b9<;>(go_wp2_with fail;go_ret;exact⟨_,rfl,Fr.refl _ _,fun h=>by cases h⟩)
theorem same4(w:World)(a1 a2:Option Addr)(c1 c2:Nat)(L:List (List Nat))(h1:StrA w a1 L)(h2:StrA w a2 L):Calls Tryz.prog 42 #[.slice a1 L.length c1,.slice a2 L.length c2] w fun e w'=>e= .returned (.bool true)∧Fr [] w w':=by
 have HA:=Lib.hid (And.intro h1 h2);have hle:=h1.len;obtain⟨n,hn⟩:∃n,L.length=n:=⟨_,rfl⟩;rw[hn];rw[hn]at hle;have HN:=Lib.hid hn;have b0:((n:Int) !=n)=false:=by simp
 have b0':(n !=n)=false:=by simp
 clear hn h1 h2;go_enter Tryz.func42,Tryz.ntmps42;go_wp2_with fail;go_loopg [5] (n+1) (fun gk v5 W=>∃i:Nat,v5= .int .i64 i∧(i+gk=n+1∧i≤n)∧Hid (Fr [] w W));case atStart=>exact⟨0,rfl,by omega,Lib.hid (Fr.refl [] w)⟩
 case round=>
  obtain⟨i,rfl,hi,F3⟩:=hrel;by_cases hlt:i<n
  ·have b6:decide ((i:Int)<n)=true:=by simp;omega
   have b6':decide (i<n)=true:=by simp;omega
   have hL:i<L.length:=by rw[HN.out];exact hlt
   obtain⟨g,o,rfl,hc,hg⟩:=HA.out.1.at_ i hL;obtain⟨g',o',rfl,hc',hg'⟩:=HA.out.2.at_ i hL;have k1:=(F3.out.cell (p:=⟨g,o+i,none⟩) hg (by simp)).trans hc;have k2:=(F3.out.cell (p:=⟨g',o'+i,none⟩) hg' (by simp)).trans hc';have i0:(0:Int)≤i:=by omega
   have i1:(i:Int)<n:=by omega
   have wi:IntKind.i64.wrap ((i:Int)+1)=(i:Int)+1:=IntWalk.i64_in _ (by omega);generalize strOf (L[i]?.getD [])=S at*;clear hc hc' hL;go_wp2_with fail;go_quiet (fail);go_wp2_with fail;go_roundg (gk-1);case measure=>omega
   case rel=>exact⟨i+1,by go_num,by omega,Lib.hid (F3.out.drewN _)⟩
  ·obtain rfl:i=n:=by omega
   have b6:decide ((i:Int)<i)=false:=by simp
   have b6':decide (i<i)=false:=by simp
   go_wp2_with fail;go_ret;exact⟨rfl,F3.out⟩
theorem join1(w:World)(ad:Option Addr)(cap:Nat)(s:List Nat)(h:StrA w ad [s]):Calls Tryz.prog 195 #[.slice ad 1 cap,.string ⟨#[46]⟩] w fun e w'=>e= .returned (.string (strOf s))∧w'=w:=by
 obtain⟨g,o,rfl,hc,hg⟩:=h.at_ 0 (by simp);simp at hc;generalize strOf s=S at*;clear h;go_enter Tryz.func195,Tryz.ntmps195;go_wp2_with fail;go_ret;exact⟨rfl,rfl⟩
theorem ntext1(w:World)(ad:Option Addr)(cap:Nat)(s:List Nat)(h:StrA w ad [s])(hk:labOk s=true):Calls Tryz.prog 99 #[.slice ad 1 cap] w fun e w'=>e= .returned (.tuple #[.string (strOf s),.int .i64 0])∧Fr [] w w':=by
 have h63:=(labOk_len hk).2;have hwi:wireN [s] =s.length+2:=by unfold wireN;simp;omega
 have hck:chkN [s] =0:=by
  unfold chkN;rw[if_pos (by simp[hk]),hwi,if_neg (by omega)]
 have HC:=(show Calls Tryz.prog 131 #[.slice ad 1 cap] w fun e w'=>e= .returned (.int .i64 (chkN [s]))∧Fr [] w w' from ncheck w ad cap [s] h (by rw[hwi];omega));rw[hck]at HC;have HJ:=Lib.hid (fun V (hV:Fr [] w V)=>join1 V ad cap s (h.fr hV));generalize strOf s=S at*;clear h hk h63 hwi hck;go_enter Tryz.func99,Tryz.ntmps99;go_wp2_with fail;with_reducible refine HC.mono ?_
 rintro e w1 ⟨rfl,f1⟩;have F1:=Lib.hid f1;clear f1 HC;go_wp2_with fail;with_reducible refine(HJ.out _ F1.out).mono ?_
 rintro e w2 ⟨rfl,he⟩;rw[he];go_wp2_with fail;go_ret2;exact⟨rfl,F1.out⟩
theorem ctext1(h:CP w0 q u0 l par own nm fr w)(hx:x∈l)(s:List Nat)(hs:nm x= [s]):Calls Tryz.prog 41 #[.pointer (some ⟨q.m,0,none⟩),.int .i64 x] w fun e w'=>e= .returned (.tuple #[.string (strOf s),.int .i64 0])∧CP w0 q u0 l par own nm fr w'∧Fr q.blocks w w':=by
 have hN:=cname h (.inr hx);have hk:=(h.lab hx s (by rw[hs];simp)).1;rw[hs]at hN;have HN:=Lib.hid (show Calls Tryz.prog 40 #[.pointer (some ⟨q.m,0,none⟩),.int .i64 x] w fun e w'=>∃ad,e= .returned (.tuple #[.slice ad 1 1,.int .i64 0])∧StrA w' ad [s]∧(∀g o,ad=some ⟨g,o,none⟩→w.heap.size≤g)∧CP w0 q u0 l par own nm fr w'∧Fr q.blocks w w' from hN);have HT:=Lib.hid (fun V ad (hA:StrA V ad [s])=>ntext1 V ad 1 s hA hk);generalize strOf s=S at*;clear h hx hN hk hs;go_enter Tryz.func41,Tryz.ntmps41;go_wp2_with fail;with_reducible refine HN.out.mono ?_
 rintro e w1 ⟨ad,rfl,h1,-,h2,h3⟩;have H2:=Lib.hid (And.intro h2 h3);have hT:=HT.out _ _ h1;clear h1 h2 h3 HN HT;go_wp2_with fail;with_reducible refine hT.mono ?_
 rintro e w2 ⟨rfl,f2⟩;have F2:=Lib.hid f2;clear f2 hT;go_wp2_with fail;go_ret2;exact⟨rfl,H2.out.1.fr0 F2.out,H2.out.2.trans F2.out.nil⟩
end
def Few22(l:List A22)(w:World)(e:Ending)(w':World):Prop:= ∃b,e= .returned (.bool b)∧Fr [] w w'∧(b=true→l.length≤60∧ ∀d∈l,d.l.length≤130∧wireN d.l≤1131)
theorem few22(w:World)(z:Int)(ad:Option Addr)(cap:Nat)(l:List A22)(h:ActA22 w ad cap l):Calls Tryz.prog 8 #[.int .i64 z,.slice ad l.length cap] w (Few22 l w):=by
 have HA:=Lib.hid h;have hle:=h.len;obtain⟨n,hn⟩:∃n,l.length=n:=⟨_,rfl⟩;rw[hn];rw[hn]at hle;have HN:=Lib.hid hn;clear hn h;go_enter Tryz.func8,Tryz.ntmps8;go_wp2_with fail;go_loopg [5,6] (n+1) (fun gk v5 v6 W=>∃(t:Int) (i:Nat),v5= .int .i64 t∧v6= .int .i64 i∧(i+gk=n+1∧i≤n∧i≤100)∧(4000-1200*(i:Int)≤t∧t≤4000)∧Hid (∀d∈l.take i,d.l.length≤130∧wireN d.l≤1131)∧Hid (Fr [] w W));case atStart=>exact⟨4000,0,rfl,rfl,by omega,by omega,Lib.hid (fun d hd=>by simp at hd),Lib.hid (Fr.refl [] w)⟩
 case round=>
  obtain⟨t,i,rfl,rfl,hi,ht,HD,F3⟩:=hrel;obtain⟨G,hG⟩:∃G,G=gk:=⟨_,rfl⟩;subst hG;by_cases hlt:i<n∧i<100
  ·have b6:decide ((i:Int)<n)=true:=by simp;omega
   have b6':decide (i<n)=true:=by simp;omega
   have b7:decide ((i:Int)<100)=true:=by simp;omega
   have b7':decide (i<100)=true:=by simp;omega
   have hL:i<l.length:=by rw[HN.out];exact hlt.1
   obtain⟨B,off,rfl,hBl,hr⟩:=HA.out.row (by omega);have hrj:=hr i hL;have hok:=HA.out.each _ (List.getElem_mem hL);have hgd:l[i]?=some l[i] :=List.getElem?_eq_getElem hL;generalize l[i]'hL=d at*;obtain⟨dk,dn,da,dc,dl⟩:=d;have hc2:=hrj 2 (by decide);have hs:=hok.s;simp only[A22.cells,List.getElem?_cons_succ,List.getElem?_cons_zero]at hc2 hs;have HC2:=Lib.hid (fun W (hW:Fr [] w W)=>(hW.cell (p:=⟨B,off+i*3+2,none⟩) hBl (by simp)).trans hc2);have HF4:=Lib.hid (fun W (hW:Fr [] w W)=>(show Calls Tryz.prog 38 #[.slice da dl.length dc,.int .i64 130,.int .i64 1000] W (Few4 dl 130 1000 W)from few4 W da dc dl (hs.fr hW) 130 1000 (by decide) (by decide)));have HSA:=Lib.hid hs
   have HD':=Lib.hid (fun(hd:dl.length≤130∧wireN dl≤1131)=>(show∀d∈l.take (i+1),d.l.length≤130∧wireN d.l≤1131 from fun d hm=>by
    rw[List.take_add_one,hgd,Option.toList_some]at hm;rcases List.mem_append.1 hm with h|h
    ·exact HD.out d h
    ·rw[List.mem_singleton]at h;subst h;exact hd))
   have HX:=Lib.hid (fun k s (hs:dl[k]?=some s)=>fold_take dl k s 1 hs);have HZ:=Lib.hid (show(dl.take 0).foldl (fun n s=>n+(s.length+1)) 1=1 from rfl);have HFd:=Lib.hid (show(dl.take dl.length).foldl (fun n s=>n+(s.length+1)) 1=wireN dl from by rw[List.take_length];rfl)
   have HMo:=Lib.hid (fun k=>(show(dl.take k).foldl (fun n s=>n+(s.length+1)) 1≤wireN dl from by
    unfold wireN;conv=>rhs;rw[←List.take_append_drop k dl,List.foldl_append]
    exact fold_mono _ _))
   obtain⟨M,hM⟩:∃M:Nat→Nat,(fun k=>(dl.take k).foldl (fun n s=>n+(s.length+1)) 1)=M:=⟨_,rfl⟩;have hM':∀k,(dl.take k).foldl (fun n s=>n+(s.length+1)) 1=M k:=fun k=>by rw[←hM]
   simp only[hM']at HX HZ HFd HMo;have c2:=HC2.out _ F3.out;have hle2:=hs.len;generalize hdn:dl.length=m at*;have HDN:=Lib.hid hdn;have i0:(0:Int)≤i:=by omega
   have i1:(i:Int)<n:=by omega
   have wi:IntKind.i64.wrap ((i:Int)+1)=(i:Int)+1:=IntWalk.i64_in _ (by omega);clear hr hrj hok hgd hc2 hs hM hM' hdn hL;go_wp2_with fail;with_reducible refine(HF4.out _ F3.out).mono ?_
   rintro e w4 ⟨b4,rfl,f4,hb4⟩;have F4:=Lib.hid (F3.out.trans f4);have c2:=HC2.out _ F4.out;cases b4 with
   |false=>
    clear hb4 f4;go_wp2_with fail;go_ret;exact⟨false,rfl,F4.out,fun h=>by cases h⟩
   |true=>
    obtain⟨hb1,hb2⟩:=hb4 rfl;rw[HDN.out]at hb1 hb2;have HD2:=Lib.hid (HD'.out ⟨hb1,by omega⟩);have hwm:wireN dl≤1131:=by omega
    clear hb4 f4 HF4 HD' F3;go_wp2_with fail;go_loopg [5,7] (m+1) (fun gk v5 v7 W=>∃(k:Nat),v5= .int .i64 (t+1-(M k:Int))∧v7= .int .i64 k∧(k+gk=m+1∧k≤m)∧Hid (Fr [] w W));case atStart=>exact⟨0,by rw[HZ.out];congr 1;omega,rfl,by omega,F4⟩
    case round=>
     clear F4 c2;obtain⟨k,rfl,rfl,hk,F5⟩:=hrel;have c2:=HC2.out _ F5.out;have hMk:=HMo.out k;have hMk1:=HMo.out (k+1);by_cases hkm:k<m
     ·have hL:k<dl.length:=by rw[HDN.out];exact hkm
      obtain⟨g,o,rfl,hc,hg⟩:=HSA.out.at_ k hL;have k1:=(F5.out.cell (p:=⟨g,o+k,none⟩) hg (by simp)).trans hc;have hgd:dl[k]?=some dl[k] :=List.getElem?_eq_getElem hL;rw[hgd]at k1;simp only[Option.getD_some]at k1;have hx:=HX.out k _ hgd;generalize dl[k]'hL=s at*;have hsz:=strOf_sz s;obtain⟨sn,hsn⟩:∃sn,s.length=sn:=⟨_,rfl⟩;rw[hsn]at hx hsz;have HXk:=Lib.hid hx;have b8:decide ((k:Int)<m)=true:=by simp;omega
      have b8':decide (k<m)=true:=by simp;omega
      have k0:(0:Int)≤k:=by omega
      have k1':(k:Int)<m:=by omega
      have wk:IntKind.i64.wrap ((k:Int)+1)=(k:Int)+1:=IntWalk.i64_in _ (by omega);have w1:IntKind.i64.wrap (t+1-(M k:Int)-1)=t+1-(M k:Int)-1:=IntWalk.i64_in _ (by omega);have w2:IntKind.i64.wrap (t+1-(M k:Int)-1-(sn:Int))=t+1-(M k:Int)-1-(sn:Int):=IntWalk.i64_in _ (by omega);generalize strOf s=S at*;clear hc hgd hL hx hsn;go_wp2_with fail;go_roundg (gk-1);case measure=>omega
      case rel=>exact⟨k+1,by rw[HXk.out];congr 1;push_cast;omega,by go_num,by omega,F5⟩
     ·obtain rfl:k=m:=by omega
      have b8:decide ((k:Int)<k)=false:=by simp
      have b8':decide (k<k)=false:=by simp
      have hmk:1≤M k:=by rw[HFd.out];exact fold_mono _ _
      go_wp2_with fail;go_roundg (G-1);case measure=>omega
      case rel=>exact⟨_,i+1,rfl,by go_num,by omega,by push_cast;omega,HD2,F5⟩
  ·obtain⟨b6,h6⟩:∃b6,decide ((i:Int)<n)=b6:=⟨_,rfl⟩
   have h6':decide (i<n)=b6:=by rw[←h6];exact decide_eq_decide.2 (by omega)
   obtain⟨b7,h7⟩:∃b7,decide ((i:Int)<100)=b7:=⟨_,rfl⟩;have h7':decide (i<100)=b7:=by rw[←h7];exact decide_eq_decide.2 (by omega)
   obtain⟨b8,h8⟩:∃b8,decide ((n:Int)≤60)=b8:=⟨_,rfl⟩;have h8':decide (n≤60)=b8:=by rw[←h8];exact decide_eq_decide.2 (by omega)
   obtain⟨b9,h9⟩:∃b9,decide ((0:Int)≤t)=b9:=⟨_,rfl⟩
   have HR:=Lib.hid (show b8=true→Few22 l w (.returned (.bool b9)) wr from fun h=>⟨b9,rfl,F3.out,fun _=>by
    rw[h]at h8';have h60:=of_decide_eq_true h8';have:i=n:=by omega
    subst this;have hd:=HD.out;rw[←HN.out,List.take_length]at hd;exact⟨by rw[HN.out];exact h60,hd⟩⟩)
   have HFa:=Lib.hid (show Few22 l w (.returned (.bool false)) wr from⟨false,rfl,F3.out,fun h=>by cases h⟩)
   have hbb:(b6&&b7)=false:=by
    rw[←h6',←h7'];simp;omega
   cases b6<;>cases b7<;>cases b8<;>first|(exact absurd hbb (by decide))|(go_wp2_with fail;go_ret;first|exact HFa.out|exact HR.out trivial|exact HR.out rfl)
section
variable {w0 w W W' : World} {q : MH} {u0 : TM} {l : List Nat} {par refs own : Nat → Nat} {B : Nat → List Nat} {nm : Nat → List (List Nat)} {fr x p a c : Nat} {b : List Nat} {N : List (List Nat)} {k j at_ : Nat} {lj : List Nat} {parj : Nat → Nat} {nmj : Nat → List (List Nat)} {frj : Nat}
theorem GwI.undo0(g:GwI w0 q u0 l par own nm N k j 0 lj parj nmj frj W)(hk:k+j≤N.length):CP w0 q u0 l par own nm frj W:=by
 have h0:k+j=0:=by
  have:=congrArg List.length g.ew;rw[g.cp.z,sfx_len hk]at this;exact this.symm
 have hl:l=lj:=g.rem.sub.eq_of_length (by rw[g.len];omega);have:=g.cp;rw[←hl]at this;exact this.congr (fun y hy=>(g.pa y hy).symm) (fun y=>by unfold ownP;rw[if_pos rfl]) (fun y hy=>(g.na y hy).symm)
theorem c_class(h:CP w0 q u0 l par own nm fr W)(hb:∀k∈b,k<256)(hk:labOk b=true):Calls Tryz.prog 58 #[.string (strOf b)] W fun e w'=>e= .returned (.tuple #[.int .i64 (clsN (16+b.length)),.int .i64 0])∧Fr [] W w':=by
 obtain⟨refs,B,⟨S,L,u,E,B0,g,_⟩,_⟩:=h;have:=nclass g.wb.h.m.tab b hb;rw[if_pos hk]at this;exact this
def GrP(w0:World)(q:MH)(u0:TM)(l:List Nat)(par own:Nat→Nat)(nm:Nat→List (List Nat))(L:List (List Nat))(e:Ending)(w':World):Prop:=
 (e= .returned (.tuple #[.int .i64 0,.int .i64 0,.bool false])∧(chkN L≠0∨7≤l.length+L.length)∧ ∃fr1,CP w0 q u0 l par own nm fr1 w')∨
 (chkN L=0∧ ∃at_ n k a0:Nat,e= .returned (.tuple #[.int .i64 at_,.int .i64 n,.bool true])∧k+n=L.length∧Kn l nm (lowN L) a0 k∧ ∃lj parj nmj frj,GwI w0 q u0 l par own nm (lowN L) k n at_ lj parj nmj frj w')
theorem grown22(h:CP w0 q u0 l par own nm fr w)(ad:Option Addr)(cap:Nat)(L:List (List Nat))(hA:StrA w ad L)(hAq:0<L.length→∀g o,ad=some ⟨g,o,none⟩→g∉q.blocks)(hb:wireN L≤1131)(hl:L.length≤130)(ho:∀y,own y≤1000000):Calls Tryz.prog 39 #[.pointer (some ⟨q.m,0,none⟩),.slice ad L.length cap] w fun e w'=>Fr q.blocks w w'∧GrP w0 q u0 l par own nm L e w':=by
 have HP:=Lib.hid (c_pin h ad cap L hA hAq (by omega) (fun y=>by have:=ho y;omega));have HA:=Lib.hid hA;have HQ:=Lib.hid (fun g (hg:g<w.heap.size) (hn:g∉q.blocks) W (hW:Fr q.blocks w W) o v (hc:w.cell? ⟨g,o,none⟩=some v)=>(show W.cell? ⟨g,o,none⟩=some v from(hW.cell (p:=⟨g,o,none⟩) hg hn).trans hc));have HAq:=Lib.hid hAq;have HO:=Lib.hid ho;have HFm:=Lib.hid h.firm;have HLL:=Lib.hid h.few;obtain⟨n,hn⟩:∃n,L.length=n:=⟨_,rfl⟩;have HN:=Lib.hid hn;rw[hn]at hl HP⊢;clear h hA hAq hb ho hn;go_enter Tryz.func39,Tryz.ntmps39;go_wp2_with fail;with_reducible refine HP.out.mono ?_
 rintro e w1 ⟨f1,⟨hck,rfl,h1⟩|⟨hck,at0,k,rfl,hk,h1⟩⟩
 ·have HE:=Lib.hid (show Fr q.blocks w w1∧GrP w0 q u0 l par own nm L (.returned (.tuple #[.int .i64 0,.int .i64 0,.bool false])) w1 from⟨f1,.inl ⟨rfl,.inl hck,fr,h1⟩⟩)
  have bc:((chkN L:Int) !=0)=true:=by simp;omega
  have bc':(chkN L !=0)=true:=by simp;omega
  generalize chkN L=ck at*;clear f1 h1 hck HP;go_wp2_with fail;go_returns;exact HE.out
 ·have F1:=Lib.hid f1
  have hkn:k≤n:=by have:=hk.le;rw[lowN_len,HN.out]at this;exact this
  have G1:=Lib.hid (GwI.start (own:=own) h1 hk);have HK:=Lib.hid hk;have HCK:=Lib.hid hck;have w1':IntKind.i64.wrap ((n:Int)-k)=((n-k:Nat):Int):=by rw[IntWalk.i64_in _ (by omega)];omega
  have w2':IntKind.i64.wrap (((n-k:Nat):Int)-1)=((n-k:Nat):Int)-1:=IntWalk.i64_in _ (by omega);obtain⟨R,hR⟩:∃R,n-k=R:=⟨_,rfl⟩;rw[hR]at w1' w2';have hRn:k+R=n:=by omega
  clear f1 h1 hk hck HP hR;go_wp2_with fail;go_loopg [7,10,11] (R+1) (fun gk v7 v10 v11 W=>∃(j at_ m:Nat),v7= .int .i64 at_∧v10= .int .i64 j∧v11= .int .i64 ((m:Int)-1)∧(m+1=gk∧j+m=R)∧Hid (∃lj parj nmj frj,GwI w0 q u0 l par own nm (lowN L) k j at_ lj parj nmj frj W)∧Hid (Fr q.blocks w W));case atStart=>exact⟨0,at0,R,rfl,rfl,rfl,by omega,Lib.hid ⟨_,_,_,_,G1.out⟩,F1⟩
  case round=>
   clear G1 F1;obtain⟨j,at_,m,rfl,rfl,rfl,hm,HG,HF⟩:=hrel;cases m with
   |zero=>
    have HE:=Lib.hid (show Fr q.blocks w wr∧GrP w0 q u0 l par own nm L (.returned (.tuple #[.int .i64 at_,.int .i64 j,.bool true])) wr from⟨HF.out,.inr ⟨HCK.out,at_,j,k,at0,rfl,by rw[HN.out];omega,HK.out,HG.out⟩⟩);rw[show(((0:Nat):Int)-1)= -1 from rfl];clear HG HF HK HCK;go_wp2_with fail;go_returns;exact HE.out
   |succ t=>
    have ez:(((t+1:Nat):Int)-1)=(t:Int):=by omega
    rw[ez];have hL:t<L.length:=by rw[HN.out];omega
    obtain⟨g,o,rfl,hc,hg⟩:=HA.out.at_ t hL;have hgd:L[t]?=some (L[t]'hL):=List.getElem?_eq_getElem hL;rw[hgd]at hc;simp only[Option.getD_some]at hc;have hs:=HA.out.lt _ (List.getElem_mem hL)
    have hsk:labOk (L[t]'hL)=true:=by
     have hck:=HCK.out;unfold chkN at hck;by_cases ha:L.all labOk=true
     ·exact List.all_eq_true.1 ha _ (List.getElem_mem hL)
     ·rw[if_neg ha]at hck;cases hck
    have HSX:=Lib.hid (show sfx (lowN L) (k+j+1)=(L[t]'hL).map lowB::sfx (lowN L) (k+j)from by
     rw[sfx_succ (by rw[lowN_len,HN.out];omega)];congr 1;simp only[lowN,List.getElem_map,List.length_map,HN.out];congr 1;congr 1;omega)
    have hkl:k+j<(lowN L).length:=by rw[lowN_len,HN.out];omega
    have hcW:=HQ.out g hg (HAq.out (by omega) g o rfl) wr HF.out _ _ hc;have HcW:=Lib.hid (fun W (hW:Fr q.blocks w W)=>HQ.out g hg (HAq.out (by omega) g o rfl) W hW _ _ hc);generalize L[t]'hL=s at*;obtain⟨lj,parj,nmj,frj,hG⟩:=HG.out;have hs63:=(labOk_len hsk).2;have hcls:=clsN_ok (16+s.length) (by omega);have HCl:=Lib.hid (c_class hG.cp hs hsk);have HTk:=Lib.hid (fun W' (hf:Fr [] wr W')=>c_take (hG.cp.fr0 hf) (c:=clsN (16+s.length)) ⟨hcls.1,hcls.2.1⟩);have HG2:=Lib.hid hG
    have HGr:=Lib.hid (fun W x (hW:CPT w0 q u0 lj parj (ownP own at_) nmj x (clsN (16+s.length)) W)=>c_grow hW (p:=at_) (hG.pl.imp id (fun hm=>⟨hm,by
      have h0:at_≠0:=(hG.cp.rng hm).1;rw[ownP_at _ h0];omega⟩)) hs hsk (fun y hy e=>hG.no hkl y hy (by rw[e,HSX.out,hG.ew])) (fun _=>by
      have:=ownP_le own at_ at_;have:=HO.out at_;omega) hG.cp.few)
    have HX0:=Lib.hid (fun x (hx:x∉lj)=>(show own x=0 from by
     have h1:=hG.cp.out hx;have h2:=ownP_ge own at_ x;omega))
    have HKL:=Lib.hid hkl;have b1:decide ((0:Int)≤t)=true:=by simp
    have t0:(0:Int)≤t:=by omega
    have t1:(t:Int)<n:=by omega
    have wt:IntKind.i64.wrap ((t:Int)-1)=(t:Int)-1:=IntWalk.i64_in _ (by omega);have wj:IntKind.i64.wrap ((j:Int)+1)=((j+1:Nat):Int):=by rw[IntWalk.i64_in _ (by omega)];push_cast;rfl
    generalize strOf s=S at*;generalize clsN (16+s.length)=cl at*;clear hc hgd hL hs hsk hG hs63 hcls hkl ez HG;go_wp2_with fail;with_reducible refine HCl.out.mono ?_
    rintro e w3 ⟨rfl,f3⟩;have HTk':=Lib.hid (HTk.out _ f3);have F3:=Lib.hid (HF.out.trans f3.nil);clear f3 HCl HTk HF hcW;go_wp2_with fail;with_reducible refine HTk'.out.mono ?_
    rintro e w4 ⟨x,r,rfl,f4,⟨rfl,h4⟩|⟨rfl,h4⟩⟩
    ·have F4:=Lib.hid (F3.out.trans f4)
     have H7:=Lib.hid (show 7≤l.length+L.length from by
      have h7:=h4.full7;have:=HG2.out.len;rw[HN.out];omega)
     have H4:=Lib.hid h4;clear f4 h4 HTk' HGr HX0;by_cases ha:at_=0
     ·subst ha
      have HU:=Lib.hid (show CP w0 q u0 l par own nm 0 w4 from(⟨H4.out,HG2.out.pl,HG2.out.ew,HG2.out.rem,HG2.out.pa,HG2.out.na,HG2.out.len,HG2.out.sf,HG2.out.no⟩:GwI w0 q u0 l par own nm (lowN L) k j 0 lj parj nmj 0 w4).undo0 (Nat.le_of_lt HKL.out));have HE:=Lib.hid (show Fr q.blocks w w4∧GrP w0 q u0 l par own nm L (.returned (.tuple #[.int .i64 0,.int .i64 0,.bool false])) w4 from⟨F4.out,.inl ⟨rfl,.inr H7.out,_,HU.out⟩⟩);clear HU H4 HG2;go_wp2_with fail;with_reducible refine(c_drop0).mono ?_
      rintro e w5 ⟨rfl,he⟩;rw[he];clear he;go_wp2_with fail;go_returns;exact HE.out
     ·have HDr:=Lib.hid (c_drop H4.out (HG2.out.pl.resolve_left ha) (own at_) (ownP_at own ha))
      have HAT:=Lib.hid ha;clear ha H4;go_wp2_with fail;with_reducible refine HDr.out.mono ?_
      rintro e w5 ⟨n5,l1,fr1,rfl,f5,h5,h5b,-⟩;have HE:=Lib.hid (show Fr q.blocks w w5∧GrP w0 q u0 l par own nm L (.returned (.tuple #[.int .i64 0,.int .i64 0,.bool false])) w5 from⟨F4.out.trans f5,.inl ⟨rfl,.inr H7.out,_,HG2.out.undo HFm.out HAT.out h5 h5b⟩⟩);clear f5 h5 h5b HDr HG2;go_wp2_with fail;go_returns;exact HE.out
    ·have F4:=Lib.hid (F3.out.trans f4)
     have HGr':=Lib.hid (HGr.out _ _ h4);have hcW:=HcW.out _ F4.out;clear f4 h4 HTk' HGr;go_wp2_with fail;with_reducible refine HGr'.out.mono ?_
     rintro e w5 ⟨rfl,f5,hx1,hx2,hx3,fr5,h5⟩;have F5:=Lib.hid (F4.out.trans f5);have G5:=Lib.hid (HG2.out.next HKL.out HSX.out hx1 hx2 hx3 (HX0.out x hx1) h5);clear f5 h5 HGr' hx1 hx2 hx3 HX0 HG2 F4 F3 hcW;go_wp2_with fail;go_roundg (gk-1);case measure=>omega
     case rel=>exact⟨j+1,x,t,rfl,rfl,by go_num,by omega,Lib.hid ⟨_,_,_,_,G5.out⟩,F5⟩
end
section
variable {w0 w W W' : World} {q : MH} {u0 : TM} {l : List Nat} {par refs own : Nat → Nat} {B : Nat → List Nat} {nm : Nat → List (List Nat)} {fr x p a c : Nat} {b : List Nat} {N : List (List Nat)} {k j at_ : Nat} {lj : List Nat} {parj : Nat → Nat} {nmj : Nat → List (List Nat)} {frj : Nat}
theorem stra_new2(W:World)(s t:List Nat)(hs:∀b∈s,b<256)(ht:∀b∈t,b<256)(h1:s.length≤63)(h2:t.length≤63):StrA (W.alloc (.cells #[.string (strOf s),.string (strOf t)] 9)) (some ⟨W.heap.size,0,none⟩) [s,t] :=by
 refine⟨fun i hi=>⟨W.heap.size,0,rfl,?_,by simp⟩,fun u hu=> ?_,fun u hu=> ?_,by simp⟩
 ·have:=(Blk.new W 9 #[.string (strOf s),.string (strOf t)]).cell (0+i)
  rw[this];match i,hi with
  |0,_=>rfl
  |1,_=>rfl
 ·simp at hu
  rcases hu with rfl|rfl
  ·exact hs
  ·exact ht
 ·simp at hu
  rcases hu with rfl|rfl<;>omega
theorem grows_plain{par own:Nat→Nat}{nm:Nat→List (List Nat)}{e:Ending}{w':World}(h0:nm 0= [])(h:GrP w0 q u0 [] par own nm [[119,119,119],[65]] e w'):∃at_ lj parj nmj frj,e= .returned (.tuple #[.int .i64 (at_:Nat),.int .i64 2,.bool true])∧CP w0 q u0 lj parj (ownP own at_) nmj frj w'∧at_∈lj∧nmj at_= [[119,119,119],[97]]∧∀y∈lj,∃s,[[119,119,119],[97]] =s++nmj y:=by
 have hlow:lowN [[119,119,119],[65]] = [[119,119,119],[97]] :=by decide
 rcases h with⟨_,h1|h1,_⟩|⟨_,at_,n,k,a0,he,hkn,hk,lj,parj,nmj,frj,g⟩
 ·exact absurd (by decide:chkN [[119,119,119],[65]] =0) h1
 ·simp at h1
 ·rw[hlow]at g hk
  have ha0:a0=0:=hk.pl.resolve_right (fun hm=>(nomatch hm));subst ha0
  have hk0:k=0:=by
   have h1:=hk.ew;have:=congrArg List.length h1;rw[h0,sfx_len hk.le]at this;exact this.symm
  subst hk0;have hn2:n=2:=by simpa using hkn
  subst hn2;have hw:nmj at_= [[119,119,119],[97]] :=by rw[g.ew];rfl
  have hat:at_∈lj:=g.pl.resolve_left (fun e=>by rw[e,g.cp.z]at hw;cases hw);exact⟨at_,lj,parj,nmj,frj,he,g.cp,hat,hw,fun y hy=>g.sf y hy (fun hm=>(nomatch hm))⟩
theorem grows_known(h:CP w0 q u0 l par own nm fr W)(hat:at_∈l)(hw:nm at_= [[119,119,119],[97]])(hs:∀y∈l,∃s,[[119,119,119],[97]] =s++nm y)(g:Kn l nm (lowN [[98],[97]]) a k):k=1∧a∈l∧a≠0∧nm a= [[97]] :=by
 have hlow:lowN [[98],[97]] = [[98],[97]] :=by decide
 rw[hlow]at g;have hle:=g.le;simp at hle;obtain⟨z,hz,ez⟩:=h.suf (.inr hat) (s:= [[119,119,119]]) (t:= [[97]]) hw;have hzl:z∈l:=hz.resolve_left (fun e=>by rw[e,h.z]at ez;cases ez);have hk:k=0∨k=1∨k=2:=by omega
 rcases hk with rfl|rfl|rfl
 ·exact absurd (ez.trans (by rfl)) (g.no (by simp) z hzl)
 ·have hw1:nm a= [[97]] :=g.ew.trans rfl
  have hal:a∈l:=g.pl.resolve_left (fun e=>by rw[e,h.z]at hw1;cases hw1);exact⟨rfl,hal,(h.rng hal).1,hw1⟩
 ·have hw2:nm a= [[98],[97]] :=g.ew.trans rfl
  have hal:a∈l:=g.pl.resolve_left (fun e=>by rw[e,h.z]at hw2;cases hw2);obtain⟨s,es⟩:=hs a hal;rw[hw2]at es;have hlen:=congrArg List.length es;simp at hlen;subst hlen;simp at es
theorem grows22 (w : World) (hM : TabM w) (hT : Tabs w) : Calls Tryz.prog 9 #[] w fun e w' => e = .returned (.bool true) ∧ Fr [] w w' := by
  have HF := Lib.hid (fresh22 w hM hT)
  clear hM hT
  go_enter Tryz.func9, Tryz.ntmps9
  go_wp2_with fail
  with_reducible refine HF.out.mono ?_
  rintro e w1 ⟨q, u0, rfl, n1, -, hq, f1⟩
  have HQ := Lib.hid hq
  have F1 := Lib.hid f1
  have C1 := CP.start n1
  have OK1 := n1.bok
  have hgr := (show Calls Tryz.prog 39 #[.pointer (some ⟨q.m, 0, none⟩), .slice (some ⟨w1.heap.size, 0, none⟩) 2 2] (w1.alloc (.cells #[.string ⟨#[119, 119, 119]⟩, .string ⟨#[65]⟩] 9)) fun e w' => Fr q.blocks (w1.alloc (.cells #[.string ⟨#[119, 119, 119]⟩, .string ⟨#[65]⟩] 9)) w' ∧ GrP w q u0 [] (fun _ => 0) (fun _ => 0) (fun _ => []) [[119, 119, 119], [65]] e w' from
    grown22 (C1.fr0 ((Fr.refl [] w1).alloc _)) (some ⟨w1.heap.size, 0, none⟩) 2 [[119, 119, 119], [65]] (stra_new2 w1 [119, 119, 119] [65] (by decide) (by decide) (by decide) (by decide)) (fun _ g o e hm => by
      injection e with e
      injection e with e1
      have := OK1.q _ hm
      omega) (by decide) (by decide) (fun y => by show 0 ≤ 1000000; omega))
  have HG := Lib.hid hgr
  have F2 := Lib.hid (F1.out.alloc (.cells #[.string ⟨#[119, 119, 119]⟩, .string ⟨#[65]⟩] 9))
  clear n1 hq f1 HF C1 OK1 hgr
  go_wp2_with fail
  with_reducible refine HG.out.mono ?_
  rintro e w2 ⟨f2, hg⟩
  obtain ⟨at_, lj, parj, nmj, frj, rfl, hC, hat, hw, hsf⟩ := grows_plain rfl hg
  have F3 := Lib.hid (F2.out.step f2 (fun k hk => .inr (HQ.out k hk)))
  have HX := Lib.hid (And.intro hat (And.intro hw hsf))
  have OK2 := hC.bok
  have hkn := (show Calls Tryz.prog 15 #[.pointer (some ⟨q.m, 0, none⟩), .slice (some ⟨w2.heap.size, 0, none⟩) 2 2] (w2.alloc (.cells #[.string ⟨#[98]⟩, .string ⟨#[97]⟩] 9)) fun e w' => ∃ at2 k : Nat, e = .returned (.tuple #[.int .i64 at2, .int .i64 k]) ∧ Kn lj nmj (lowN [[98], [97]]) at2 k ∧ CP w q u0 lj parj (ownP (fun _ => 0) at_) nmj frj w' ∧ Fr q.blocks (w2.alloc (.cells #[.string ⟨#[98]⟩, .string ⟨#[97]⟩] 9)) w' from
    cknown (hC.fr0 ((Fr.refl [] w2).alloc _)) (some ⟨w2.heap.size, 0, none⟩) 2 [[98], [97]] (stra_new2 w2 [98] [97] (by decide) (by decide) (by decide) (by decide)) (fun _ g o e hm => by
      injection e with e
      injection e with e1
      have := OK2.q _ hm
      omega))
  have HK := Lib.hid hkn
  have F4 := Lib.hid (F3.out.alloc (.cells #[.string ⟨#[98]⟩, .string ⟨#[97]⟩] 9))
  clear f2 hg hC hat hw hsf OK2 hkn HG F1 F2 F3
  go_wp2_with fail
  with_reducible refine HK.out.mono ?_
  rintro e w3 ⟨a, k, rfl, hk, hC, f3⟩
  obtain ⟨rfl, hal, ha0, hwa⟩ := grows_known hC HX.out.1 HX.out.2.1 HX.out.2.2 hk
  have F5 := Lib.hid (F4.out.step f3 (fun k hk => .inr (HQ.out k hk)))
  have hnm := cname hC (.inr HX.out.1)
  rw [HX.out.2.1] at hnm
  have HNm := Lib.hid (show Calls Tryz.prog 40 #[.pointer (some ⟨q.m, 0, none⟩), .int .i64 at_] w3 fun e w' => ∃ ad, e = .returned (.tuple #[.slice ad 2 2, .int .i64 0]) ∧ StrA w' ad [[119, 119, 119], [97]] ∧ (∀ g o, ad = some ⟨g, o, none⟩ → w3.heap.size ≤ g) ∧ CP w q u0 lj parj (ownP (fun _ => 0) at_) nmj frj w' ∧ Fr q.blocks w3 w' from hnm)
  have HA := Lib.hid (And.intro hal hwa)
  have OK3 := Lib.hid hC.bok
  have ba : decide ((0 : Int) < a) = true := by simp; omega
  have ba' : decide (0 < a) = true := by simp; omega
  clear hk hC f3 hal ha0 hwa hnm HK F4
  go_wp2_with fail
  with_reducible refine HNm.out.mono ?_
  rintro e w4 ⟨ad, rfl, hS, hbs, hC, f4⟩
  have F6 := Lib.hid (F5.out.step f4 (fun k hk => .inr (HQ.out k hk)))
  have HT := Lib.hid (show Calls Tryz.prog 41 #[.pointer (some ⟨q.m, 0, none⟩), .int .i64 a] w4 fun e w' => e = .returned (.tuple #[.string ⟨#[97]⟩, .int .i64 0]) ∧ CP w q u0 lj parj (ownP (fun _ => 0) at_) nmj frj w' ∧ Fr q.blocks w4 w' from ctext1 hC HA.out.1 [97] HA.out.2)
  have HSq := Lib.hid (show ∀ g o, ad = some ⟨g, o, none⟩ → g ∉ q.blocks from fun g o e hm => by
    have := hbs g o e
    have := OK3.out.q _ hm
    omega)
  have HS := Lib.hid hS
  clear hS hbs hC f4 HNm F5
  go_wp2_with fail
  with_reducible refine HT.out.mono ?_
  rintro e w5 ⟨rfl, hC, f5⟩
  have F7 := Lib.hid (F6.out.step f5 (fun k hk => .inr (HQ.out k hk)))
  have HS5 := Lib.hid (HS.out.frS f5 HSq.out)
  have HSm := Lib.hid (show Calls Tryz.prog 42 #[.slice ad 2 2, .slice (some ⟨w5.heap.size, 0, none⟩) 2 2] (w5.alloc (.cells #[.string ⟨#[119, 119, 119]⟩, .string ⟨#[97]⟩] 9)) fun e w' => e = .returned (.bool true) ∧ Fr [] (w5.alloc (.cells #[.string ⟨#[119, 119, 119]⟩, .string ⟨#[97]⟩] 9)) w' from
    same4 _ ad (some ⟨w5.heap.size, 0, none⟩) 2 2 [[119, 119, 119], [97]] (HS5.out.fr ((Fr.refl [] w5).alloc _)) (stra_new2 w5 [119, 119, 119] [97] (by decide) (by decide) (by decide) (by decide)))
  have HDp := Lib.hid (fun W (hW : CP w q u0 lj parj (ownP (fun _ => 0) at_) nmj frj W) => (show Calls Tryz.prog 43 #[.pointer (some ⟨q.m, 0, none⟩), .int .i64 at_] W fun e w' => e = .returned (.int .i64 2) ∧ CP w q u0 lj parj (ownP (fun _ => 0) at_) nmj frj w' ∧ Fr q.blocks W w' from by
    have := cdepth hW (.inr HX.out.1)
    rw [HX.out.2.1] at this
    exact this))
  have HFl := Lib.hid (fun W (hW : CP w q u0 lj parj (ownP (fun _ => 0) at_) nmj frj W) => c_flt hW)
  have C5 := Lib.hid (hC.fr0 ((Fr.refl [] w5).alloc (.cells #[.string ⟨#[119, 119, 119]⟩, .string ⟨#[97]⟩] 9)))
  have F8 := Lib.hid (F7.out.alloc (.cells #[.string ⟨#[119, 119, 119]⟩, .string ⟨#[97]⟩] 9))
  clear hC f5 HT F6 F7 HS HS5
  go_wp2_with fail
  with_reducible refine HSm.out.mono ?_
  rintro e w6 ⟨rfl, f6⟩
  have C6 := Lib.hid (C5.out.fr0 f6)
  have F9 := Lib.hid (F8.out.trans f6)
  clear f6 C5 F8 HSm
  go_wp2_with fail
  with_reducible refine (HDp.out _ C6.out).mono ?_
  rintro e w7 ⟨rfl, h7, f7⟩
  have C7 := Lib.hid h7
  have F10 := Lib.hid (F9.out.step f7 (fun k hk => .inr (HQ.out k hk)))
  clear h7 f7 HDp C6 F9
  go_wp2_with fail
  with_reducible refine (HFl.out _ C7.out).mono ?_
  rintro e w8 ⟨rfl, -, f8⟩
  have F11 := Lib.hid (F10.out.step f8 (fun k hk => .inr (HQ.out k hk)))
  clear f8
  go_wp2_with fail
  go_ret
  exact ⟨rfl, F11.out⟩
end
section
variable {w0 w W W' : World} {q : MH} {u0 : TM} {l : List Nat} {par refs own : Nat → Nat} {B : Nat → List Nat} {nm : Nat → List (List Nat)} {fr x p a c : Nat} {b : List Nat} {N M : List (List Nat)} {k j at_ : Nat}
end
end Go.Proofs.YtjjkfcnlgmbbcaaGreatDoor
