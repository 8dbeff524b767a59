/- Several texts in one. -/
import Derived.Test.YtolhkhdbgnciiaaGreatDoorMI
namespace Go.Proofs.YtolhkhdbgnciiaaGreatDoor
open _root_.Go.Proofs.Tryz
open Go.Lib (hid)
open Go.IntWalk (i64_in)
set_option linter.unusedVariables false
set_option linter.unusedSimpArgs false
open Go.RowKit
set_option maxRecDepth 100000
set_option maxHeartbeats 4000000
section
open Go.RowKit Go.Shelf
attribute [local go_sem] Oper.semAt_some
section
variable {w0 w W : World} {q : MH} {u0 : EW} {l : List Nat} {par refs own : Nat → Nat} {B : Nat → List Nat} {nm : Nat → List (List Nat)} {fr a : Nat}
theorem cis0(h:CP w0 q u0 l par own nm fr w):Calls prog 233 #[.pointer (some ⟨q.m,0,none⟩),.int .i64 0] w fun e w'=>e= .returned (.int .i64 0)∧CP w0 q u0 l par own nm fr w'∧Fr q.blocks w w':=by
 have HC:=(show∃a s:Nat,(7≤a)∧Hid (Calls prog 81 #[.pointer (some ⟨q.m,0,none⟩)] w fun e w'=>e= .returned (cfgV a s)∧Fr [] w w')from by
  obtain⟨refs,B,⟨S,LL,u,E,B0,g,_⟩,_⟩:=h;have ha:=g.wb.h.m.ok.cfg.a1;exact⟨u.a,u.s,ha,hid (zca g.wb.h.m)⟩)
 obtain⟨a0,s0,ha0,HC⟩:=HC;have hE:=za7 a0 s0 ha0;unfold cfgV at HC;have H0:=hid h;clear h ha0;go_enter func233,ntmps233;go_wp2_with fail;with_reducible refine HC.out.mono ?_
 rintro e w1 ⟨rfl,f1⟩;have F1:=hid f1;clear f1;go_wp2_with fail;go_ret;exact⟨rfl,H0.out.fr0 F1.out,F1.out.nil⟩
theorem zyx(n:Nat)(hn:1≤n)(q:MH)(Be:Nat):zux (α:=Nat×List Nat) Fence.wide n prog 278 #[.pointer (some ⟨Be,0,none⟩)] (fun y=> #[.int .i64 y.1,.string (zag y.2)]) (fun W=>Blk W Be 234 #[.pointer (some ⟨q.m,0,none⟩),.int .i64 0]) (fun A B=>Fr [] A B) (fun _ _=>False) (fun xs=>xs= []) (fun _=>False):=by
 intro lo J Jx W hJM hJS hXS hY h0;refine callsIn_of_wp func278 rfl trivial ?_ rfl;simp only[ntmps278,List.size_toArray,List.length_cons,List.length_nil,Nat.reduceAdd,Nat.reduceSub,Array.replicate_succ,Array.replicate_zero,List.push_toArray,List.append_toArray,List.nil_append,List.cons_append];have HJM:=hid hJM;have H0:=hid h0;clear hJM hJS hXS hY h0;gi_wp2_with fail;gi_loopw [3,4] (fun u v wr=>Hid (J [] wr)) (fun _ _ wr=>0);case atStart=>exact H0
 case round=>
  have HJ:=hrel;have hB:=HJM.out _ _ HJ.out;have c0:=hB.cell 0;have c1:=hB.cell 1;simp at c0 c1;clear hB H0;gi_wp2_with fail;go_end0;exact⟨⟨_,rfl⟩,.inl ⟨[],rfl,HJ.out⟩⟩
theorem zot(n:Nat)(hn:4≤n)(h:CP w0 q u0 l par own nm fr w):CallsIn Fence.wide n prog 149 #[.pointer (some ⟨q.m,0,none⟩),.int .i64 0] w fun e w'=>e= .returned (.tuple #[.slice none 0 0,.int .i64 0])∧CP w0 q u0 l par own nm fr w'∧Fr q.blocks w w':=by
 have h1:1≤n:=by omega
 have HI:=hid (cis0 h)
 clear h
 refine callsIn_of_wp_marks func149 rfl trivial ?_ rfl
 simp only[ntmps149,List.size_toArray,List.length_cons,List.length_nil,Nat.reduceAdd,Nat.reduceSub,Array.replicate_succ,Array.replicate_zero,List.push_toArray,List.append_toArray,List.nil_append,List.cons_append]
 gi_wp2_with (first|(refine⟨trivial,?_⟩;gi_at_call 233;refine(callsIn_wide.2 HI.out).mono ?_;rintro e w1 ⟨rfl,h1',f1'⟩;have H1:=hid h1';have F1:=hid f1';clear h1' f1')|(refine⟨trivial,?_⟩;gi_at_call 234;refine(zqz _ 0 _).mono ?_;rintro e w' ⟨rfl,rfl⟩)|fail)
 obtain⟨W0,hW0⟩: ∃W0,((w1.alloc (.cells #[.slice none 0 0] 31)).alloc (.cells #[.pointer (some ⟨q.m,0,none⟩),.int .i64 0] 234))=W0:=⟨_,rfl⟩
 have bL:Blk W0 w1.heap.size 31 #[.slice none 0 0] :=by rw[←hW0];exact(Blk.new w1 _ _).alloc _
 have bE:Blk W0 (w1.heap.size+1) 234 #[.pointer (some ⟨q.m,0,none⟩),.int .i64 0] :=by
  rw[←hW0]
  have:=Blk.new (w1.alloc (.cells #[.slice none 0 0] 31)) 234 #[.pointer (some ⟨q.m,0,none⟩),.int .i64 0]
  rwa[World.size_alloc]at this
 have f0:Fr [] w1 W0:=by rw[←hW0];exact((Fr.refl _ w1).alloc _).alloc _
 have hz:W0.heap.size=w1.heap.size+2:=by rw[←hW0];simp
 have hT0:=H1.out.fr0 f0
 have OK1:=H1.out.bok
 have hwl:w.heap.size≤w1.heap.size:=F1.out.size
 have fr0':Fr q.blocks w W0:=F1.out.trans f0.nil
 rw[hW0]
 clear hW0 f0 H1 F1
 generalize w1.heap.size=Lb at*
 have hnb: ∀k,k<W0.heap.size→k∉ [W0.heap.size,W0.heap.size+1] :=fun k hk hm=>by simp at hm;omega
 have hmem: ∀k∈ [W0.heap.size,W0.heap.size+1],k∈q.blocks∨w.heap.size≤k:=fun k hk=>by simp at hk;exact .inr (by omega)
 refine zkm rfl h1 (gf:=278) (lb:= #[.pointer (some ⟨Lb+1,0,none⟩)]) rfl trivial (enters_of func278 (by kernel_rfl) rfl)
  (zyx (n-1) (by omega) q (Lb+1)) (fun _=>rfl)
  (fun A B hA hM hs=>⟨hs.keep2 hA ⟨by simp,by simp⟩,hs.size⟩)
  (fun pre W=>CP w0 q u0 l par own nm fr W∧Fr q.blocks w W∧Blk W Lb 31 #[.slice none 0 0] ∧Blk W (Lb+1) 234 #[.pointer (some ⟨q.m,0,none⟩),.int .i64 0])
  (fun _ _ _=>False)
  (fun s A hh=>hh.2.2.2) (fun cd s A hh=>hh.elim)
  (fun s A B ⟨hM,hF,hL,hE⟩ hf=>⟨hM.frL OK1 hf (fun k hk=>by simp at hk;omega),hF.step hf hmem,hL.fr hf (hnb _ (by omega)),hE.fr hf (hnb _ (by omega))⟩) (fun cd s A B hh _=>hh.elim)
  (fun s A B ⟨hM,hF,hL,hE⟩ hf=>⟨hM.fr0 hf,hF.trans hf.nil,hL.fr hf (by simp),hE.fr hf (by simp)⟩) (fun cd s A B hh _=>hh.elim) ⟨hT0,fr0',bL,bE⟩
  (fun _ _ _=>True) (fun y a' A B hh _=>hh) ?assign (fun lo pre y a' W hW hf=>hf.elim) ?done (fun D cd pre W hD hf=>hf.elim)
 case assign=>
  rintro lo pre y W K hW hi hK
  have HI2:=hid hi
  clear hi bL bE fr0' hT0 hnb hmem hz
  generalize zag y.2=S at*
  gi_wp2
  exact hK {tmps:= #[.pointer (some ⟨q.m,0,none⟩),.int .i64 0,undef,undef,.slice none 0 0,.int .i64 0,.int .i64 0,.pointer (some ⟨Lb,0,none⟩),undef,.string S,.pointer (some ⟨q.m,0,none⟩),.int .i64 0,.int .i64 0,.int .i64 0,.bool false,undef,.pointer (some ⟨q.m,0,none⟩),.int .i64 0,.agg #[.pointer (some ⟨q.m,0,none⟩),.int .i64 0],.func (.func 278) #[] #[.pointer (some ⟨Lb+1,0,none⟩)],.int .i64 y.1,.string S,undef,undef,undef,undef,undef,undef],defers:= []} _ (Keep2.refl _ _) HI2.out trivial
 case done=>
  rintro D xs W hD-⟨hM,hF,hL,-⟩ hK
  have hc1:=hL.cell 0
  simp at hc1
  have hfp:Fr [D] W (W.putObj D (.deferred none)):=Fr.putObj _ _ (by simp)
  have HE:=hid (show CP w0 q u0 l par own nm fr (W.putObj D (.deferred none))∧Fr q.blocks w (W.putObj D (.deferred none))from⟨hM.frL OK1 hfp (fun k hk=>by simp at hk;subst hk;omega),hF.step hfp (fun k hk=>by simp at hk;subst hk;exact .inr (by omega))⟩)
  clear hfp hM hF hL
  gi_wp2_with (first|(refine⟨trivial,?_⟩;gi_at_call 235;refine(zq5 _ none 0 0 _ (Nat.le_refl _) (fun _=>rfl)).mono ?_;rintro e w' ⟨rfl,he⟩;rw[he];clear he)|fail)
  refine⟨by simp,.inl ⟨_,_,rfl,run_takeDeferred (w:=W) hK,?_⟩⟩
  refine⟨_,results_tmp2 rfl _ _ _,?_,HE.out⟩
  rfl
theorem zz0(h:CP w0 q u0 l par own nm fr w):Calls prog 149 #[.pointer (some ⟨q.m,0,none⟩),.int .i64 0] w fun e w'=>e= .returned (.tuple #[.slice none 0 0,.int .i64 0])∧CP w0 q u0 l par own nm fr w'∧Fr q.blocks w w':=
 callsIn_wide.1 (zot 4 (Nat.le_refl _) h)
end
end
theorem zsu{α:Type}{N:List α}{k:Nat}(h:k<N.length):∃a,sfx N (k+1)=a::sfx N k:=⟨_,zc3 h⟩
section
variable {w0 W W' : World} {q : MH} {u0 : EW} {l : List Nat} {par refs own : Nat → Nat} {B : Nat → List Nat} {nm : Nat → List (List Nat)} {fr x a : Nat} {N : List (List Nat)} {k j at_ : Nat}
theorem CP.congr{par' own':Nat→Nat}{nm':Nat→List (List Nat)}(h:CP w0 q u0 l par own nm fr W)(hp:∀y∈l,par' y=par y)(ho:∀y,own' y=own y)(hn:∀y,y=0∨y∈l→nm' y=nm y):CP w0 q u0 l par' own' nm' fr W:=by
 obtain rfl:own'=own:=funext ho;obtain⟨refs,B,h1,h2,h3,h4,h5⟩:=h;have hup:=fun y hy=>h1.up (x:=y) hy;obtain⟨S,L,u,E,B0,g,ha,hrt,r,hf⟩:=h1;refine⟨refs,B,⟨S,L,u,E,B0,g,ha,hrt,fun y hy=>⟨by rw[hp y hy];exact(r y hy).1,(r y hy).2⟩,hf⟩,⟨by rw[hn 0 (.inl rfl)];exact h2.z,fun y hy=> ?_⟩,fun y hy=> ?_,fun y hy h0=> ?_,h5⟩
 ·rw[hn y (.inr hy),hp y hy,hn _ (hup y hy)]
  exact h2.s y hy
 ·rw[zce hp]
  exact h3 y hy
 ·obtain⟨z,hz,e⟩:=h4 y hy h0
  exact⟨z,hz,by rw[hp z hz];exact e⟩
structure GwI(w0:World)(q:MH)(u0:EW)(l:List Nat)(par own:Nat→Nat)(nm:Nat→List (List Nat))(N:List (List Nat))(k j at_:Nat)(lj:List Nat)(parj:Nat→Nat)(nmj:Nat→List (List Nat))(frj:Nat)(W:World):Prop where
 cp:CP w0 q u0 lj parj (ownP own at_) nmj frj W
 pl:at_=0∨at_∈lj
 ew:nmj at_=sfx N (k+j)
 rem:Rem own parj lj l
 pa: ∀y∈l,parj y=par y
 na: ∀y,y=0∨y∈l→nmj y=nm y
 len:lj.length=l.length+j
 sf: ∀y∈lj,y∉l→ ∃s,N=s++nmj y
 no:k+j<N.length→ ∀y∈lj,nmj y≠sfx N (k+j+1)
theorem GwI.start(h:CP w0 q u0 l par (ownP own at_) nm fr W)(g:Kn l nm N at_ k):GwI w0 q u0 l par own nm N k 0 at_ l par nm fr W:=
 ⟨h,g.pl,g.ew,.refl l,fun _ _=>rfl,fun _ _=>rfl,rfl,fun y hy hn=>absurd hy hn,g.no⟩
theorem zbe(own:Nat→Nat){x:Nat}(hx:x≠0):ownP own x x=own x+1:=by unfold ownP;rw[if_neg hx,zaa]
theorem zbr(own:Nat→Nat){x y:Nat}(h:y≠x):ownP own x y=own y:=by
 unfold ownP;split
 ·rfl
 ·rw[zac _ _ h]
theorem zhd(own:Nat→Nat)(x y:Nat):ownP own x y≤own y+1:=by
 by_cases e:y=x
 ·subst e
  by_cases h:y=0
  ·unfold ownP;rw[if_pos h];omega
  ·rw[zbe _ h];exact Nat.le_refl _
 ·rw[zbr _ e];omega
theorem zv2(own:Nat→Nat)(x y:Nat):own y≤ownP own x y:=by
 by_cases e:y=x
 ·subst e
  by_cases h:y=0
  ·unfold ownP;rw[if_pos h];exact Nat.le_refl _
  ·rw[zbe _ h];omega
 ·rw[zbr _ e];exact Nat.le_refl _
variable {lj : List Nat} {parj : Nat → Nat} {nmj : Nat → List (List Nat)} {frj : Nat}
theorem GwI.sub(g:GwI w0 q u0 l par own nm N k j at_ lj parj nmj frj W):∀y∈l,y∈lj:=fun y hy=>g.rem.sub.subset hy
theorem GwI.next(g:GwI w0 q u0 l par own nm N k j at_ lj parj nmj frj W){s:List Nat}{fr1:Nat}(hk:k+j<N.length)(hs:sfx N (k+j+1)=s::sfx N (k+j))(hx:x∉lj)(hx0:x≠0)(hp:at_≠x)(h0:own x=0)
  (h:CP w0 q u0 (lj++ [x]) (up parj x at_) (ownG (ownP own at_) x at_) (up nmj x (s::nmj at_)) fr1 W'):GwI w0 q u0 l par own nm N k (j+1) x (lj++ [x]) (up parj x at_) (up nmj x (s::nmj at_)) fr1 W':=by
 have hxm:x∈lj++ [x] :=List.mem_append_right _ (List.mem_singleton.2 rfl);have hxl:x∉l:=fun hm=>hx (g.sub x hm);have hnx:up nmj x (s::nmj at_) x=sfx N (k+j+1):=by rw[zaa,g.ew,hs]
 have hpy:∀y∈lj,parj y≠x:=fun y hy e=>by
  rcases g.cp.up hy with k|k
  ·exact hx0 (e.symm.trans k)
  ·exact hx (by rw[←e];exact k)
 have hcp:CP w0 q u0 (lj++ [x]) (up parj x at_) (ownP own x) (up nmj x (s::nmj at_)) fr1 W':=h.congr (fun _ _=>rfl) (fun y=> ?_) (fun _ _=>rfl)
 ·refine⟨hcp,.inr hxm,hnx,?_,fun y hy=> ?_,fun y hy=> ?_,by rw[List.length_append,g.len];rfl,fun y hy hyl=> ?_,fun hlt y hy e=> ?_⟩
  ·
   have hr:Rem own (up parj x at_) (lj++ [x]) ((lj++ [x]).erase x):= .step (.refl _) hxm h0 (fun z hz=>by
    rcases List.mem_append.1 hz with k|k
    ·rw[zac _ _ (fun e=>hx (by rw[←e];exact k))];exact hpy z k
    ·rw[List.mem_singleton]at k
     subst k;rw[zaa];exact hp)
   have he:(lj++ [x]).erase x=lj:=by rw[List.erase_append_right _ hx];simp
   rw[he]at hr;refine hr.trans ?_
   have hcg:∀(m:List Nat),Rem own parj lj m→Rem own (up parj x at_) lj m:=fun m hm=>by
    have:=Rem.congr (own:=own) (par:=up parj x at_) (par':=parj) hm (fun z hz=>(zac _ _ (fun e=>hx (by rw[←e];exact hz))).symm);exact this
   exact hcg _ g.rem
  ·rw[zac _ _ (fun e=>hxl (by rw[←e];exact hy))];exact g.pa y hy
  ·have hyx:y≠x:=fun e=>by
    rcases hy with k|k
    ·exact hx0 (e.symm.trans k)
    ·exact hxl (by rw[←e];exact k)
   rw[zac _ _ hyx];exact g.na y hy
  ·rcases List.mem_append.1 hy with m|m
   ·rw[zac _ _ (fun e=>hx (by rw[←e];exact m))]
    exact g.sf y m hyl
   ·rw[List.mem_singleton]at m
    subst m;rw[hnx];obtain⟨t,ht⟩:=zvs (N:=N) (show k+j+1≤N.length from hk) (Nat.le_refl _);rw[zp8]at ht;exact⟨t,ht⟩
  ·rcases List.mem_append.1 hy with m|m
   ·rw[zac _ _ (fun e=>hx (by rw[←e];exact m))]at e
    obtain⟨a,ea⟩:=zsu hlt;rw[show k+(j+1)+1=k+j+1+1 by omega,show k+(j+1)=k+j+1 by omega]at*;obtain⟨z,hz,ez⟩:=g.cp.suf (.inr m) (s:= [a]) (t:=sfx N (k+j+1)) (by rw[e,ea];rfl)
    have hzl:z∈lj:=hz.resolve_left (fun e0=>by
     rw[e0,g.cp.z,hs]at ez;cases ez)
    exact g.no hk z hzl ez
   ·rw[List.mem_singleton]at m
    subst m;rw[hnx]at e;have:=congrArg List.length e;rw[zed (by omega),zed (by omega)]at this;omega
 ·
  by_cases ha:at_=0
  ·subst ha
   unfold ownG;rw[if_pos rfl];by_cases e:y=x
   ·subst e
    rw[zaa,zbe _ hx0,h0]
   ·rw[zac _ _ e,zbr _ e]
    unfold ownP;rw[if_pos rfl]
  ·unfold ownG
   rw[if_neg ha];by_cases e:y=x
   ·subst e
    rw[zac _ _ (fun e=>hp e.symm),zaa,zbe _ hx0,h0]
   ·by_cases e2:y=at_
    ·subst e2
     rw[zaa,zbe _ ha,zbr _ e];omega
    ·rw[zac _ _ e2,zac _ _ e,zbr _ e,zbr _ e2]
theorem GwI.undo(g:GwI w0 q u0 l par own nm N k j at_ lj parj nmj frj W)(hF:Firm own par l)(hat:at_≠0){l1:List Nat}{fr1:Nat}(h1:CP w0 q u0 l1 parj (up (ownP own at_) at_ (own at_)) nmj fr1 W')(h2:Rem (up (ownP own at_) at_ (own at_)) parj lj l1):CP w0 q u0 l par own nm fr1 W':=by
 have eo:up (ownP own at_) at_ (own at_)=own:=funext fun y=>by
  by_cases e:y=at_
  ·rw[e,zaa]
  ·rw[zac _ _ e,zbr _ e]
 rw[eo]at h1 h2
 have hF':Firm own parj l:=fun y hy h0=>by
  obtain⟨z,hz,e⟩:=hF y hy h0;exact⟨z,hz,by rw[g.pa z hz];exact e⟩
 have hl:l1=l:=h2.uniq g.rem h1.firm hF' g.cp.nd;subst hl;exact h1.congr (fun y hy=>(g.pa y hy).symm) (fun _=>rfl) (fun y hy=>(g.na y hy).symm)
end
section
end
end Go.Proofs.YtolhkhdbgnciiaaGreatDoor
