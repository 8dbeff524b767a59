/- Several texts in one. -/
import Derived.Test.YtghllbkjghnmhaaGreatDoorMO
namespace Go.Proofs.YtghllbkjghnmhaaGreatDoor
open _root_.Go.Proofs.Tryz
open Go.Lib (hid)
open Go.IntWalk (i64_in)
set_option linter.unusedVariables false
set_option linter.unusedSimpArgs false
open Go.RowKit
set_option maxRecDepth 1000000
set_option maxHeartbeats 4000000
section
open Go.RowKit Go.Shelf
attribute [local go_sem] Oper.semAt_some
section
variable{w0 w W:World}{q:MH}{u0:EW}{l:List Nat}{par refs own:Nat→Nat}{B:Nat→List Nat}{nm:Nat→List (List Nat)}{fr a:Nat}
theorem cis0(h:CP w0 q u0 l par own nm fr w):Calls prog 247 #[q,(0:Int)] w (zR (0:Int) fun w'=>CP w0 q u0 l par own nm fr w'∧Fr q.blocks w w'):=by
 have HC:=(show∃a s:Nat,(7≤a)∧Hid (Calls prog 78 #[q] w (zN (cfgV a s) w))from by
  obtain⟨refs,B,⟨S,LL,u,E,B0,g,_⟩,_⟩:=h;have ha:=g.wb.h.m.ok.cfg.a1;exact⟨u.a,u.s,ha,hid (zgy g.wb.h.m)⟩)
 obtain⟨a0,s0,ha0,HC⟩:=HC;have hE:=zpn a0 s0 ha0;unfold cfgV at HC;clear ha0;go_in;go_wp2_with fail;go_call HC.out as e w1 ⟨rfl,f1⟩;go_wp2;go_ret;exact⟨rfl,h.fr0 f1,f1.nil⟩
theorem z0f(n:Nat)(hn:1≤n)(q:MH)(Be:Nat):zbu (α:=Nat×List Nat) Fence.wide n prog 302 #[.pointer (some ⟨Be,0,none⟩)] (fun y=> #[.int .i64 y.1,.string (za0 y.2)]) (fun W=>Blk W Be 260 #[q,(0:Int)]) (fun A B=>Fr [] A B) (fun _ _=>False) (fun xs=>xs= []) (fun _=>False):=by
 intro lo J Jx W hJM hJS hXS hY h0;refine callsIn_of_wp func302 rfl trivial ?_ rfl;simp only[ntmps302,List.size_toArray,List.length_cons,List.length_nil,Nat.reduceAdd,Nat.reduceSub,Array.replicate_succ,Array.replicate_zero,List.push_toArray,List.append_toArray,List.nil_append,List.cons_append];have HJM:=hid hJM;clear hJM hJS hXS hY;gi_wp2_with fail;gi_loopw [3,4] (fun u v wr=>Hid (J [] wr)) (fun _ _ wr=>0);case atStart=>exact h0
 case round=>
  have HJ:=hrel;have hB:=HJM.out _ _ HJ.out;have c0:=hB.cell 0;have c1:=hB.cell 1;simp at c0 c1;clear hB h0;gi_wp2_with fail;go_end0;exact⟨⟨_,rfl⟩,.inl ⟨[],rfl,HJ.out⟩⟩
theorem z0g(n:Nat)(hn:4≤n)(h:CP w0 q u0 l par own nm fr w):CallsIn Fence.wide n prog 139 #[.pointer (some ⟨q.m,0,none⟩),.int .i64 0] w (zR (.tuple #[.slice none 0 0,(0:Int)]) fun w'=>CP w0 q u0 l par own nm fr w'∧Fr q.blocks w w'):=by
 have h1:1≤n:=by omega
 have HI:=hid (cis0 h)
 clear h
 refine callsIn_of_wp_marks func139 rfl trivial ?_ rfl
 simp only[ntmps139,List.size_toArray,List.length_cons,List.length_nil,Nat.reduceAdd,Nat.reduceSub,Array.replicate_succ,Array.replicate_zero,List.push_toArray,List.append_toArray,List.nil_append,List.cons_append]
 gi_wp2_with (first|(refine⟨trivial,?_⟩;gi_at_call 247;refine(callsIn_wide.2 HI.out).mono ?_;rintro e w1 ⟨rfl,h1',f1'⟩;have H1:=hid h1';have F1:=hid f1';clear h1' f1')|(refine⟨trivial,?_⟩;gi_at_call 248;refine(z0b _ 0 _).mono ?_;rintro e w' ⟨rfl,rfl⟩)|fail)
 obtain⟨W0,hW0⟩: ∃W0,((w1.alloc (.cells #[.slice none 0 0] 31)).alloc (.cells #[q,(0:Int)] 260))=W0:=⟨_,rfl⟩
 have bL:Blk W0 w1.heap.size 31 #[.slice none 0 0] :=by rw[←hW0];exact(Blk.new w1 _ _).alloc _
 have bE:Blk W0 (w1.heap.size+1) 260 #[q,(0:Int)] :=by
  rw[←hW0]
  have:=Blk.new (w1.alloc (.cells #[.slice none 0 0] 31)) 260 #[.pointer (some ⟨q.m,0,none⟩),.int .i64 0]
  rwa[World.size_alloc]at this
 have f0:Fr [] w1 W0:=by rw[←hW0];exact((Fr.refl _ w1).alloc _).alloc _
 have hz:W0.heap.size=w1.heap.size+2:=by rw[←hW0];simp
 have hT0:=H1.fr0 f0
 have OK1:=H1.bok
 have hwl:w.heap.size≤w1.heap.size:=F1.size
 have fr0':Fr q.blocks w W0:=F1.trans f0.nil
 rw[hW0]
 clear hW0 f0 H1 F1
 generalize w1.heap.size=Lb at*
 have hnb: ∀k,k<W0.heap.size→k∉ [W0.heap.size,W0.heap.size+1] :=fun k hk hm=>by simp at hm;omega
 have hmem: ∀k∈ [W0.heap.size,W0.heap.size+1],k∈q.blocks∨w.heap.size≤k:=fun k hk=>by simp at hk;exact .inr (by omega)
 refine zbv rfl h1 (gf:=302) (lb:= #[.pointer (some ⟨Lb+1,0,none⟩)]) rfl trivial (enters_of func302 (by kernel_rfl) rfl)
  (z0f (n-1) (by omega) q (Lb+1)) (fun _=>rfl)
  (fun A B hA hM hs=>⟨hs.keep2 hA ⟨by simp,by simp⟩,hs.size⟩)
  (fun pre W=>CP w0 q u0 l par own nm fr W∧Fr q.blocks w W∧Blk W Lb 31 #[.slice none 0 0] ∧Blk W (Lb+1) 260 #[q,(0:Int)])
  (fun _ _ _=>False)
  (fun s A hh=>hh.2.2.2) (fun cd s A hh=>hh.elim)
  (fun s A B ⟨hM,hF,hL,hE⟩ hf=>⟨hM.frL OK1 hf (fun k hk=>by simp at hk;omega),hF.step hf hmem,hL.fr hf (hnb _ (by omega)),hE.fr hf (hnb _ (by omega))⟩) (fun cd s A B hh _=>hh.elim)
  (fun s A B ⟨hM,hF,hL,hE⟩ hf=>⟨hM.fr0 hf,hF.trans hf.nil,hL.fr hf (by simp),hE.fr hf (by simp)⟩) (fun cd s A B hh _=>hh.elim) ⟨hT0,fr0',bL,bE⟩
  (fun _ _ _=>True) (fun y a' A B hh _=>hh) ?assign (fun lo pre y a' W hW hf=>hf.elim) ?done (fun D cd pre W hD hf=>hf.elim)
 case assign=>
  rintro lo pre y W K hW hi hK
  have HI2:=hid hi
  clear hi bL bE fr0' hT0 hnb hmem hz
  generalize za0 y.2=S at*
  gi_wp2
  exact hK {tmps:= #[.pointer (some ⟨q.m,0,none⟩),.int .i64 0,undef,undef,.slice none 0 0,.int .i64 0,.int .i64 0,.pointer (some ⟨Lb,0,none⟩),undef,.string S,.pointer (some ⟨q.m,0,none⟩),.int .i64 0,.int .i64 0,.int .i64 0,.bool false,undef,.pointer (some ⟨q.m,0,none⟩),.int .i64 0,.agg #[q,(0:Int)],.func (.func 302) #[] #[.pointer (some ⟨Lb+1,0,none⟩)],.int .i64 y.1,.string S,undef,undef,undef,undef,undef,undef],defers:= []} _ (Keep2.refl _ _) HI2.out trivial
 case done=>
  rintro D xs W hD-⟨hM,hF,hL,-⟩ hK
  have hc1:=hL.cell 0
  simp at hc1
  have hfp:Fr [D] W (W.putObj D (.deferred none)):=Fr.putObj _ _ (by simp)
  have HE:=hid (show CP w0 q u0 l par own nm fr (W.putObj D (.deferred none))∧Fr q.blocks w (W.putObj D (.deferred none))from⟨hM.frL OK1 hfp (fun k hk=>by simp at hk;subst hk;omega),hF.step hfp (fun k hk=>by simp at hk;subst hk;exact .inr (by omega))⟩)
  clear hfp hM hF hL
  gi_wp2_with (first|(refine⟨trivial,?_⟩;gi_at_call 249;refine(z0c _ none 0 0 _ (Nat.le_refl _) (fun _=>rfl)).mono ?_;rintro e w' ⟨rfl,he⟩;rw[he];clear he)|fail)
  refine⟨by simp,.inl ⟨_,_,rfl,run_takeDeferred (w:=W) hK,?_⟩⟩
  refine⟨_,results_tmp2 rfl _ _ _,?_,HE.out⟩
  rfl
theorem z0h(h:CP w0 q u0 l par own nm fr w):Calls prog 139 #[q,(0:Int)] w (zR (.tuple #[.slice none 0 0,(0:Int)]) fun w'=>CP w0 q u0 l par own nm fr w'∧Fr q.blocks w w'):=
 callsIn_wide.1 (z0g 4 (Nat.le_refl _) h)
end
end
theorem z0i{α:Type}{N:List α}{k:Nat}(h:k<N.length):∃a,sfx N (k+1)=a::sfx N k:=⟨_,zzh h⟩
section
variable{w0 W W':World}{q:MH}{u0:EW}{l:List Nat}{par refs own:Nat→Nat}{B:Nat→List Nat}{nm:Nat→List (List Nat)}{fr x a:Nat}{N:List (List Nat)}{k j at_:Nat}
theorem CP.congr{par' own':Nat→Nat}{nm':Nat→List (List Nat)}(h:CP w0 q u0 l par own nm fr W)(hp:∀y∈l,par' y=par y)(ho:∀y,own' y=own y)(hn:∀y,y=0∨y∈l→nm' y=nm y):CP w0 q u0 l par' own' nm' fr W:=by
 obtain rfl:own'=own:=funext ho;obtain⟨refs,B,h1,h2,h3,h4,h5⟩:=h;have hup:=fun y hy=>h1.up (x:=y) hy;obtain⟨S,L,u,E,B0,g,ha,hrt,r,hf⟩:=h1;refine⟨refs,B,⟨S,L,u,E,B0,g,ha,hrt,fun y hy=>⟨by rw[hp y hy];exact(r y hy).1,(r y hy).2⟩,hf⟩,⟨by rw[hn 0 (.inl rfl)];exact h2.z,fun y hy=> ?_⟩,fun y hy=> ?_,fun y hy h0=> ?_,h5⟩
 ·rw[hn y (.inr hy),hp y hy,hn _ (hup y hy)]
  exact h2.s y hy
 ·rw[zxe hp]
  exact h3 y hy
 ·obtain⟨z,hz,e⟩:=h4 y hy h0
  exact⟨z,hz,by rw[hp z hz];exact e⟩
structure GwI(w0:World)(q:MH)(u0:EW)(l:List Nat)(par own:Nat→Nat)(nm:Nat→List (List Nat))(N:List (List Nat))(k j at_:Nat)(lj:List Nat)(parj:Nat→Nat)(nmj:Nat→List (List Nat))(frj:Nat)(W:World):Prop where
 cp:CP w0 q u0 lj parj (ownP own at_) nmj frj W
 pl:at_=0∨at_∈lj
 ew:nmj at_=sfx N (k+j)
 rem:Rem own parj lj l
 pa: ∀y∈l,parj y=par y
 na: ∀y,y=0∨y∈l→nmj y=nm y
 len:lj.length=l.length+j
 sf: ∀y∈lj,y∉l→ ∃s,N=s++nmj y
 no:k+j<N.length→ ∀y∈lj,nmj y≠sfx N (k+j+1)
theorem GwI.start(h:CP w0 q u0 l par (ownP own at_) nm fr W)(g:Kn l nm N at_ k):GwI w0 q u0 l par own nm N k 0 at_ l par nm fr W:=
 ⟨h,g.pl,g.ew,.refl l,fun _ _=>rfl,fun _ _=>rfl,rfl,fun _ hy hn=>absurd hy hn,g.no⟩
theorem z0j(own:Nat→Nat){x:Nat}(hx:x≠0):ownP own x x=own x+1:=by unfold ownP;rw[if_neg hx,zf1]
theorem z0k(own:Nat→Nat){x y:Nat}(h:y≠x):ownP own x y=own y:=by
 unfold ownP;split
 ·rfl
 ·rw[zf2 _ _ h]
theorem z0l(own:Nat→Nat)(x y:Nat):ownP own x y≤own y+1:=by
 by_cases e:y=x
 ·subst e
  by_cases h:y=0
  ·unfold ownP;rw[if_pos h];omega
  ·rw[z0j _ h];exact Nat.le_refl _
 ·rw[z0k _ e];omega
theorem z0m(own:Nat→Nat)(x y:Nat):own y≤ownP own x y:=by
 by_cases e:y=x
 ·subst e
  by_cases h:y=0
  ·unfold ownP;rw[if_pos h];exact Nat.le_refl _
  ·rw[z0j _ h];omega
 ·rw[z0k _ e];exact Nat.le_refl _
variable{lj:List Nat}{parj:Nat→Nat}{nmj:Nat→List (List Nat)}{frj:Nat}
theorem GwI.sub(g:GwI w0 q u0 l par own nm N k j at_ lj parj nmj frj W):∀y∈l,y∈lj:=fun y hy=>g.rem.sub.subset hy
theorem GwI.next(g:GwI w0 q u0 l par own nm N k j at_ lj parj nmj frj W){s:List Nat}{fr1:Nat}(hk:k+j<N.length)(hs:sfx N (k+j+1)=s::sfx N (k+j))(hx:x∉lj)(hx0:x≠0)(hp:at_≠x)(h0:own x=0)
  (h:CP w0 q u0 (lj++ [x]) (up parj x at_) (ownG (ownP own at_) x at_) (up nmj x (s::nmj at_)) fr1 W'):GwI w0 q u0 l par own nm N k (j+1) x (lj++ [x]) (up parj x at_) (up nmj x (s::nmj at_)) fr1 W':=by
 have hxm:x∈lj++ [x] :=List.mem_append_right _ (List.mem_singleton.2 rfl);have hxl:x∉l:=fun hm=>hx (g.sub x hm);have hnx:up nmj x (s::nmj at_) x=sfx N (k+j+1):=by rw[zf1,g.ew,hs]
 have hpy:∀y∈lj,parj y≠x:=fun y hy e=>by
  rcases g.cp.up hy with k|k
  ·exact hx0 (e.symm.trans k)
  ·exact hx (by rw[←e];exact k)
 have hcp:CP w0 q u0 (lj++ [x]) (up parj x at_) (ownP own x) (up nmj x (s::nmj at_)) fr1 W':=h.congr (fun _ _=>rfl) (fun y=> ?_) (fun _ _=>rfl)
 ·refine⟨hcp,.inr hxm,hnx,?_,fun y hy=> ?_,fun y hy=> ?_,by rw[List.length_append,g.len];rfl,fun y hy hyl=> ?_,fun hlt y hy e=> ?_⟩
  ·
   have hr:Rem own (up parj x at_) (lj++ [x]) ((lj++ [x]).erase x):= .step (.refl _) hxm h0 (fun z hz=>by
    rcases List.mem_append.1 hz with k|k
    ·rw[zf2 _ _ (fun e=>hx (by rw[←e];exact k))];exact hpy z k
    ·rw[List.mem_singleton]at k
     subst k;rw[zf1];exact hp)
   have he:(lj++ [x]).erase x=lj:=by rw[List.erase_append_right _ hx];simp
   rw[he]at hr;refine hr.trans ?_
   have hcg:∀(m:List Nat),Rem own parj lj m→Rem own (up parj x at_) lj m:=fun m hm=>by
    have:=Rem.congr (own:=own) (par:=up parj x at_) (par':=parj) hm (fun z hz=>(zf2 _ _ (fun e=>hx (by rw[←e];exact hz))).symm);exact this
   exact hcg _ g.rem
  ·rw[zf2 _ _ (fun e=>hxl (by rw[←e];exact hy))];exact g.pa y hy
  ·have hyx:y≠x:=fun e=>by
    rcases hy with k|k
    ·exact hx0 (e.symm.trans k)
    ·exact hxl (by rw[←e];exact k)
   rw[zf2 _ _ hyx];exact g.na y hy
  ·rcases List.mem_append.1 hy with m|m
   ·rw[zf2 _ _ (fun e=>hx (by rw[←e];exact m))]
    exact g.sf y m hyl
   ·rw[List.mem_singleton]at m
    subst m;rw[hnx];obtain⟨t,ht⟩:=zzi (N:=N) (show k+j+1≤N.length from hk) (Nat.le_refl _);rw[zzf]at ht;exact⟨t,ht⟩
  ·rcases List.mem_append.1 hy with m|m
   ·rw[zf2 _ _ (fun e=>hx (by rw[←e];exact m))]at e
    obtain⟨a,ea⟩:=z0i hlt;rw[show k+(j+1)+1=k+j+1+1 by omega,show k+(j+1)=k+j+1 by omega]at*;obtain⟨z,hz,ez⟩:=g.cp.suf (.inr m) (s:= [a]) (t:=sfx N (k+j+1)) (by rw[e,ea];rfl)
    have hzl:z∈lj:=hz.resolve_left (fun e0=>by
     rw[e0,g.cp.z,hs]at ez;cases ez)
    exact g.no hk z hzl ez
   ·rw[List.mem_singleton]at m
    subst m;rw[hnx]at e;have:=congrArg List.length e;rw[zzg (by omega),zzg (by omega)]at this;omega
 ·
  by_cases ha:at_=0
  ·subst ha
   unfold ownG;rw[if_pos rfl];by_cases e:y=x
   ·subst e
    rw[zf1,z0j _ hx0,h0]
   ·rw[zf2 _ _ e,z0k _ e]
    unfold ownP;rw[if_pos rfl]
  ·unfold ownG
   rw[if_neg ha];by_cases e:y=x
   ·subst e
    rw[zf2 _ _ (fun e=>hp e.symm),zf1,z0j _ hx0,h0]
   ·by_cases e2:y=at_
    ·subst e2
     rw[zf1,z0j _ ha,z0k _ e];omega
    ·rw[zf2 _ _ e2,zf2 _ _ e,z0k _ e,z0k _ e2]
theorem GwI.undo(g:GwI w0 q u0 l par own nm N k j at_ lj parj nmj frj W)(hF:Firm own par l)(hat:at_≠0){l1:List Nat}{fr1:Nat}(h1:CP w0 q u0 l1 parj (up (ownP own at_) at_ (own at_)) nmj fr1 W')(h2:Rem (up (ownP own at_) at_ (own at_)) parj lj l1):CP w0 q u0 l par own nm fr1 W':=by
 have eo:up (ownP own at_) at_ (own at_)=own:=funext fun y=>by
  by_cases e:y=at_
  ·rw[e,zf1]
  ·rw[zf2 _ _ e,z0k _ e]
 rw[eo]at h1 h2
 have hF':Firm own parj l:=fun y hy h0=>by
  obtain⟨z,hz,e⟩:=hF y hy h0;exact⟨z,hz,by rw[g.pa z hz];exact e⟩
 have hl:l1=l:=h2.uniq g.rem h1.firm hF' g.cp.nd;subst hl;exact h1.congr (fun y hy=>(g.pa y hy).symm) (fun _=>rfl) (fun y hy=>(g.na y hy).symm)
end
theorem z0n{w:World}{ops:Array Oper}{rest:List Oper}{o:Oper}{a:Act}{Q:Exit→Act→World→Prop}(hgd:o.guard=none)(s x:Operand)(ho:o.op= .call {callee:= .builtin .append,args:= #[s,x],argTypes:= #[31,31]})(hty:o.type=31)
  (base:Nat) (v:Value) (l:List (List Nat)) (hs:a.eval s=v) (y:List Nat) (W0:World) (hW:w=W0.alloc (.cells #[.string (za0 y)] 9)) (hown:W0.ownsRow base 9 1 v l.length (strC l)) (hx:a.eval x= .slice (some ⟨W0.heap.size,0,none⟩) 1 1)
  (hl:l.length≤1048576) (hbase:base≤W0.heap.size)
  (h: ∀g cap w',w'.ownsRow base 9 1 (.slice (some ⟨g,0,none⟩) (l.length+1) cap) (l++ [y]).length (strC (l++ [y]))→Fr (ownS v) W0 w'→(v.ownBlock=some g∨g=W0.heap.size+1)→wpList prog ops Q rest (a.put o.dst (.slice (some ⟨g,0,none⟩) (l.length+1) cap)) w'):wpList prog ops Q (o::rest) a w:=by
 subst hW
 obtain⟨i0,hi,hz0,hz1,hz2⟩:=info_parts zz8
 refine wpList_plain hgd fun K hK=> ?_
 obtain⟨v',w',hrun,h2,h3,_,h5⟩:=run_append_own_at (P:=prog) (W0.alloc (.cells #[.string (za0 y)] 9)) base 31 31 9 i0 (.string ⟨#[]⟩) 1 16 underlying31 hi hz0 hz1 hz2 rfl (by decide) v l.length (strC l) (hown.alloc _) ⟨W0.heap.size,0,none⟩ 1 1 [.string (za0 y)] (by simp) (zhx _ _ _) (by simp[Value.oneCell']) (by unfold maxLen;omega) (by omega) (by simp;omega)
 have h2':w'.ownsRow base 9 1 v' (l++ [y]).length (strC (l++ [y])):=by rw[List.length_append,List.length_singleton,show strC (l++ [y])=strC l++ [.string (za0 y)]by simp[strC]];exact h2
 obtain⟨g,cap,rfl⟩:=ownsRow_succ h2
 have hK':=hK _ _ (h g cap w' h2' (zhw h3) (by
  rw[World.size_alloc]at h5
  rcases h5 with h5|h5
  ·exact .inl h5.symm
  ·exact .inr (Option.some.inj h5)))
 unfold Oper.wp execOp
 simp only[ho,hty,resolve,invoke,builtin,Sem.run_bind,Sem.run_pure,Result.andThen_ok,List.map_toArray,List.map_cons,List.map_nil,hs,hx,hrun]
 exact hK'
section
variable{w W:World}
def Few4(L:List (List Nat))(most bytes:Nat)(w:World)(e:Ending)(w':World):Prop:= ∃b,e= .returned (.bool b)∧Fr [] w w'∧(b=true→L.length≤most∧zzj L≤1+L.length+bytes)
theorem few4(w:World)(ad:Option Addr)(cap:Nat)(L:List (List Nat))(h:StrA w ad L)(most bytes:Nat)(hm:most≤100000)(hb:bytes≤90000):Calls prog 15 #[.slice ad L.length cap,most,bytes] w (Few4 L most bytes w):=by
 have hle:=h.len;obtain⟨n,hn⟩:∃n,L.length=n:=⟨_,rfl⟩;have HX:=hid (fun k s (hs:L[k]?=some s)=>zzm L k s 1 hs);have HZ:=hid (show(L.take 0).foldl (fun n s=>n+(s.length+1)) 1=1 from rfl);have HF:=hid (show(L.take n).foldl (fun n s=>n+(s.length+1)) 1=zzj L from by rw[←hn,List.take_length];rfl);obtain⟨M,hM⟩:∃M:Nat→Nat,(fun k=>(L.take k).foldl (fun n s=>n+(s.length+1)) 1)=M:=⟨_,rfl⟩;have hM':∀k,(L.take k).foldl (fun n s=>n+(s.length+1)) 1=M k:=fun k=>by rw[←hM]
 simp only[hM']at HX HZ HF;rw[hn];rw[hn]at hle;have HN:=hid hn;clear hn hM hM';go_in;go_wp2;go_loopg [7,8] (n+1) (fun gk v7 v8 W=>∃(s i:Nat),v7= .int .i64 s∧v8= .int .i64 i∧(i+gk=n+1∧i≤n)∧s≤bytes+99999∧Hid (s≤bytes→M i=1+i+s)∧w=W);case atStart=>exact⟨0,0,rfl,rfl,by omega,by omega,hid (fun _=>HZ.out),rfl⟩
 case round=>
  obtain⟨s,i,rfl,rfl,hi,hs,HS,rfl⟩:=hrel;obtain⟨b9,h9⟩:∃b9,decide ((n:Int)≤most)=b9:=⟨_,rfl⟩;have h9':decide (n≤most)=b9:=by rw[←h9];exact decide_eq_decide.2 (by omega)
  by_cases hsb:s≤bytes
  ·have b7':=dT (s≤bytes)
   by_cases hlt:i<n
   ·have b6':=dT (i<n)
    have hL:i<L.length:=by rw[HN.out];exact hlt
    obtain⟨g,o,rfl,hc,hg⟩:=h.at_ i hL;have hgd:L[i]?=some L[i] :=List.getElem?_eq_getElem hL;rw[hgd]at hc;simp only[Option.getD_some]at hc;have hx:=HX.out i _ hgd;generalize L[i]'hL=t at*;have hsz:=zu1 t;generalize hk:t.length=k at hx hsz;have HXk:=hid hx;obtain⟨mn,hmn⟩:∃mn:Nat,min (k:Int) 99999=mn:=⟨min k 99999,by omega⟩;have hmn2:mn≤99999∧(mn≤90000→mn=k):=by omega
    have i0:(0:Int)≤i:=by omega
    have i1:(i:Int)<n:=by omega
    have ws:IntKind.i64.wrap ((s:Int)+mn)=((s+mn:Nat):Int):=by rw[i6 _];push_cast;rfl
    have wi:=i6 ((i:Int)+1);generalize za0 t=S at*;clear hk hgd hL hx;go_wp2;go_roundg (gk-1);case measure=>omega
    case rel=>exact⟨s+mn,i+1,rfl,by go_num,by omega,by omega,hid (fun hb2=>by
     have h1:=HS.out hsb;have h2:=hmn2.2 (by omega);rw[HXk.out,h1,h2];omega),rfl⟩
   ·obtain rfl:i=n:=by omega
    have b6':=dF (i<i)
    have HR:=hid (show b9=true→L.length≤most∧zzj L≤1+L.length+bytes from fun h=>by
     rw[h]at h9';have h1:=HS.out hsb;rw[HF.out]at h1;exact⟨by rw[HN.out];exact of_decide_eq_true h9',by rw[HN.out];omega⟩)
    cases b9 with
    |true=>
     go_wp2;go_ret;exact⟨_,rfl,Fr.refl _ _,fun _=>by first|exact HR.out|exact HR.out trivial|exact HR.out rfl⟩
    |false=>
     go_wp2;go_ret;exact⟨_,rfl,Fr.refl _ _,fun h=>by cases h⟩
  ·have b7':=dF (s≤bytes)
   obtain⟨b6,h6⟩:∃b6,decide ((i:Int)<n)=b6:=⟨_,rfl⟩;have h6':decide (i<n)=b6:=by rw[←h6];exact decide_eq_decide.2 (by omega)
   cases b6<;>cases b9<;>(go_wp2_with fail;go_ret;exact⟨_,rfl,Fr.refl _ _,fun h=>by cases h⟩)
end
def EW.del(g:EW)(A C:List Nat)(x:Nat):EW:=⟨g.t,A++C,if g.b=x then(C++A).headD 0 else g.b,g.d,g.p⟩
section
variable{w0 W:World}{q:MH}{S S':SS}{x y n b c name k fr:Nat}{u v:TM}{L:Nat→Prop}{E E':Nat→HB}{B:Nat→List Nat}{A C R l:List Nat}{X:HB}{g:EW}{par refs own:Nat→Nat}{nm:Nat→List (List Nat)}
theorem z0o(h:CPT w0 q g l par own nm x c W):Calls prog 58 #[q,x] W (zR (0:Int) fun w'=>Fr q.blocks W w'∧∃fr,CP w0 q g l par own nm fr w'):=by
 obtain⟨refs,B,h1,kn,h3⟩:=h;have hxl:=h1.ne;obtain⟨S,L,u,E,B0,gi,hfx,ha,hd,r⟩:=h1;refine(zwh gi.wb hfx.lv (fun i hi e=>hfx.no ((gi.inx x hxl.2.1).1 ⟨i,hi,e⟩))).mono fun e w' ⟨h1,h2,S',v,h4,h5,h6⟩=>⟨h1,h2,_,refs,B,⟨S',L,v,E,B0,?_,⟨fun y m hy=> ?_,ha.2⟩,hd.to (RtQ.sla h4) (fun _ _=>⟨rfl,rfl⟩),r,rfl⟩,kn,h3⟩
 ·have hL:(fun y=>L y∧y≠x)=L:=by
   funext y;exact propext ⟨fun k=>k.1,fun k=>⟨k,fun e=>hfx.no (e▸k)⟩⟩
  rw[hL]at h5;exact gi.re h5 (fun y=>⟨rfl,rfl,rfl⟩) h4.sl (h4.rt 17 (.inr (by decide)))
 ·obtain⟨k1,k2⟩:=(h6 y m).1 hy
  exact(ha.1 y m k1).resolve_left k2
theorem z0p(h:CP w0 q g l par own nm fr W)(hR:g.R=A++x::C)(P:Ending→World→Prop)(hP:∀V fr',Fr q.blocks W V→CP w0 q (g.del A C x) l par own nm fr' V→Calls prog 59 #[q,.int .i64 (g.d x).name] V fun e w'=>∃n k:Int,e= .returned (.tuple #[n,k])∧P (.returned (.tuple #[n,k])) w'):Calls prog 26 #[q,x] W P:=by
 obtain⟨refs,B,⟨S,L,u,E,B0,gi,ha,hd,r,hfr⟩,kn,h3⟩:=h;have hxR:x∈g.R:=by rw[hR];simp
 have hRt:∀y∈g.R,L y∧(E y).tag=1:=fun y hy=>⟨(ha.2 y hy).1,by
  rcases(gi.wb.ix.e y (ha.2 y hy).1).tg with k|k
  ·exact k
  ·exact absurd ((gi.mem y).2 ⟨(ha.2 y hy).1,k⟩) (ha.2 y hy).2⟩
 have hr:RgI u (fun y=>y∈g.R) E g.R g.b:=gi.wb.rgI hRt (fun y hy=>hy) hd.nd hd.hand hd.broom hd.cnt hd.bin hd.bnil hd.cyc (fun y hy hn=>absurd hy hn);rw[hR]at hr;obtain⟨c,-,-,-,hlv,-⟩:=(gi.wb.ct x (hRt x hxR).1).n;have hx0:=(gi.wb.ne0 (hRt x hxR).1).1;have hxl:=(ha.2 x hxR).2;have hnm:(E x).name=(g.d x).name:=by rw[←(hd.dat x hxR).1];rfl
 have hn4:=(gi.wb.ix.e x (hRt x hxR).1).ok.name
 have hsub:∀y∈A++C,y∈g.R:=fun y hy=>by
  rw[hR,List.mem_append,List.mem_cons];rcases List.mem_append.1 hy with k3|k3
  ·exact .inl k3
  ·exact .inr (.inr k3)
 have HG:=hid (zyg (q:=q) (gi.wb.ix.e x (hRt x hxR).1) (hRt x hxR).2 W gi.wb.h)
 have HRr:=hid (fun V (hV:IsH V q u) (hf:Fr q.blocks W V)=>(show Calls prog 84 #[q,x] V (zR (0:Int) fun w'=>Fr q.blocks V w'∧∃v E',(WB w0 q S L v E' B0 w'∧RgI v (fun y=>y∈A++x::C) E' (A++C) (if g.b=x then(C++A).headD 0 else g.b)∧Nbr u v (fun y=>y∈A++x::C)∧∀y,cln (E' y)=cln (E y)))from by
  exact zy1 (gi.wb.same hV hf) hr (fun y hy=>(hRt y (by rw[hR];exact hy)).1)))
 have HDe:=hid (fun V v E' (k:WB w0 q S L v E' B0 V∧RgI v (fun y=>y∈A++x::C) E' (A++C) (if g.b=x then(C++A).headD 0 else g.b)∧Nbr u v (fun y=>y∈A++x::C)∧∀y,cln (E' y)=cln (E y))=>(show Calls prog 85 #[q,x] V (zR (0:Int) fun w'=>Fr q.blocks V w'∧∃T,WB w0 q S L (v.wsl T) E' B0 w'∧∀y,y≠0→(InT 224 T y↔InT 224 v.sl y∧y≠x))from
  zwn k.1 (hRt x hxR).1 (by rw[k.2.2.1.sl];exact(gi.inx x hx0).2 (hRt x hxR).1)))
 have HGv:=hid (fun V v E' (k:RgI v (fun y=>y∈A++x::C) E' (A++C) (if g.b=x then(C++A).headD 0 else g.b)∧Nbr u v (fun y=>y∈A++x::C)∧∀y,cln (E' y)=cln (E y)) T (hw:WB w0 q S L (v.wsl T) E' B0 V) (hT:∀y,y≠0→(InT 224 T y↔InT 224 v.sl y∧y≠x))=>(show Calls prog 58 #[q,x] V (zR (0:Int) fun w'=>Fr q.blocks V w'∧∃fr',CP w0 q (g.del A C x) l par own nm fr' w')from by
  refine(zwh hw hlv (fun i hi e=>((hT x hx0).1 ⟨i,hi,e⟩).2 rfl)).mono fun e w' ⟨h1,h2,S',v2,h4,h5,h6⟩=>⟨h1,h2,_,refs,B,⟨S',(fun y=>L y∧y≠x),v2,E',B0,?_,⟨fun y m hy=> ?_,fun y hy=> ?_⟩,?_,fun y hy=> ?_,rfl⟩,kn,h3⟩
  ·refine gi.delE h5 hxl (fun y=> ?_) ?_ (fun y hy=> ?_)
   ·have:=zyz (k.2.2 y)
    exact⟨this.1,this.2.2.2.2.1,this.2.2.2.2.2.2.2.2.2⟩
   ·rw[h4.rt 17 (.inr (by decide))]
    exact k.2.1.rt 17 (.inr (by decide))
   ·rw[h4.sl,←k.2.1.sl]
    exact hT y hy
  ·obtain⟨k1,k2⟩:=(h6 y m).1 hy
   rcases ha.1 y m k1 with k3|k3
   ·exact .inl k3
   ·rw[hR,List.mem_append,List.mem_cons]at k3
    rcases k3 with k3|k3|k3
    ·exact .inr (List.mem_append_left _ k3)
    ·exact absurd k3 k2
    ·exact .inr (List.mem_append_right _ k3)
  ·have hy2:=hsub y hy
   refine⟨⟨(ha.2 y hy2).1,fun e=> ?_⟩,(ha.2 y hy2).2⟩;have hnd:=hd.nd;rw[hR,List.nodup_append]at hnd;rcases List.mem_append.1 hy with k3|k3
   ·exact hnd.2.2 y k3 x (by simp) e
   ·exact(List.nodup_cons.1 hnd.2.1).1 (e▸k3)
  ·have hrt:∀f,12<f→v2.rt f=v.rt f:=fun f hf=>h4.rt f (.inr hf)
   refine⟨fun f h1 h2=> ?_,(hrt 13 (by decide)).trans k.1.hand,(hrt 14 (by decide)).trans k.1.broom,(hrt 15 (by decide)).trans k.1.cnt,k.1.nd,k.1.bin,k.1.bnil,k.1.cyc,fun y hy=> ?_⟩
   ·have e1:v2.rt f=(v.wsl T).rt f:=h4.rt f (by omega)
    exact e1.trans ((k.2.1.rt f (by omega)).trans (hd.rtb f h1 h2))
   ·have hy2:=hsub y hy
    rw[k.2.2 y];exact hd.dat y hy2
  ·have:=zyz (k.2.2 y)
   rw[this.2.2.2.2.1,this.2.2.2.2.2.1];exact r y hy))
 have H0:=gi.wb.h;have wn:IntKind.i64.wrap ((E x).name:Int)=((E x).name:Int):=i6 _;have HP:=hid hP;rw[←hnm]at HP;clear hP;generalize E x=X at*;obtain⟨tag,cls,used,label,nm1,next,prev,rf,expiry,ty,size,hash⟩:=X;simp only at HG HP wn;clear hsub hRt hr hlv hx0 hxl hnm hn4 gi ha hd r hfr kn h3 hxR;go_in;go_wp2_with fail;go_call HG.out as e w1 ⟨rfl,k1,f1⟩;have K1:=k1.alloc;have F1:=f1.alloc;have A1:=Blk.new w1 124 #[.int .i64 tag,.int .i64 cls,.bool used,.int .i64 label,.int .u32 nm1,.int .u32 next,.int .u32 prev,.int .u32 rf,.int .u64 expiry,.int .u16 ty,.int .i64 size,.int .u32 hash,.pointer (some ⟨q.m,0,none⟩),.int .i64 x];have HNA:=hid (show w1.heap.size∉q.blocks from fun hm=>by have:=k1.m.lt _ hm;omega);clear k1 f1 HG H0;go_wp2_with fail;go_call HRr.out _ (K1 _) (F1 _) as e w2 ⟨rfl,f2,v2,E2,k2⟩;have K2:=hid k2;have F2:=(F1 _).trans f2;have A2:=A1.fr f2 HNA.out;clear k2 f2 HRr K1 F1 A1;go_wp2_with fail;go_call HDe.out _ v2 E2 K2.out as e w3 ⟨rfl,f3,T,k3,hT⟩;have K3:=hid (And.intro k3 hT);have F3:=F2.trans f3;have A3:=A2.fr f3 HNA.out;clear k3 hT f3 HDe F2 A2;go_wp2_with fail;go_call HGv.out _ v2 E2 K2.out.2 T K3.out.1 K3.out.2 as e w4 ⟨rfl,f4,fr4,k4⟩;have HD:=hid (HP.out w4 fr4 (F3.trans f4) k4);have dd:=(A3.fr f4 HNA.out).cell;clear k4 f4 HGv K2 K3 F3 A3;go_wp2_with fail;go_call HD.out as e w5 ⟨n5,k5,rfl,hP5⟩;go_wp2;exact hP5
end
section
variable{w0 W:World}{q:MH}{S:SS}{x y n b c name k fr:Nat}{u v:TM}{L:Nat→Prop}{E:Nat→HB}{B:Nat→List Nat}{R l:List Nat}{X:HB}{g:EW}{par refs own:Nat→Nat}{nm:Nat→List (List Nat)}
structure EnF(g:EW)(x:Nat)(X:HB)(q:MH)(u:TM):Prop where
 get:EGet q u x X (some ⟨q.m,0,none⟩) x 0
 cl:cln X=g.d x
 sz:X.size=((g.p x).length:Int)
 on:ByOn u (x+32) (g.p x).length (fun j=>(g.p x)[j]?.getD 0)
 lt: ∀y∈g.p x,y<256
 fit: ∃n,32+(g.p x).length≤n∧n %16=0∧x %16=0∧x+n≤zdw u.a u.s∧KdOn u x n 5
 nm:X.name<4294967296
theorem CP.en(h:CP w0 q g l par own nm fr W)(hx:x∈g.R):∃u X,IsH W q u∧EnF g x X q u∧(∀V,IsH V q u→Fr q.blocks W V→CP w0 q g l par own nm fr V)∧BlkE u x X∧X.tag=1∧u.ft=0∧zdv u.a u.s≤x:=by
 obtain⟨refs,B,⟨S,L,u,E,B0,gi,ha,hd,r,hfr⟩,kn,h3⟩:=h;have hL:=(ha.2 x hx).1
 have ht:(E x).tag=1:=by
  rcases(gi.wb.ix.e x hL).tg with k|k
  ·exact k
  ·exact absurd ((gi.mem x).2 ⟨hL,k⟩) (ha.2 x hx).2
 have ct:=gi.wb.ct x hL;obtain⟨c,_,_,_,hlv,hfit⟩:=ct.n;obtain⟨b1,b2,b3,b4,b5,b6,b7⟩:=gi.wb.at_ hlv;have hsz:sz (E x).tag.toNat=32:=by rw[ht];rfl
 have hon:=ct.on;rw[hsz]at hon hfit;have hp:=(hd.dat x hx).2;rw[hp]at hon hfit;refine⟨u,E x,gi.wb.h,⟨zyg (gi.wb.ix.e x hL) ht,(hd.dat x hx).1,by rw[←hp];exact ct.l1 ht,hon,by rw[←hp];exact ct.lt,⟨csz c,hfit,b3,b2,b6,b7⟩,(gi.wb.ix.e x hL).ok.name⟩,fun V hV hf=>⟨refs,B,⟨S,L,u,E,B0,gi.same hV hf,ha,hd,r,hfr⟩,kn,h3⟩,gi.wb.ix.e x hL,ht,gi.wb.ft,b1⟩
theorem z0q(h:CP w0 q g l par own nm fr W)(hx:x∈g.R):Calls prog 37 #[q,x] W (zR (.int .u64 (g.d x).expiry) fun w'=>CP w0 q g l par own nm fr w'∧Fr q.blocks W w'):=by
 obtain⟨u,X,hI,f,HM,-,-⟩:=h.en hx;refine(eend hI f.get).mono fun e w' ⟨h1,h2,h3⟩=>⟨?_,HM _ h2 h3,h3⟩;rw[h1,←f.cl];rfl
theorem z0r(h:CP w0 q g l par own nm fr W)(hx:x∈g.R):Calls prog 36 #[q,x] W (zR (.bool (g.d x).used) fun w'=>CP w0 q g l par own nm fr w'∧Fr q.blocks W w'):=by
 obtain⟨u,X,hI,f,HM,-,-⟩:=h.en hx;refine(zyi hI f.get).mono fun e w' ⟨h1,h2,h3⟩=>⟨?_,HM _ h2 h3,h3⟩;rw[h1,←f.cl];rfl
theorem z0s(h:CP w0 q g l par own nm fr W)(hx:x∈g.R):Calls prog 30 #[q,x] W (zR (.int .i64 (g.d x).name) fun w'=>CP w0 q g l par own nm fr w'∧Fr q.blocks W w'):=by
 obtain⟨u,X,hI,f,HM,-,-⟩:=h.en hx;refine(zyj hI f.get f.nm).mono fun e w' ⟨h1,h2,h3⟩=>⟨?_,HM _ h2 h3,h3⟩;rw[h1,←f.cl];rfl
theorem z0t(h:CP w0 q g l par own nm fr W):Calls prog 43 #[q] W fun e w'=>∃v,e= .returned v∧Rw w' W.heap.size v g.R∧CP w0 q g l par own nm fr w'∧Fr q.blocks W w':=by
 obtain⟨refs,B,⟨S,L,u,E,B0,gi,ha,hd,r,hfr⟩,kn,h3⟩:=h
 have hRt:∀y∈g.R,L y∧(E y).tag=1:=fun y hy=>⟨(ha.2 y hy).1,by
  rcases(gi.wb.ix.e y (ha.2 y hy).1).tg with k|k
  ·exact k
  ·exact absurd ((gi.mem y).2 ⟨(ha.2 y hy).1,k⟩) (ha.2 y hy).2⟩
 have hr:RgI u (fun y=>y∈g.R) E g.R g.b:=gi.wb.rgI hRt (fun y hy=>hy) hd.nd hd.hand hd.broom hd.cnt hd.bin hd.bnil hd.cyc (fun y hy hn=>absurd hy hn);have:=callsIn_wide.1 (ztd 4 (Nat.le_refl _) W q u gi.wb.h hr);exact this.mono fun e w' ⟨v,h1,h2,hV,hf⟩=>⟨v,h1,h2,⟨refs,B,⟨S,L,u,E,B0,gi.same hV hf,ha,hd,r,hfr⟩,kn,h3⟩,hf⟩
end
theorem z0u{t:TM}(hok:t.Ok):zck t.kinds 8 4=2:=by
 have hc:=zge hok.cfg;have hlen:=t.kinds_len
 have h0:t.kinds[2]?.getD 0=2:=by
  rw[t.kinds_get 2 (by omega)];unfold zf0;rw[if_neg (by decide),if_pos (by decide)]
 unfold zck;rw[if_neg (by simp[zb5];omega)];unfold zcj
 have:oneK t.kinds (8/4:Int).toNat ((8+4+3)/4:Int).toNat=true:=by
  show oneK t.kinds 2 3=true;simp[oneK]
 rw[if_pos this];exact h0
section
variable{w0 W:World}{q:MH}{S:SS}{x y n b name typ k fr:Nat}{u:TM}{L:Nat→Prop}{R l:List Nat}{X:HB}{g:EW}{par own:Nat→Nat}{nm:Nat→List (List Nat)}
theorem z0v(h:CP w0 q g l par own nm fr W):Calls prog 62 #[q,(0:Int)] W (zR (.tuple #[.string ⟨#[46]⟩,(0:Int)]) fun w'=>CP w0 q g l par own nm fr w'∧Fr q.blocks W w'):=by
 have HN:=hid (z0h h)
 have HT:=hid (fun V ad (hA:StrA V ad [])=>(show Calls prog 140 #[.slice ad 0 0] V (zN (.tuple #[.string ⟨#[46]⟩,(0:Int)]) V)from by
  have HC:=hid (show Calls prog 217 #[.slice ad 0 0] V (zN (.int .i64 (chkN [])) V)from zzp V ad 0 [] hA (by decide));rw[show chkN [] =0 from by decide]at HC;go_in;go_wp2_with fail;go_call HC.out as e w1 ⟨rfl,f1⟩;clear HC;go_wp2;go_ret2;exact⟨rfl,f1⟩))
 clear h;go_in;go_wp2_with fail;go_call HN.out as e w1 ⟨rfl,h2,h3⟩;have H2:=hid (And.intro h2 h3);have hT:=HT.out w1 none ⟨fun i hi=>by simp at hi,fun s hs=>by simp at hs,fun s hs=>by simp at hs,by simp⟩;clear h2 h3 HN HT;go_wp2_with fail;go_call hT as e w2 ⟨rfl,f2⟩;clear hT;go_wp2;go_ret2;exact⟨rfl,H2.1.fr0 f2,H2.2.trans f2.nil⟩
abbrev itZ:Array Value:= #[.string ⟨#[]⟩,.int .u16 0,.slice none 0 0,.int .u64 0,.bool false]
theorem z0w{t:TM}{pl:Int}(h:IsH W q t)(hg:EGet q t pl zHB none 0 30):Calls prog 18 #[.pointer (some ⟨q.m,0,none⟩),.int .i64 pl] W (zR (.tuple #[.agg itZ,.int .i64 30]) fun w'=>IsH w' q t∧Fr q.blocks W w'):=by
 have A0:=Blk.new W 55 itZ;have H0:=h.alloc (.cells itZ 55);have F0:=((Fr.refl [] W).alloc (.cells itZ 55)).nil (S:=q.blocks);have hlt:=h.m.lt;have HNA:=hid (show W.heap.size∉q.blocks from fun hm=>by have:=hlt _ hm;omega);have HG:=hid (hg _ H0);clear hg hlt;unfold zHB at HG;go_in;go_wp2_with fail;with_reducible refine HG.out.mono ?_
 rintro e w1 ⟨rfl,k1,f1⟩;have HO:=hid (fun o=>And.intro (k1.alloc o) (And.intro ((F0.trans f1).alloc o) ((A0.fr f1 HNA.out).alloc o)));have dd:=(HO.out (.cells #[.int .i64 0,.int .i64 0,.bool false,.int .i64 0,.int .u32 0,.int .u32 0,.int .u32 0,.int .u32 0,.int .u64 0,.int .u16 0,.int .i64 0,.int .u32 0,.pointer none,.int .i64 0] 124)).2.2.cell;have zz:=(HO.out (.cells #[.int .i64 0,.int .i64 0,.bool false,.int .i64 0,.int .u32 0,.int .u32 0,.int .u32 0,.int .u32 0,.int .u64 0,.int .u16 0,.int .i64 0,.int .u32 0,.pointer none,.int .i64 0] 124)).2.2.frozen;clear k1 f1 HG H0 F0 A0;go_wp2_with fail;refine gen5 (fun w9=>bodyPost _ _ _ _ _ w9) (HO.out _).2.2 rfl (Fr.refl [W.heap.size] _) (.inl (by simp)) ?_;intro w9 hb9 hf9;refine bodyPost_ret (zye (p:=4) (s:=5) (ty:=55) rfl _ _ W.heap.size 55 _ _ rfl hb9 underlying55 rfl (by kernel_rfl)) rfl ?_;exact⟨rfl,h.ownB (HO.out _).1 hf9,(HO.out _).2.1.step hf9 (fun k hk=> .inr (by simp at hk;omega))⟩
theorem z0x{Ls:List (List Nat)}(h:CP w0 q g l par own nm fr W)(hx:x∈g.R)(hp:g.p x=zqj Ls)(a1 a2:Int)(a3:Bool)(a4:Int)(a5 a6 a7 a8 a9 a10 a12:Nat):Calls prog 64 #[.agg #[a1,a2,a3,a4,.int .u32 a5,.int .u32 a6,.int .u32 a7,.int .u32 a8,.int .u64 a9,.int .u16 a10,.int .i64 (zqj Ls).length,.int .u32 a12,q,x]] W fun e w'=>∃gb cap,e= .returned (.slice (some ⟨gb,0,none⟩) (zqj Ls).length cap)∧W.heap.size≤gb∧RowB w' gb cap (zqj Ls)∧(∀y∈zqj Ls,y<256)∧CP w0 q g l par own nm fr w'∧Fr q.blocks W w':=by
 obtain⟨u,X,hI,f,HM,-,-⟩:=h.en hx;obtain⟨n,n1,n2,n3,n4,n5⟩:=f.fit;have hlt:=f.lt;have hon:=f.on;rw[hp]at hlt hon n1;exact(zyl hI _ hon n n1 n2 n3 n4 n5).mono fun e w' ⟨gb,cap,h1,h2,h3,h4,h5⟩=>⟨gb,cap,h1,h2,h3,hlt,HM _ h4 h5,h5⟩
theorem z0y{Ls:List (List Nat)}(h:CP w0 q g l par own nm fr W)(hx:x∈g.R)(hp:g.p x=zqj Ls)(hG:GoodR Ls)(S:List Nat)(hT:∀V,CP w0 q g l par own nm fr V→Calls prog 62 #[q,.int .i64 (g.d x).name] V (zR (.tuple #[.string (za0 S),(0:Int)]) fun w'=>CP w0 q g l par own nm fr w'∧Fr q.blocks V w')):Calls prog 18 #[q,x] W fun e w'=>∃ad cp,e= .returned (.tuple #[.agg #[.string (za0 S),.int .u16 (g.d x).typ,.slice ad Ls.length cp,.int .u64 (g.d x).expiry,.bool (g.d x).used],(0:Int)])∧RecO w' W.heap.size (.slice ad Ls.length cp) Ls∧CP w0 q g l par own nm fr w'∧Fr q.blocks W w':=by
 have A0:=Blk.new W 55 itZ;have h0:=h.fr0 ((Fr.refl [] W).alloc (.cells itZ 55));obtain⟨u,X,hI,f,HM,-,-⟩:=h0.en hx;have HG:=hid (f.get _ hI);have hsz:=f.sz;have hcl:=f.cl;have hnm:=f.nm;rw[hp]at hsz;rw[←hcl]at hT⊢;have HPk:=hid (fun V (hV:CP w0 q g l par own nm fr V) a1 a2 a3 a4 a5 a6 a7 a8 a9 a10 a12=>z0x hV hx hp a1 a2 a3 a4 a5 a6 a7 a8 a9 a10 a12);have hpl:(zqj Ls).length≤480:=by rw[zqp,←hG.size];exact hG.s
 have HU:=hid (fun V gb cap (hr:RowB V gb cap (zqj Ls)) (hlt:∀y∈zqj Ls,y<256)=>zrm V (some ⟨gb,0,none⟩) cap Ls hG (hr.byt hlt (by omega)) hr.le)
 have HLS:=hid (show Ls.length≤16∧(∀y∈Ls,y.length≤480)from⟨hG.n.2,fun y hy=>by
  have h1:=hG.size;have h2:=hG.s;obtain⟨k,hk,e⟩:=List.mem_iff_getElem.1 hy;have h3:=(zqu (L:=Ls) (k:=k) (x:=y) (by rw[List.getElem?_eq_getElem hk,e])).2;omega⟩)
 have HLB:=hid (show(∀y∈zqj Ls,y<256)→∀y∈Ls,∀b∈y,b<256 from fun hl y hy b hb=>hl b (by
  unfold zqj;simp only[List.mem_cons,List.mem_append,List.mem_flatten];exact .inr (.inr (.inr ⟨y,hy,hb⟩))))
 have HCl:=hid (fun V ad cap (hR:RecA (fun k=>W.heap.size≤k) V ad Ls)=>zrv V ad cap Ls hR (by have:=hG.n.2;omega));have HM:=hid HM;have hok:=h.bok;have HNA:=hid (show W.heap.size∉q.blocks from fun hm=>by have:=hok.q _ hm;omega);obtain⟨n,hn⟩:∃n,Ls.length=n:=⟨_,rfl⟩;have HN:=hid hn;rw[hn]at HCl⊢;clear f hpl hp hx hI h0 h hG hcl hn;obtain⟨tag,cls,used,label,nm1,next,prev,rf,expiry,ty,size,hash⟩:=X;have HT:=hid hT;simp only[cln]at HG HT hsz hnm⊢;clear hT;subst hsz;generalize hz:(zqj Ls).length=z at*;generalize za0 S=SS0 at*;have wn:IntKind.i64.wrap (nm1:Int)=(nm1:Int):=i6 _;clear hz;go_in;go_wp2_with fail;go_call HG.out as e w1 ⟨rfl,k1,f1⟩;obtain⟨w2,hw2⟩:∃w2,w1.alloc (.cells #[tag,cls,used,label,.int .u32 nm1,.int .u32 next,.int .u32 prev,.int .u32 rf,.int .u64 expiry,.int .u16 ty,z,.int .u32 hash,q,x] 124)=w2:=⟨_,rfl⟩;have C2:=show CP w0 q g l par own nm fr w2 from hw2▸(HM.out _ k1 f1).fr0 ((Fr.refl [] w1).alloc _);have F2:=show Fr q.blocks W w2 from hw2▸((((Fr.refl [] W).alloc (.cells itZ 55)).nil).trans f1).alloc _;have A2:=show Blk w2 W.heap.size 55 itZ from hw2▸(A0.fr f1 HNA.out).alloc _;have E2:=show Blk w2 w1.heap.size 124 #[tag,cls,used,label,.int .u32 nm1,.int .u32 next,.int .u32 prev,.int .u32 rf,.int .u64 expiry,.int .u16 ty,z,.int .u32 hash,q,x]from hw2▸Blk.new _ _ _
 have hs1:W.heap.size+1≤w1.heap.size:=by
  have:=f1.size;rw[World.size_alloc]at this;exact this
 have HE1:=hid (show W.heap.size<w1.heap.size∧w1.heap.size∉q.blocks from⟨by omega,fun hm=>by have:=hok.q _ hm;omega⟩);have HTt:=hid (HT.out w2 C2);have dd2:=E2.cell;clear k1 f1 HG A0 HM hs1;go_wp2_with fail;go_call HTt.out as e w3 ⟨rfl,k3,f3⟩;have F3:=F2.trans f3;have A3:=A2.fr f3 HNA.out;have E3:=E2.fr f3 HE1.2;have dd3:=E3.cell;clear f3 HTt HT dd2;go_wp2_with fail;go_call HPk.out _ k3 _ _ _ _ _ _ _ _ _ _ _ as e w4 ⟨g2,cap2,rfl,hg2,hr2,hl2,k4,f4⟩;have HU2:=hid (HU.out _ g2 cap2 hr2 hl2);have HL2:=hid (HLB.out hl2);have F4:=F3.trans f4;have A4:=A3.fr f4 HNA.out;have E4:=E3.fr f4 HE1.2;clear hg2 hr2 hl2 f4 HPk HU dd3 k3 F3 A3 E3;go_wp2_with fail;go_call HU2.out as e w5 ⟨v5,rfl,k5,f5⟩;obtain⟨ad5,cp5,hv5,hr5⟩:=(k5.lo F4.size).recA HL2.out (fun y hy=>by have:=HLS.2 y hy;omega) (by have:=HLS.1;omega);rw[HN.out]at hv5;subst hv5;have C5:=k4.fr0 f5;have F5:=F4.trans f5.nil;have A5:=A4.fr f5 (by simp);have E5:=E4.fr f5 (by simp);have HCc:=hid (HCl.out _ ad5 cp5 (hr5.fr0 (Fr.refl [] w5).drew));clear k5 f5 hr5 HU2 k4 F4 A4 E4 HCl;go_wp2_with fail;have hY:∀i,w5.drew.cell? ⟨w1.heap.size,i,none⟩=(#[.int .i64 tag,.int .i64 cls,.bool used,.int .i64 label,.int .u32 nm1,.int .u32 next,.int .u32 prev,.int .u32 rf,.int .u64 expiry,.int .u16 ty,.int .i64 z,.int .u32 hash,.pointer (some ⟨q.m,0,none⟩),.int .i64 x] :Array Value)[i]?:=(E5.fr (Fr.refl [] w5).drew (by simp)).cell;have hne:w1.heap.size≠W.heap.size:=by have:=HE1.1;omega
 refine wp_region_held_drew (S:=fun W=>∀i,W.cell? ⟨w1.heap.size,i,none⟩=(#[.int .i64 tag,.int .i64 cls,.bool used,.int .i64 label,.int .u32 nm1,.int .u32 next,.int .u32 prev,.int .u32 rf,.int .u64 expiry,.int .u16 ty,.int .i64 z,.int .u32 hash,.pointer (some ⟨q.m,0,none⟩),.int .i64 x] :Array Value)[i]?) (by kernel_rfl) (hY) (fun yH=> ?_);refine tkZ 0 ?_;refine tkZ 1 ?_;refine tkZ 2 ?_;refine tkZ 3 ?_;refine tkZ 4 ?_;refine tkZ 5 ?_;refine tkZ 7 ?_;refine tkZ 8 ?_;refine tkZ 9 ?_;refine tkZ 10 ?_;refine tkZ 11 ?_;refine tkZ 12 ?_;refine tkC 6 fun K hK=> ?_;go_simp;go_call HCc.out as e w6 ⟨v6,rfl,k6,f6⟩;have f6':=(Fr.refl [] w5).drew.trans f6;obtain⟨ad6,cp6,hv6⟩:=k6.val;rw[HN.out]at hv6;subst hv6;have R6:=show RecO w6 (W.heap.size+1) (.slice ad6 n cp6) Ls from k6.lo (show W.heap.size+1≤w5.heap.size from A5.lt);have C6:=C5.fr0 f6';have F6:=F5.trans f6'.nil;have A6:=A5.fr f6' (by simp);have E6:=E5.fr f6' (by simp);have hY:=E6.cell;have cc6:=A6.cell;have zz6:=A6.frozen;clear k6 f6 f6';go_wp2_with fail;refine hK.out _ _ _ hY fun yH=> ?_;clear hK K;refine tkZ 13 ?_;refine tkC 14 fun K hK=> ?_;go_simp;refine hK.out _ _ _ ((((((E6.far hne _).far hne _).far hne _).far hne _).far hne _).cell) fun yH=> ?_;clear hK K;refine tkZ 15 ?_;refine wpAnyH_done (by kernel_rfl) ?_ _;try simp only[gP,List.getElem_cons_zero]
 go_wp2_with fail;refine gen5 (fun w9=>bodyPost _ _ _ _ _ w9) A6 rfl (Fr.refl [W.heap.size] _) (.inl (by simp)) ?_;intro w9 hb9 hf9;refine bodyPost_ret (zye (p:=4) (s:=5) (ty:=55) rfl _ _ W.heap.size 55 _ _ rfl hb9 underlying55 rfl (by kernel_rfl)) rfl ?_;exact⟨ad6,cp6,rfl,(R6.fr hf9 (fun k hk=>by simp at hk;omega)).lo (by omega),C6.frL hok hf9 (by simp),F6.step hf9 (fun k hk=> .inr (by simp at hk;omega))⟩
end
structure ND4 where
 y:Nat
 p:Nat
 r:Nat
 s:List Nat
def ND4.cells(b:ND4):Array Value:= #[.int .i64 b.y,.int .i64 b.p,.string (za0 b.s),.int .i64 b.r]
theorem z0z:(prog.info? 96).map (fun i=>(i.zero,i.size,i.bytes))=some (some (.agg #[(0:Int),(0:Int),.string ⟨#[]⟩,(0:Int)]),4,40):=by kernel_rfl
theorem z00:∃i,prog.info? 96=some i∧i.zero=some (.agg #[(0:Int),(0:Int),.string ⟨#[]⟩,(0:Int)])∧i.size=4∧i.bytes=40:=by
 have h:=z0z;cases e:prog.info? 96 with
 |none=>rw[e]at h;cases h
 |some i=>
  rw[e]at h;simp at h;exact⟨i,rfl,h.1,h.2.1,h.2.2⟩
def ND4.cl(b:ND4):List Value:= [.int .i64 b.y,.int .i64 b.p,.string (za0 b.s),.int .i64 b.r]
theorem ND4.cl_len(b:ND4):b.cl.length=4:=rfl
def ndL:List ND4→List Value
 | [] => []
 |b::l=>b.cl++ndL l
theorem z01:∀l:List ND4,(ndL l).length=l.length*4
 | [] =>rfl
 |b::l=>by rw[ndL,List.length_append,z01 l,ND4.cl_len,List.length_cons];omega
theorem z02:∀l m:List ND4,ndL (l++m)=ndL l++ndL m
 | [],m=>rfl
 |b::l,m=>by rw[List.cons_append,ndL,ndL,z02 l m,List.append_assoc]
theorem z03:∀(l:List ND4) (i:Nat) (hi:i<l.length) (j:Nat),j<4→(ndL l)[i*4+j]?=l[i].cl[j]?
 |b::l,0,hi,j,hj=>by
  rw[ndL,Nat.zero_mul,Nat.zero_add,List.getElem?_append_left (by rw[ND4.cl_len];exact hj)];rfl
 |b::l,i+1,hi,j,hj=>by
  rw[ndL,List.getElem?_append_right (by rw[ND4.cl_len];omega),ND4.cl_len,show(i+1)*4+j-4=i*4+j by omega,z03 l i (by simpa using hi) j hj];rfl
theorem z04:∀(l:List ND4),∀u∈ndL l,u.oneCell'=true
 | [],u,hu=>by cases hu
 |b::l,u,hu=>by
  rw[ndL]at hu;rcases List.mem_append.1 hu with hu|hu
  ·simp only[ND4.cl,List.mem_cons,List.not_mem_nil,or_false]at hu
   rcases hu with rfl|rfl|rfl|rfl<;>rfl
  ·exact z04 l u hu
def Rkn(W:World)(base:Nat)(v:Value)(L:List ND4):Prop:=W.ownsRow base 96 4 v L.length (ndL L)
theorem Rkn.lt{W:World}{base:Nat}{v:Value}{L:List ND4}(h:Rkn W base v L)(g:Nat)(e:v.ownBlock=some g):base≤g∧g<W.heap.size:=by
 obtain⟨_,⟨rfl,_⟩|⟨g',cap,cur,rfl,hb,hg,_⟩⟩:=h
 ·cases e
 ·injection e with e
  have e:g'=g:=e;subst e;exact⟨hb,(Array.getElem?_eq_some_iff.1 hg).1⟩
theorem Rkn.fr{W W':World}{base:Nat}{v:Value}{L:List ND4}{S:List Nat}(h:Rkn W base v L)(hf:Fr S W W')(hS:∀k∈S,v.ownBlock≠some k):Rkn W' base v L:=by
 obtain⟨h1,⟨h2,h3⟩|⟨g,cap,cur,rfl,hb,hg,r1,r2,r3,r4⟩⟩:=h
 ·exact⟨h1,.inl ⟨h2,h3⟩⟩
 ·exact⟨h1,.inr ⟨g,cap,cur,rfl,hb,(hf.block g (Array.getElem?_eq_some_iff.1 hg).1 (fun hm=>hS g hm rfl)).trans hg,r1,r2,r3,r4⟩⟩
theorem Rkn.fr0{W W':World}{base:Nat}{v:Value}{L:List ND4}(h:Rkn W base v L)(hf:Fr [] W W'):Rkn W' base v L:=h.fr hf (by simp)
theorem Rkn.lo{W:World}{base base':Nat}{v:Value}{L:List ND4}(h:Rkn W base' v L)(hb:base≤base'):Rkn W base v L:=by
 obtain⟨h1,⟨h2,h3⟩|⟨g,cap,cur,rfl,hb',hg,r⟩⟩:=h
 ·exact⟨h1,.inl ⟨h2,h3⟩⟩
 ·exact⟨h1,.inr ⟨g,cap,cur,rfl,Nat.le_trans hb hb',hg,r⟩⟩
theorem Rkn.nil(W:World)(base:Nat):Rkn W base (.slice none 0 0) [] :=⟨rfl,.inl ⟨rfl,rfl⟩⟩
def RowKn(w:World)(g cap:Nat)(l:List ND4):Prop:= ∃cur,Blk w g 96 cur∧cur.size=cap*4∧l.length≤cap∧cur.toList.take (l.length*4)=ndL l
theorem RowKn.fr{w w':World}{g cap:Nat}{l:List ND4}{S:List Nat}(h:RowKn w g cap l)(hf:Fr S w w')(hg:g∉S):RowKn w' g cap l:=by
 obtain⟨cur,hb,h1,h2,h3⟩:=h;exact⟨cur,hb.fr hf hg,h1,h2,h3⟩
theorem RowKn.lt{w:World}{g cap:Nat}{l:List ND4}(h:RowKn w g cap l):g<w.heap.size:=by
 obtain⟨cur,hb,_⟩:=h;exact hb.lt
theorem RowKn.le{w:World}{g cap:Nat}{l:List ND4}(h:RowKn w g cap l):l.length≤cap:=by
 obtain⟨cur,_,_,h2,_⟩:=h;exact h2
theorem RowKn.cell{w:World}{g cap:Nat}{l:List ND4}(h:RowKn w g cap l)(i:Nat)(hi:i<l.length)(j:Nat)(hj:j<4):w.cell? ⟨g,i*4+j,none⟩=l[i].cl[j]?:=by
 obtain⟨cur,hb,_,_,h3⟩:=h;rw[hb.cell,←z03 l i hi j hj,←h3,List.getElem?_take_of_lt (by omega),Array.getElem?_toList]
theorem Rkn.row{W:World}{base:Nat}{v:Value}{L:List ND4}(h:Rkn W base v L):∃ad cap,v= .slice ad L.length cap∧(0<L.length→∃g,ad=some ⟨g,0,none⟩∧base≤g∧RowKn W g cap L):=by
 obtain⟨_,⟨h2,h3⟩|⟨g,cap,cur,rfl,hb,hg,r1,_,r3,r4⟩⟩:=h
 ·exact⟨none,0,by rw[h2,h3],fun h=>by omega⟩
 ·exact⟨_,cap,rfl,fun _=>⟨g,rfl,hb,⟨cur,hg,r3,r1,r4⟩⟩⟩
theorem z05(g o j:Nat):(⟨g,o,none⟩:Addr).add j=⟨g,o+j,none⟩:=by unfold Addr.add;split<;>simp_all
theorem z06(w:World)(base:Nat)(v:Value)(l:List ND4)(h:Rkn w base v l)(A:Option Addr)(c:Nat)(m:List ND4)(hm:0<m.length→∃g o,A=some ⟨g,o,none⟩∧∀j (hj:j<m.length) i,i<4→w.cell? ⟨g,o+(j*4+i),none⟩=m[j].cl[i]?)(hl:l.length+m.length≤1048576)(hbase:base≤w.heap.size):∃v' w',(Builtin.append_ #[65,65] 65 #[v,.slice A m.length c]).run prog w= .ok v' w'∧Rkn w' base v' (l++m)∧w.grownBy w' v.ownBlock∧(v'.ownBlock=v.ownBlock∨v'.ownBlock=some w.heap.size):=by
 obtain⟨i,hi,hz,hs,hb⟩:=z00;rcases A with _|ad
 ·have hm0:m= [] :=by
   rcases m with _|⟨x,m⟩
   ·rfl
   ·obtain⟨g,o,e,_⟩:=hm (by simp)
    cases e
  subst hm0;refine⟨v,w,?_,by simpa using h,World.grownBy.refl w _,.inl rfl⟩;obtain⟨h1,⟨rfl,h2⟩|⟨g,cap,cur,rfl,_,_,hc,_⟩⟩:=h
  ·have:l= [] :=List.eq_nil_of_length_eq_zero h2
   subst this;simp[Builtin.append_,run_underlying underlying65,sizeOf,typeInfo,hi,Builtin.lenOf,Builtin.firstCells]
  ·simp[Builtin.append_,run_underlying underlying65,sizeOf,typeInfo,hi,Builtin.lenOf,Builtin.firstCells,hc,storeCells]
 ·have hcells:∀j u,(ndL m)[j]?=some u→w.cell? (ad.add j)=some u:=by
   intro j u hu;have hj:=(List.getElem?_eq_some_iff.1 hu).1;rw[z01]at hj;obtain⟨g,o,e,hc⟩:=hm (by omega);injection e with e;subst e;have hj2:j/4<m.length:=by omega
   rw[z05,show o+j=o+(j/4*4+j %4)by omega,hc (j/4) hj2 (j %4) (by omega),←z03 m (j/4) hj2 (j %4) (by omega),show j/4*4+j %4=j by omega,hu]
  obtain⟨v',w',hrun,h2,h3,_,h5⟩:=run_append_own_at (P:=prog) w base 65 65 96 i (.agg #[(0:Int),(0:Int),.string ⟨#[]⟩,(0:Int)]) 4 40 underlying65 hi hz hs hb rfl (by decide) v l.length (ndL l) h ad m.length c (ndL m) (z01 m) hcells (z04 m) (by unfold maxLen;omega) (by omega) hbase;refine⟨v',w',hrun,?_,h3,h5⟩;unfold Rkn;rw[List.length_append,z02];exact h2
theorem z07(w:World):Rkn (w.alloc (.cells #[] 96)) w.heap.size (.slice (some ⟨w.heap.size,0,none⟩) 0 0) [] :=
 ⟨rfl,.inr ⟨_,0,#[],rfl,Nat.le_refl _,Blk.new _ _ _,Nat.le_refl _,by unfold maxLen;omega,rfl,rfl⟩⟩
theorem Rkn.grow{w W W':World}{base:Nat}{v:Value}{l:List ND4}(h:Rkn W base v l)(hg:W.grownBy W' v.ownBlock)(hf:Fr [] w W)(hb:w.heap.size≤base):Fr [] w W':=
 ⟨hg.os.trans hf.os,hg.tape.trans hf.tape,hg.output.trans hf.output,Nat.le_trans hf.size hg.size,fun k hk hn=>(hg.block k (Nat.lt_of_lt_of_le hk hf.size) (fun e=>by
  have:=(h.lt k e.symm).1;omega)).trans (hf.block k hk hn)⟩
def cutN(L:List ND4)(k:Nat):List ND4:=L.take k++L.drop (k+1)
theorem z08{w:World}{L:List ND4}{g cap k:Nat}(hr:RowKn w g cap L)(hk:k<L.length)(hl:L.length≤1048576):∃v1 w1 v2 w2,(Builtin.append_ #[65,65] 65 #[.slice (some ⟨w.heap.size,0,none⟩) 0 0,.slice (some ⟨g,0,none⟩) k cap]).run prog (w.alloc (.cells #[] 96)).drew= .ok v1 w1
   ∧(Builtin.append_ #[65,65] 65 #[v1,.slice (if cap-(k+1)=0 then some ⟨g,0,none⟩else some ⟨g,(k+1)*4,none⟩) (L.length-(k+1)) (cap-(k+1))]).run prog w1= .ok v2 w2
   ∧Rkn w2 w.heap.size v2 (cutN L k)∧Fr [] w w2:=by
 have hO0:Rkn (w.alloc (.cells #[] 96)).drew w.heap.size (.slice (some ⟨w.heap.size,0,none⟩) 0 0) [] :=z07 w
 have f0:Fr [] w (w.alloc (.cells #[] 96)).drew:=((Fr.refl [] w).alloc _).drew
 have hl1:(L.take k).length=k:=by rw[List.length_take];omega
 have hl2:(L.drop (k+1)).length=L.length-(k+1):=List.length_drop
 have hcap:=hr.le
 obtain⟨v1,w1,e1,hO1,g1,_⟩:=z06 _ _ _ [] hO0 (some ⟨g,0,none⟩) cap (L.take k) (fun _=>⟨g,0,rfl,fun j hj i hi=>by
  rw[hl1]at hj
  have:=(hr.fr f0 (by simp)).cell j (by omega) i hi
  rw[Nat.zero_add,this,List.getElem_take]⟩) (by rw[hl1];simp;omega) f0.size
 rw[hl1]at e1
 rw[List.nil_append]at hO1
 have f1:Fr [] w w1:=hO0.grow g1 f0 (Nat.le_refl _)
 obtain⟨v2,w2,e2,hO2,g2,_⟩:=z06 w1 w.heap.size v1 (L.take k) hO1 (if cap-(k+1)=0 then some ⟨g,0,none⟩else some ⟨g,(k+1)*4,none⟩) (cap-(k+1)) (L.drop (k+1)) (fun h0=>by
  rw[hl2]at h0
  refine⟨g,(k+1)*4,by rw[if_neg (by omega)],fun j hj i hi=> ?_⟩
  rw[hl2]at hj
  have:=(hr.fr f1 (by simp)).cell (k+1+j) (by omega) i hi
  rw[show(k+1)*4+(j*4+i)=(k+1+j)*4+i by omega,this,List.getElem_drop]) (by rw[hl1,hl2];omega) f1.size
 rw[hl2]at e2
 exact⟨v1,w1,v2,w2,e1,e2,hO2,hO1.grow g2 f1 (Nat.le_refl _)⟩
structure IsN(w:World)(p:Nat)(v:Value)(L:List ND4):Prop where
 st:Blk w p 67 #[v]
 r:Rkn w (p+1) v L
section
variable{w w' W:World}{p:Nat}{v:Value}{L:List ND4}{x:Nat}
theorem IsN.fr{S:List Nat}(h:IsN w p v L)(hf:Fr S w w')(hp:p∉S)(hS:∀k∈S,v.ownBlock≠some k):IsN w' p v L:=⟨h.st.fr hf hp,h.r.fr hf hS⟩
theorem IsN.fr0(h:IsN w p v L)(hf:Fr [] w w'):IsN w' p v L:=h.fr hf (by simp) (by simp)
theorem IsN.row(h:IsN w p v L):∃ad cap,v= .slice ad L.length cap∧(0<L.length→∃g,ad=some ⟨g,0,none⟩∧p+1≤g∧RowKn w g cap L):=h.r.row
theorem RowKn.four{g cap:Nat}(h:RowKn w g cap L){i:Nat}{d:ND4}(hi:L[i]?=some d):w.cell? ⟨g,i*4,none⟩=some (.int .i64 d.y)∧w.cell? ⟨g,i*4+1,none⟩=some (.int .i64 d.p)∧w.cell? ⟨g,i*4+2,none⟩=some (.string (za0 d.s))∧w.cell? ⟨g,i*4+3,none⟩=some (.int .i64 d.r):=by
 obtain⟨hlt,e⟩:=List.getElem?_eq_some_iff.1 hi;have h0:=h.cell i hlt 0 (by decide);have h1:=h.cell i hlt 1 (by decide);have h2:=h.cell i hlt 2 (by decide);have h3:=h.cell i hlt 3 (by decide);rw[e]at h0 h1 h2 h3;exact⟨h0,h1,h2,h3⟩
def AtN(L:List ND4)(x:Nat)(e:Ending):Prop:=(∃(i:Nat) (d:ND4),e= .returned (i:Nat)∧L[i]?=some d∧d.y=x)∨(e= .returned (.int .i64 (-1))∧ ∀d∈L,d.y≠x)
theorem xnat(h:IsN w p v L)(hl:L.length≤100000)(x:Nat):Calls prog 127 #[some p,x] w fun e w'=>AtN L x e∧w'=w:=by
 obtain⟨ad,cap,rfl,hrow⟩:=h.row;have hst:=h.st.cell 0;simp at hst;have HR:=hid hrow;obtain⟨n,hn⟩:∃n,L.length=n:=⟨_,rfl⟩;have HN:=hid hn;rw[hn]at hst hl;clear h hrow hn;go_in;go_wp2;go_loopg [5] (n+1) (fun gk v5 W=>∃i:Nat,v5= .int .i64 i∧(i+gk=n+1∧i≤n)∧Hid (∀d∈L.take i,d.y≠x)∧w=W);case atStart=>exact⟨0,rfl,by omega,hid (fun d hd=>by simp at hd),rfl⟩
 case round=>
  obtain⟨i,rfl,hi,HD,rfl⟩:=hrel;by_cases hlt:i<n
  ·have b6':=dT (i<n)
   obtain⟨d,hd⟩:∃d,L[i]?=some d:=⟨_,List.getElem?_eq_getElem (by rw[HN.out];exact hlt)⟩;obtain⟨g,rfl,_,hr⟩:=HR.out (by rw[HN.out];omega);have c0:=(hr.four hd).1;have HDd:=hid hd;have i0:(0:Int)≤i:=by omega
   have i1:(i:Int)<n:=by omega
   have wi:=i6 ((i:Int)+1);clear hr hd;by_cases hx:d.y=x
   ·have HX:=hid hx
    have b1:((d.y:Int)==(x:Int))=true:=by simp;omega
    have b1':(d.y==x)=true:=by simp;omega
    clear hx;go_wp2;go_ret;exact⟨.inl ⟨i,d,rfl,HDd.out,HX.out⟩,rfl⟩
   ·have HD':=hid (show∀d∈L.take (i+1),d.y≠x from fun d' hd'=>by
     rw[List.take_add_one,HDd.out,Option.toList_some]at hd';rcases List.mem_append.1 hd' with h|h
     ·exact HD.out d' h
     ·rw[List.mem_singleton]at h;rw[h];exact hx)
    have b1:((d.y:Int)==(x:Int))=false:=by simp;omega
    have b1':(d.y==x)=false:=by simp;omega
    clear hx;go_wp2;go_roundg (gk-1);case measure=>omega
    case rel=>exact⟨i+1,by go_num,by omega,HD',rfl⟩
  ·obtain rfl:i=n:=by omega
   have HNo:=hid (show∀d∈L,d.y≠x from by have:=HD.out;rwa[←HN.out,List.take_length]at this);go_wp2;go_ret;exact⟨.inr ⟨rfl,HNo.out⟩,rfl⟩
def FndN(L:List ND4)(a:Nat)(s:List Nat)(e:Ending):Prop:=(∃(i:Nat) (d:ND4),e= .returned (.tuple #[(d.y:Nat),true])∧L[i]?=some d∧d.p=a∧d.s=s)∨(e= .returned (.tuple #[(0:Int),false])∧ ∀d∈L,d.p=a→d.s≠s)
theorem z09(h:IsN w p v L)(hl:L.length≤100000)(hL:∀d∈L,∀c∈d.s,c<256)(a:Nat)(s:List Nat)(hs:∀c∈s,c<256)(hs2:s.length≤1048576):Calls prog 288 #[some p,a,.string (za0 s)] w fun e w'=>FndN L a (s.map lowB) e∧Fr [] w w':=by
 have HLow:=hid (fun V=>zxw V s hs hs2);have hsl:=zwz hs;have HEq:=hid (fun d (hd:d∈L)=>za2 d.s (s.map lowB) (hL d hd) hsl);generalize za0 s=S0 at*;generalize hS1:s.map lowB=s1 at*;obtain⟨n,hn⟩:∃n,L.length=n:=⟨_,rfl⟩;have HN:=hid hn;obtain⟨ad,cap,rfl,-⟩:=h.row;rw[hn]at h hl;clear hL hn hs hs2 hsl hS1;go_in;go_wp2;go_loopg [8] (n+1) (fun gk v8 W=>∃i:Nat,v8= .int .i64 i∧(i+gk=n+1∧i≤n)∧Hid (∀d∈L.take i,d.p=a→d.s≠s1)∧Hid (Fr [] w W));case atStart=>exact⟨0,rfl,by omega,hid (fun d hd=>by simp at hd),hid (Fr.refl [] w)⟩
 case round=>
  obtain⟨i,rfl,hi,HD,F3⟩:=hrel;have I3:=h.fr0 F3.out;have hst:=I3.st.cell 0;simp at hst;by_cases hlt:i<n
  ·have b6':=dT (i<n)
   obtain⟨d,hd⟩:∃d,L[i]?=some d:=⟨_,List.getElem?_eq_getElem (by rw[HN.out];exact hlt)⟩;have hdm:=List.mem_of_getElem? hd;have F3d:=F3.drew;have Id:=h.fr0 F3d;obtain⟨ad',cap',ev,hrow⟩:=Id.row;rw[HN.out]at ev;injection ev with e1 _ e3;subst e1 e3;obtain⟨g,rfl,_,hr⟩:=hrow (by rw[HN.out];omega);have hstd:=Id.st.cell 0;simp at hstd;obtain⟨c0,c1,c2,-⟩:=hr.four hd;have hgV:=hr.lt;have hpV:=Id.st.lt;have HDd:=hid hd;have i0:(0:Int)≤i:=by omega
   have i1:(i:Int)<n:=by omega
   have wi:=i6 ((i:Int)+1);have hY:=And.intro hstd (And.intro c0 (And.intro c1 c2));have heq0:=HEq.out d hdm;clear hrow hd Id I3;by_cases hx:d.p=a
   ·have b1:((d.p:Int)==(a:Int))=true:=by simp;omega
    have b1':(d.p==a)=true:=by simp;omega
    generalize hbe:(d.s==s1)=be at heq0;have HX:=hid (And.intro hx hbe);generalize za0 d.s=S2 at*;generalize za0 s1=S3 at*;clear hx hbe c0 c1 c2 hstd hr hst;go_wp2_with fail;refine wp_region_held_drew (S:=fun W=>W.cell? ⟨p,0,none⟩=some (.slice (some ⟨g,0,none⟩) n cap)∧W.cell? ⟨g,i*4,none⟩=some (.int .i64 d.y)∧W.cell? ⟨g,i*4+1,none⟩=some (.int .i64 d.p)∧W.cell? ⟨g,i*4+2,none⟩=some (.string S2)) (by kernel_rfl) (hY) (fun yH=> ?_);refine tkZ 0 ?_;refine tkZ 1 ?_;refine tkZ 2 ?_;refine tkZ 3 ?_;refine tkZ 4 ?_;refine tkZ 5 ?_;refine tkZ 6 ?_;refine tkZ 7 ?_;refine tkZ 8 ?_;refine tkZ 9 ?_;refine tkZ 10 ?_;refine tkZ 11 ?_;refine tkZ 12 ?_;refine tkZ 13 ?_;refine tkZ 14 ?_;refine tkZ 15 ?_;refine tkZ 16 ?_;refine tkZ 17 ?_;refine tkZ 18 ?_;refine tkZ 19 ?_;refine tkC 20 fun K hK=> ?_;go_simp;go_call HLow.out _ as e w5 ⟨rfl,f5⟩;have F5:=F3d.trans f5;have hY:=And.intro ((f5.cell (p:=⟨p,0,none⟩) hpV (by simp)).trans hY.1) (And.intro ((f5.cell (p:=⟨g,i*4,none⟩) hgV (by simp)).trans hY.2.1) (And.intro ((f5.cell (p:=⟨g,i*4+1,none⟩) hgV (by simp)).trans hY.2.2.1) ((f5.cell (p:=⟨g,i*4+2,none⟩) hgV (by simp)).trans hY.2.2.2)));clear f5;go_wp2_with fail;refine hK.out _ _ _ hY fun yH=> ?_;clear hK K;refine tkZ 21 ?_;refine tkZ 22 ?_;refine wpAnyH_done (by kernel_rfl) ?_ _;try simp only[gP,List.getElem_cons_zero]
    cases be with
    |true=>
     have HR:=show FndN L a s1 (.returned (.tuple #[d.y,true]))from .inl ⟨i,d,rfl,HDd.out,HX.1,by simpa using HX.2⟩;clear HX hY;go_wp2;go_ret2;exact⟨HR,F5⟩
    |false=>
     have HD':=hid (show∀d∈L.take (i+1),d.p=a→d.s≠s1 from fun d' hd'=>by
      rw[List.take_add_one,HDd.out,Option.toList_some]at hd';rcases List.mem_append.1 hd' with h|h
      ·exact HD.out d' h
      ·rw[List.mem_singleton]at h;subst h;intro _;simpa using HX.2)
     clear HX hY;go_wp2;go_roundg (gk-1);case measure=>omega
     case rel=>exact⟨i+1,by go_num,by omega,HD',F5⟩
   ·have HD':=hid (show∀d∈L.take (i+1),d.p=a→d.s≠s1 from fun d' hd'=>by
     rw[List.take_add_one,HDd.out,Option.toList_some]at hd';rcases List.mem_append.1 hd' with h|h
     ·exact HD.out d' h
     ·rw[List.mem_singleton]at h;subst h;exact fun e=>absurd e hx)
    have b1:((d.p:Int)==(a:Int))=false:=by simp;omega
    have b1':(d.p==a)=false:=by simp;omega
    generalize za0 d.s=S2 at*;clear hx c0 c1 c2 hstd hr hst heq0;go_wp2_with fail;refine wp_region_held_drew (S:=fun W=>W.cell? ⟨p,0,none⟩=some (.slice (some ⟨g,0,none⟩) n cap)∧W.cell? ⟨g,i*4,none⟩=some (.int .i64 d.y)∧W.cell? ⟨g,i*4+1,none⟩=some (.int .i64 d.p)∧W.cell? ⟨g,i*4+2,none⟩=some (.string S2)) (by kernel_rfl) (hY) (fun yH=> ?_);refine tkZ 0 ?_;refine tkZ 1 ?_;refine tkZ 2 ?_;refine tkZ 3 ?_;refine tkZ 4 ?_;refine tkZ 5 ?_;refine tkZ 6 ?_;refine tkZ 7 ?_;refine tkZ 8 ?_;refine tkZ 9 ?_;refine tkZ 10 ?_;refine tkM 11 ?_;refine tkM 12 ?_;refine tkM 13 ?_;refine tkM 14 ?_;refine tkM 15 ?_;refine tkM 16 ?_;refine tkM 17 ?_;refine tkM 18 ?_;refine tkM 19 ?_;refine tkM 20 ?_;refine tkM 21 ?_;refine tkZ 22 ?_;refine wpAnyH_done (by kernel_rfl) ?_ _;try simp only[gP,List.getElem_cons_zero]
    go_wp2;go_roundg (gk-1);case measure=>omega
    case rel=>exact⟨i+1,by go_num,by omega,HD',F3d⟩
  ·obtain rfl:i=n:=by omega
   have HNo:=show FndN L a s1 (.returned (.tuple #[(0:Int),false]))from .inr ⟨rfl,by have:=HD.out;rwa[←HN.out,List.take_length]at this⟩;clear I3;go_wp2;go_ret2;exact⟨HNo,F3.out⟩
end
theorem z1a:∀(l:List ND4) (i r:Nat) (hi:i<l.length),(ndL l).set (i*4+3) (.int .i64 r)=ndL (l.set i {l[i]with r:=r})
 |b::l,0,r,hi=>rfl
 |b::l,i+1,r,hi=>by
  rw[show(i+1)*4+3=i*4+3+1+1+1+1 by omega];show(.int .i64 b.y:: .int .i64 b.p:: .string (za0 b.s):: .int .i64 b.r::ndL l).set (i*4+3+1+1+1+1) (.int .i64 r)=_;rw[List.set_cons_succ,List.set_cons_succ,List.set_cons_succ,List.set_cons_succ,z1a l i r (by simpa using hi)];rfl
theorem Rkn.setR{W:World}{base g cap n:Nat}{L:List ND4}(h:Rkn W base (.slice (some ⟨g,0,none⟩) n cap) L)(i r:Nat)(hi:i<L.length):Rkn (W.setCell ⟨g,i*4+3,none⟩ (.int .i64 r)) base (.slice (some ⟨g,0,none⟩) n cap) (L.set i {L[i]with r:=r}):=by
 obtain⟨_,⟨_,h3⟩|⟨g',cap',cur,e,hb,hg,r1,r2,r3,r4⟩⟩:=h
 ·omega
 ·injection e with e1 e2 e3
  injection e1 with e1;injection e1 with e1;subst e1 e3;have hs:=Blk.set (g:=g) (t:=96) (cs:=cur) hg (i*4+3) (.int .i64 r);refine⟨by rw[z01,List.length_set],.inr ⟨g,cap,_,by rw[e2,List.length_set],hb,hs,by rw[List.length_set];exact r1,r2,by simpa using r3,?_⟩⟩;rw[List.length_set,Array.toList_setIfInBounds,List.take_set,r4,z1a _ _ _ hi]
theorem RowKn.frozen{w:World}{g cap:Nat}{l:List ND4}(h:RowKn w g cap l)(i:Nat):w.frozen? ⟨g,i,none⟩=false:=by
 obtain⟨cur,hb,_⟩:=h;exact hb.frozen i
theorem z1b{α:Type}{f g:Nat→α}{u:Nat}:∀{l:List Nat} {k:Nat},l.Nodup→l[k]?=some u→(∀y,y≠u→f y=g y)→(l.map f).set k (g u)=l.map g
 | [],k,_,h,_=>by simp at h
 |a::l,0,hn,h,hf=>by
  simp at h;subst h;rw[List.nodup_cons]at hn;rw[List.map_cons,List.set_cons_zero,List.map_cons];congr 1;exact List.map_congr_left fun y hy=>hf y (fun e=>hn.1 (by rw[←e];exact hy))
 |a::l,k+1,hn,h,hf=>by
  rw[List.getElem?_cons_succ]at h;rw[List.nodup_cons]at hn;rw[List.map_cons,List.set_cons_succ,List.map_cons,z1b hn.2 h hf,hf a (fun e=>hn.1 (by rw[e];exact List.mem_of_getElem? h))]
theorem z1c{f:Nat→ND4}{u:Nat}:∀{l:List Nat} {k:Nat},l.Nodup→l[k]?=some u→cutN (l.map f) k=(l.erase u).map f
 | [],k,_,h=>by simp at h
 |a::l,0,hn,h=>by
  simp at h;subst h;rw[List.erase_cons_head];rfl
 |a::l,k+1,hn,h=>by
  rw[List.getElem?_cons_succ]at h;rw[List.nodup_cons]at hn;have hne:a≠u:=fun e=>hn.1 (by rw[e];exact List.mem_of_getElem? h);rw[List.erase_cons_tail (by simpa using hne),List.map_cons,List.map_cons];show f a::cutN (l.map f) k=_;rw[z1c hn.2 h]
def nd4(par R:Nat→Nat)(lb:Nat→List Nat)(y:Nat):ND4:=⟨y,par y,R y,lb y⟩
def IsD(w:World)(p:Nat)(v:Value)(l:List Nat)(par R:Nat→Nat)(lb:Nat→List Nat):Prop:=IsN w p v (l.map (nd4 par R lb))
section
variable{w w' W:World}{p:Nat}{v:Value}{l:List Nat}{par R:Nat→Nat}{lb:Nat→List Nat}{x:Nat}
theorem IsD.congr{par' R':Nat→Nat}{lb':Nat→List Nat}(h:IsD w p v l par R lb)(hc:∀y∈l,par' y=par y∧R' y=R y∧lb' y=lb y):IsD w p v l par' R' lb':=by
 unfold IsD at h⊢;rwa[List.map_congr_left fun y hy=>show nd4 par' R' lb' y=nd4 par R lb y from by rw[nd4,(hc y hy).1,(hc y hy).2.1,(hc y hy).2.2];rfl]
theorem z1d{i:Nat}{d:ND4}(h:(l.map (nd4 par R lb))[i]?=some d):l[i]?=some d.y∧d=nd4 par R lb d.y:=by
 rw[List.getElem?_map]at h;cases e:l[i]? with
 |none=>rw[e]at h;cases h
 |some u=>
  rw[e]at h;injection h with h;subst h;exact⟨rfl,rfl⟩
theorem z1e(h:IsD w p v l par R lb)(hl:l.length≤100000)(hx:x∈l):Calls prog 127 #[some p,x] w fun e w'=>(∃i:Nat,e= .returned (i:Nat)∧l[i]?=some x)∧w'=w:=
 (xnat h (by rw[List.length_map];exact hl) x).mono fun e w' ⟨ha,hw⟩=>⟨by
  rcases ha with⟨i,d,he,hd,hdx⟩|⟨_,hno⟩
  ·exact⟨i,he,hdx▸(z1d hd).1⟩
  ·exact absurd rfl (hno _ (List.mem_map_of_mem hx)),hw⟩
theorem IsD.rowg{g n cap:Nat}(h:IsD w p (.slice (some ⟨g,0,none⟩) n cap) l par R lb)(h0:0<l.length):RowKn w g cap (l.map (nd4 par R lb))∧p<g:=by
 obtain⟨ad,cap',e,hrow⟩:=IsN.row h;rw[List.length_map]at hrow;injection e with e1 _ e3;obtain⟨g',e4,hg,hr⟩:=hrow h0;rw[e4]at e1;injection e1 with e1;injection e1 with e1;subst e1 e3;exact⟨hr,hg⟩
theorem IsD.set(h:IsD w p v l par R lb)(hn:l.Nodup){i:Nat}(hi:l[i]?=some x)(r:Nat):∃g cap,v= .slice (some ⟨g,0,none⟩) l.length cap∧p<g∧RowKn w g cap (l.map (nd4 par R lb))∧l.length≤cap∧∀W,Fr [] w W→IsD (W.setCell ⟨g,i*4+3,none⟩ (.int .i64 r)) p v l par (up R x r) lb∧Fr [g] W (W.setCell ⟨g,i*4+3,none⟩ (.int .i64 r)):=by
 have hlt:=(List.getElem?_eq_some_iff.1 hi).1;obtain⟨ad,cap,e,hrow⟩:=IsN.row h;rw[List.length_map]at e hrow;obtain⟨g,rfl,hg,hr⟩:=hrow (by omega);subst e;refine⟨g,cap,rfl,hg,hr,by have:=hr.le;rwa[List.length_map]at this,fun W hW=> ?_⟩;have f:Fr [g] W (W.setCell ⟨g,i*4+3,none⟩ (.int .i64 r)):=(Fr.refl [g] W).setCell (p:=⟨g,i*4+3,none⟩) (.inl (by simp)) _;have h':=IsN.fr0 h hW;refine⟨⟨h'.st.fr f (by simp;omega),?_⟩,f⟩;have:=h'.r.setR i r (by rw[List.length_map];exact hlt)
 rwa[show({(l.map (nd4 par R lb))[i]'(by rw[List.length_map];exact hlt)with r:=r}:ND4)=nd4 par (up R x r) lb x from by
  rw[List.getElem_map];have e:l[i] =x:=(List.getElem?_eq_some_iff.1 hi).2;rw[e,nd4,nd4,zf1],z1b hn hi (fun y hy=>by rw[nd4,nd4,zf2 _ _ hy])]at this
theorem z1f(h:IsD w p v l par R lb)(hn:l.Nodup)(hl:l.length≤100000)(hx:x∈l)(hR:R x≤1000000000):Calls prog 222 #[some p,x] w (zR (0:Int) fun w'=>IsD w' p v l par (up R x (R x+1)) lb∧Fr (ownS v) w w'):=by
 have hat:=z1e h hl hx;have hst:=h.st.cell 0;simp at hst;have HN:=hid hn;generalize hr0:R x=r at*;have HR0:=hid hr0;clear hn hx hr0;go_in;go_wp2_with fail;go_call hat as e w1 ⟨⟨i,rfl,hi⟩,rfl⟩;obtain⟨g,cap,rfl,hpg,hr,hcap,hset⟩:=h.set HN.out hi (r+1);have c3:=(hr.four (d:=nd4 par R lb x) (by rw[List.getElem?_map,hi];rfl)).2.2.2;have e3:(nd4 par R lb x).r=r:=HR0.out;rw[e3]at c3;have zf:=hr.frozen (i*4+3);have hlt:=(List.getElem?_eq_some_iff.1 hi).1;have HSt:=hid hset;generalize hnl:l.length=n at hlt hcap hst hl;have b0:=dF ((i:Int)<0);have i0:(0:Int)≤i:=by omega
 have i1:(i:Int)<n:=by omega
 have wi:IntKind.i64.wrap ((r:Int)+1)=((r+1:Nat):Int):=i6 _;clear hset hr hat hi hnl hpg e3;go_wp2;go_ret;obtain⟨k1,k2⟩:=HSt.out _ (Fr.refl [] _);exact⟨rfl,k1,k2⟩
end
theorem z1g{P:Program}{ops:Array Oper}{o:Oper}{a:Act}{w:World}{K:Act→World→Prop}{Q:Exit→Act→World→Prop}{E:Prop}
  (hg:o.guard=none) (s x:Operand) (t:TypeId) (hop:o.op=Op.call {callee:=Callee.builtin Builtin.append,args:= #[s,x],argTypes:= #[t,t]}) (hty:o.type=t)
  (vs vx v':Value) (w':World) (hs:a.eval s=vs) (hx:a.eval x=vx) (hrun:(Builtin.append_ #[t,t] t #[vs,vx]).run P w= .ok v' w')
  (hK:K (a.put o.dst v') w'):if Region.wanted o (yielded ops a.tmps)=true then Oper.wp P o a w K Q else E:=by
 have hw:Region.wanted o (yielded ops a.tmps)=true:=by simp[Region.wanted,hg]
 rw[if_pos hw]
 subst hty
 unfold Oper.wp
 simp[execOp,hop,resolve,invoke,builtin,hs,hx,hrun,Result.andThen]
 exact hK
theorem z1h{G H:Prop}(f:G→H)(g:G):H:=f g
structure Nx(p:Nat)(v:Value)(w:World)(v':Value)(w':World):Prop where
 f:Fr (p::ownS v) w w'
 o: ∀k∈ownS v',k∈ownS v∨w.heap.size≤k
theorem Nx.trans{p:Nat}{v v' v2:Value}{w w' w2:World}(h:Nx p v w v' w')(h2:Nx p v' w' v2 w2):Nx p v w v2 w2:=
 ⟨h.f.step h2.f (fun k hk=>by
  rcases List.mem_cons.1 hk with rfl|hk
  ·exact .inl (by simp)
  rcases h.o k hk with h|h
  ·exact .inl (List.mem_cons_of_mem _ h)
  ·exact .inr h),fun k hk=>by
  rcases h2.o k hk with h3|h3
  ·exact h.o k h3
  ·exact .inr (Nat.le_trans h.f.size h3)⟩
def LetX(p:Nat)(v:Value)(w:World)(l:List Nat)(par own:Nat→Nat)(lb:Nat→List Nat)(e:Ending)(w':World):Prop:=
 ∃(k:Nat) (l1:List Nat) (R1:Nat→Nat) (v':Value),e= .returned (.tuple #[(k:Nat),(0:Int)])∧IsD w' p v' l1 par R1 lb∧Rem own par l l1∧k+l1.length=l.length∧(∀y∈l1,R1 y=own y+bel par l1 y)∧Firm own par l1∧Nx p v w v' w'
structure LetQ(l:List Nat)(par own R:Nat→Nat)(x:Nat):Prop where
 nd:l.Nodup
 ix:x∈l
 rf: ∀y∈l,R y=own y+bel par l y+(if y=x then 1 else 0)
 nf: ∀y∈l,y≠x→own y=0→ ∃z∈l,par z=y
 u: ∀y∈l,par y=0∨par y∈l
 z: ∀y∈l,y≠0
 o: ∀y∈l,own y≤900000000
section
variable{l:List Nat}{par own R:Nat→Nat}{x:Nat}
theorem LetQ.at_x(h:LetQ l par own R x):∃r,R x=r+1∧r=own x+bel par l x:=⟨own x+bel par l x,by rw[h.rf x h.ix,if_pos rfl],rfl⟩
theorem LetQ.keep(h:LetQ l par own R x){r:Nat}(hr:r=own x+bel par l x)(h0:r≠0):(∀y∈l,up R x r y=own y+bel par l y)∧Firm own par l:=by
 refine⟨fun y hy=> ?_,fun y hy ho=> ?_⟩
 ·by_cases e:y=x
  ·rw[e,zf1,hr]
  ·rw[zf2 _ _ e,h.rf y hy,if_neg e];rfl
 ·by_cases e:y=x
  ·subst e
   exact bel_pos.1 (by omega)
  ·exact h.nf y hy e ho
theorem LetQ.gone(h:LetQ l par own R x)(h0:own x+bel par l x=0):own x=0∧∀z∈l,par z≠x:=⟨by omega,fun z hz e=>by
 have:bel par l x≠0:=bel_pos.2 ⟨z,hz,e⟩;omega⟩
theorem LetQ.rem(h:LetQ l par own R x)(h0:own x+bel par l x=0):Rem own par l (l.erase x):= .step (.refl l) h.ix (h.gone h0).1 (h.gone h0).2
theorem LetQ.mem(h:LetQ l par own R x){y:Nat}:y∈l.erase x↔y≠x∧y∈l:=by rw[h.nd.mem_erase_iff]
theorem LetQ.stop(h:LetQ l par own R x)(h0:own x+bel par l x=0)(hp:par x=0):(∀y∈l.erase x,R y=own y+bel par (l.erase x) y)∧Firm own par (l.erase x):=by
 refine⟨fun y hy=> ?_,fun y hy ho=> ?_⟩
 ·obtain⟨hne,hm⟩:=h.mem.1 hy
  have:=h.z y hm;rw[h.rf y hm,if_neg hne,zxc h.ix,hp,if_neg (by omega)];rfl
 ·obtain⟨hne,hm⟩:=h.mem.1 hy
  obtain⟨z,hz,e⟩:=h.nf y hm hne ho;exact⟨z,h.mem.2 ⟨fun e2=>by subst e2;exact h.z y hm (by rw[←e,hp]),hz⟩,e⟩
theorem LetQ.next(h:LetQ l par own R x)(h0:own x+bel par l x=0)(hp:par x≠0):LetQ (l.erase x) par own R (par x):=by
 have hg:=(h.gone h0).2;refine⟨h.nd.erase x,h.mem.2 ⟨hg x h.ix,(h.u x h.ix).resolve_left hp⟩,fun y hy=> ?_,fun y hy hne ho=> ?_,fun y hy=> ?_,fun y hy=>h.z y (h.mem.1 hy).2,fun y hy=>h.o y (h.mem.1 hy).2⟩
 ·obtain⟨hne,hm⟩:=h.mem.1 hy
  rw[h.rf y hm,if_neg hne,zxc h.ix];by_cases e:par x=y
  ·rw[if_pos e,if_pos e.symm];omega
  ·rw[if_neg e,if_neg (fun e2=>e e2.symm)];omega
 ·obtain⟨hnx,hm⟩:=h.mem.1 hy
  obtain⟨z,hz,e⟩:=h.nf y hm hnx ho;exact⟨z,h.mem.2 ⟨fun e2=>by subst e2;exact hne e.symm,hz⟩,e⟩
 ·obtain⟨_,hm⟩:=h.mem.1 hy
  rcases h.u y hm with e|e
  ·exact .inl e
  ·exact .inr (h.mem.2 ⟨hg y hm,e⟩)
end
section
variable{W:World}{p:Nat}{l:List Nat}{par R:Nat→Nat}{lb:Nat→List Nat}{x:Nat}
theorem IsD.cut{g cap n:Nat}(h:IsD W p (.slice (some ⟨g,0,none⟩) n cap) l par R lb)(hn:l.Nodup){i:Nat}(hi:l[i]?=some x)(hl:l.length≤100000)(hln:l.length=n):∃v1 w1 v2 w2,(Builtin.append_ #[65,65] 65 #[.slice (some ⟨W.heap.size,0,none⟩) 0 0,.slice (some ⟨g,0,none⟩) i cap]).run prog (W.alloc (.cells #[] 96)).drew= .ok v1 w1
   ∧(Builtin.append_ #[65,65] 65 #[v1,.slice (if cap-(i+1)=0 then some ⟨g,0,none⟩else some ⟨g,(i+1)*4,none⟩) (n-(i+1)) (cap-(i+1))]).run prog w1= .ok v2 w2
   ∧(W.alloc (.cells #[] 96)).drew.cell? ⟨p,0,none⟩=some (.slice (some ⟨g,0,none⟩) n cap)∧w1.cell? ⟨p,0,none⟩=some (.slice (some ⟨g,0,none⟩) n cap)∧w2.cell? ⟨p,0,none⟩=some (.slice (some ⟨g,0,none⟩) n cap)∧w2.frozen? ⟨p,0,none⟩=false
   ∧IsD (w2.setCell ⟨p,0,none⟩ v2) p v2 (l.erase x) par R lb∧Fr [p] W (w2.setCell ⟨p,0,none⟩ v2)∧ ∀k∈ownS v2,W.heap.size≤k:=by
 have hlt:=(List.getElem?_eq_some_iff.1 hi).1
 obtain⟨hr,hpg⟩:=h.rowg (by omega)
 obtain⟨v1,w1,v2,w2,e1,e2,o,f⟩:=z08 hr (k:=i) (by rw[List.length_map];exact hlt) (by rw[List.length_map];omega)
 rw[List.length_map,hln]at e2
 have hp:=h.st.lt
 have f2:Fr [p] w2 (w2.setCell ⟨p,0,none⟩ v2):=(Fr.refl [p] w2).setCell (p:=⟨p,0,none⟩) (.inl (by simp)) _
 have c0:=h.st.cell 0
 simp at c0
 have fa:Fr [] W (W.alloc (.cells #[] 96)).drew:=((Fr.refl [] W).alloc _).drew
 have f1:Fr [] W w1:=by
  have hO0:Rkn (W.alloc (.cells #[] 96)).drew W.heap.size (.slice (some ⟨W.heap.size,0,none⟩) 0 0) [] :=z07 W
  obtain⟨v1',w1',e1',hO1,g1,_⟩:=z06 _ _ _ [] hO0 (some ⟨g,0,none⟩) cap ((l.map (nd4 par R lb)).take i) (fun _=>⟨g,0,rfl,fun j hj k hk=>by
   rw[List.length_take,List.length_map]at hj
   have:=(hr.fr fa (by simp)).cell j (by rw[List.length_map];omega) k hk
   rw[Nat.zero_add,this,List.getElem_take]⟩) (by simp;omega) fa.size
  rw[List.length_take,List.length_map,Nat.min_eq_left (by omega)]at e1'
  rw[e1']at e1
  injection e1 with _ e1
  subst e1
  exact hO0.grow g1 fa (Nat.le_refl _)
 refine⟨v1,w1,v2,w2,e1,e2,(fa.cell (p:=⟨p,0,none⟩) hp (by simp)).trans c0,(f1.cell (p:=⟨p,0,none⟩) hp (by simp)).trans c0,(f.cell (p:=⟨p,0,none⟩) hp (by simp)).trans c0,(h.st.fr f (by simp)).frozen 0,⟨?_,?_⟩,f.nil.trans f2,fun k hk=>(o.lt k (zhv hk)).1⟩
 ·exact(h.st.fr f (by simp)).set 0 v2
 ·rw[z1c hn hi]at o
  exact(o.fr f2 (fun k hk e=>by
   simp at hk
   subst hk
   have:=(o.lt _ e).1
   omega)).lo (by omega)
end
theorem z1i(own par:Nat→Nat)(lb:Nat→List Nat)(p:Nat):∀(n:Nat) {w:World} {v:Value} {l:List Nat} {R:Nat→Nat} {x:Nat},l.length=n→n≤100000→IsD w p v l par R lb→LetQ l par own R x→
  Calls prog 87 #[some p,x] w (LetX p v w l par own lb)
 |0,w,v,l,R,x,hl,_,_,hq=>by
  have:=List.length_pos_of_mem hq.ix;omega
 |n+1,w,v,l,R,x,hln,hl,h,hq=>by
  have hat:=z1e h (by omega) hq.ix;have hst:=h.st.cell 0;simp at hst;have HI:=hid h;have HQ:=hid hq;obtain⟨r,hr0,hrx⟩:=hq.at_x;have hbl:=zxf par l x;have hox:=hq.o x hq.ix;have HR:=hid hrx;have hr9:r≤1000000000:=by omega
  generalize hrr:r+1=rr at hr0;have HR0:=hid hr0;have IH:=hid (fun w v l R x=>z1i own par lb p n (w:=w) (v:=v) (l:=l) (R:=R) (x:=x));have HLN:=hid hln;have hp:=h.st.lt;clear h hq hr0 hrx hbl hox hln;go_in;go_wp2_with fail;go_call hat as e w1 ⟨⟨i,rfl,hi⟩,rfl⟩;obtain⟨g,cap,rfl,hpg,hr,hcap,hset⟩:=HI.set HQ.nd hi r;obtain⟨c0,c1,c2,c3⟩:=hr.four (d:=nd4 par R lb x) (by rw[List.getElem?_map,hi];rfl);have e3:(nd4 par R lb x).r=rr:=HR0.out;rw[e3]at c3;have zf:=hr.frozen (i*4+3);have hlt:=(List.getElem?_eq_some_iff.1 hi).1;obtain⟨h1,f1⟩:=hset _ (Fr.refl [] w1);rw[HLN.out]at hlt hcap hst;have HI1:=hid h1;have HF1:=hid f1;obtain⟨d0,d1,d2,d3⟩:=(h1.rowg (by rw[HLN.out];omega)).1.four (d:=nd4 par (up R x r) lb x) (by rw[List.getElem?_map,hi];rfl);have e4:(nd4 par (up R x r) lb x).r=r:=zf1 _ _ _;rw[e4]at d3;have hst1:=h1.st.cell 0;simp at hst1;rw[HLN.out]at hst1;have HIi:=hid hi;generalize hN:n+1=N at*;have b0:=dF ((i:Int)<0);have i0:(0:Int)≤i:=by omega
  have i1:(i:Int)<N:=by omega
  have wi:IntKind.i64.wrap ((rr:Int)-1)=(r:Int):=by rw[show(rr:Int)-1=(r:Int)by omega];exact i6 _
  have br:((rr:Int)==0)=false:=by rw[beq_eq_false_iff_ne];omega
  have br':(rr==0)=false:=by rw[beq_eq_false_iff_ne];omega
  have hs1:w1.heap.size≤(w1.setCell ⟨g,i*4+3,none⟩ (.int .i64 r)).heap.size:=f1.size;clear hset hr hat h1 f1 e3 e4 hi;rw[show(nd4 par R lb x).y=x from rfl]at c0;rw[show(nd4 par R lb x).p=par x from rfl]at c1;rw[show(nd4 par R lb x).s=lb x from rfl]at c2;rw[show(nd4 par (up R x r) lb x).y=x from rfl]at d0;rw[show(nd4 par (up R x r) lb x).p=par x from rfl]at d1;rw[show(nd4 par (up R x r) lb x).s=lb x from rfl]at d2;generalize za0 (lb x)=S0 at*;generalize hpx:par x=px at*;by_cases hr1:r=0
  ·have b1:=dF ((0:Int)<r)
   have b1':=dF (0<r);have h00:own x+bel par l x=0:=HR.symm.trans hr1;have H00:=hid h00;clear hr1 hrr h00;go_wp2;have hIW:IsD ((w1.setCell ⟨g,i*4+3,none⟩ (.int .i64 r)).alloc (.cells #[x,px,.string S0,r] 96)) p (.slice (some ⟨g,0,none⟩) l.length cap) l par (up R x r) lb:=IsN.fr0 HI1.out ((Fr.refl [] _).alloc _);have hFW:Fr [g] w1 ((w1.setCell ⟨g,i*4+3,none⟩ (.int .i64 r)).alloc (.cells #[x,px,.string S0,r] 96)):=HF1.alloc _
   have hB7:Blk ((w1.setCell ⟨g,i*4+3,none⟩ (.int .i64 r)).alloc (.cells #[x,px,.string S0,r] 96)) w1.heap.size 96 #[.int .i64 x,.int .i64 px,.string S0,.int .i64 r] :=by
    have:=Blk.new (w1.setCell ⟨g,i*4+3,none⟩ (.int .i64 r)) 96 #[.int .i64 x,.int .i64 px,.string S0,.int .i64 r];rwa[show(w1.setCell ⟨g,i*4+3,none⟩ (.int .i64 r)).heap.size=w1.heap.size by simp[World.setCell]]at this
   have hstW:=hIW.st.cell 0;simp only[List.getElem?_toArray,List.getElem?_cons_zero]at hstW;rw[HLN.out]at hstW;generalize(w1.setCell ⟨g,i*4+3,none⟩ (.int .i64 r)).alloc (.cells #[x,px,.string S0,r] 96)=W at*;obtain⟨v1,wa,v2,wb,e1,e2,ca,cb,cc,zc,hI3,hF3,ho3⟩:=hIW.cut HQ.nd HIi.out (by rw[HLN.out];exact hl) rfl;rw[HLN.out]at e2 ca cb cc
   obtain⟨ad3,n3,cap3,hv2⟩:∃ad3 n3 cap3,v2= .slice ad3 n3 cap3:=by
    obtain⟨ad3,cap3,e,-⟩:=IsN.row hI3;exact⟨ad3,_,cap3,e⟩
   subst hv2;have HE1:=hid e1;have HE2:=hid e2;have HI3:=hid (show IsD _ p (.slice ad3 n3 cap3) (l.erase x) par R lb from IsD.congr hI3 (fun y hy=>⟨rfl,(zf2 _ _ (HQ.mem.1 hy).1).symm,rfl⟩));have hs3:=hF3.size;have hpb:p≠w1.heap.size:=by omega
   have hB3:=hB7.fr hF3 (by simp;omega);have HNx:=hid (show Nx p (.slice (some ⟨g,0,none⟩) l.length cap) w1 (.slice ad3 n3 cap3) _ from⟨(hFW.mono (fun k hk=> .inl (List.mem_cons_of_mem p hk))).step hF3 (fun k hk=>by simp at hk;subst hk;exact .inl (by simp)),fun k hk=> .inr (Nat.le_trans hFW.size (ho3 k hk))⟩);have q0:=hB3.cell 1;simp only[gE]at q0;have g2:(i:Int)≤cap:=by omega
   have g3:(i:Int)+1≤N:=by omega
   have g5:=i6 ((i:Int)+1);have g6:(0:Int)≤(i:Int)+1:=by omega
   have g8:((i:Int)+1).toNat=i+1:=by omega
   clear e1 e2 hI3 hF3 ho3 hB7 hB3 hFW hIW HI HI1 HF1 c0 c1 c2 c3 d0 d1 d2 d3 zf hst hst1 wi br br' b0 b1 b1' hs1;generalize hc2:(if cap-(i+1)=0 then(some ⟨g,0,none⟩:Option Addr)else some ⟨g,(i+1)*4,none⟩)=ad2 at*
   have hc3:(if cap=i+1 then(some ⟨g,0,none⟩:Option Addr)else some ⟨g,(i+1)*4,none⟩)=ad2:=by
    rw[←hc2];by_cases e:cap=i+1
    ·rw[if_pos e,if_pos (by omega)]
    ·rw[if_neg e,if_neg (by omega)]
   generalize w1.heap.size=b7 at*;apply z1h
   ·intro key
    go_region_law (first|(refine z1g rfl (.tmp 45) (.tmp 51) 65 rfl rfl _ _ _ _ (by simp[Act.eval,Act.put]) (by simp[Act.eval,Act.put]) HE1.out ?_)|(refine z1g rfl (.tmp 52) (.tmp 59) 65 rfl rfl _ _ _ _ (by simp[Act.eval,Act.put]) (by simp[Act.eval,Act.put,hc3]) HE2.out ?_));all_goals exact key
   ·clear hc2 hc3 HE1 HE2 ca cb cc zc hstW
    try simp only[gP,List.getElem_cons_zero]
    generalize wb.setCell ⟨p,0,none⟩ (.slice ad3 n3 cap3)=W3 at*;by_cases hp0:px=0
    ·have b2:((px:Int) !=0)=false:=by subst hp0;rfl
     have HP0:=hid (hpx.trans hp0);clear hp0;go_wp2;go_ret2;obtain⟨k1,k2⟩:=HQ.stop H00.out HP0.out;exact⟨1,l.erase x,R,_,rfl,HI3.out,HQ.rem H00.out,by rw[List.length_erase_of_mem HQ.ix,HLN.out];omega,k1,k2,HNx.out⟩
    ·have b2:((px:Int) !=0)=true:=by rw[bne_iff_ne];omega
     have hih:=IH.out W3 (.slice ad3 n3 cap3) (l.erase x) R px (by rw[List.length_erase_of_mem HQ.ix,HLN.out];omega) (by omega) HI3.out (by rw[←hpx];exact HQ.next H00.out (by rw[hpx];exact hp0));have hlen:(l.erase x).length≤100000:=by rw[List.length_erase_of_mem HQ.ix,HLN.out];omega
     clear hp0;go_wp2_with fail;go_call hih as e w4 ⟨k,l1,R1,v4,rfl,h1,h2,h3,h4,h5,h6⟩;have wk:IntKind.i64.wrap ((k:Int)+1)=((k+1:Nat):Int):=i6 _;have HX:=hid (show LetX p (.slice (some ⟨g,0,none⟩) l.length cap) _ l par own lb (.returned (.tuple #[.int .i64 (k+1:Nat),(0:Int)])) w4 from⟨k+1,l1,R1,v4,rfl,h1,(HQ.rem H00.out).trans h2,by rw[List.length_erase_of_mem HQ.ix]at h3;have:=List.length_pos_of_mem HQ.ix;omega,h4,h5,HNx.trans h6⟩);clear hih h1 h2 h3 h4 h5 h6;go_wp2;go_ret2;exact HX.out
  ·have b1':=dT (0<r)
   have HR1:=hid hr1;clear hr1 hrr;go_wp2;go_ret2;obtain⟨k1,k2⟩:=HQ.keep HR.out HR1.out;exact⟨0,l,_,_,rfl,IsN.fr0 HI1.out ((Fr.refl [] _).alloc _),.refl l,by omega,k1,k2,(HF1.alloc _).mono (fun k hk=> .inl (List.mem_cons_of_mem p hk)),fun k hk=> .inl hk⟩
theorem z1j{ops:Array Oper}{o:Oper}{a:Act}{w:World}{K:Act→World→Prop}{Q:Exit→Act→World→Prop}{E:Prop}
  (hg:o.guard=none) (s x:Operand) (ho:o.op= .call {callee:= .builtin .append,args:= #[s,x],argTypes:= #[65,65]}) (hty:o.type=65)
  (base:Nat) (v:Value) (l:List ND4) (hs:a.eval s=v) (y:ND4) (W0:World) (hW:w=W0.alloc (.cells y.cells 96)) (hown:Rkn W0 base v l) (hx:a.eval x= .slice (some ⟨W0.heap.size,0,none⟩) 1 1)
  (n:Nat) (hn:l.length=n) (hl:n≤1000000) (hbase:base≤W0.heap.size)
  (h: ∀g cap w',Rkn w' base (.slice (some ⟨g,0,none⟩) (n+1) cap) (l++ [y])→Fr (ownS v) W0 w'→(v.ownBlock=some g∨W0.heap.size≤g)→K (a.put o.dst (.slice (some ⟨g,0,none⟩) (n+1) cap)) w'):if Region.wanted o (yielded ops a.tmps)=true then Oper.wp prog o a w K Q else E:=by
 have hw:Region.wanted o (yielded ops a.tmps)=true:=by simp[Region.wanted,hg]
 rw[if_pos hw]
 subst hW hn
 obtain⟨v',w',hrun,h2,h3,h5⟩:=z06 (W0.alloc (.cells y.cells 96)) base v l (hown.fr0 ((Fr.refl [] W0).alloc _)) (some ⟨W0.heap.size,0,none⟩) 1 [y] (fun _=>⟨_,0,rfl,fun j hj i _=>by
  obtain rfl:j=0:=by simp at hj;omega
  rw[Nat.zero_mul,Nat.zero_add,Nat.zero_add,(Blk.new W0 96 y.cells).cell]
  show(#[.int .i64 (y.y:Int),.int .i64 (y.p:Int),.string (za0 y.s),.int .i64 (y.r:Int)] :Array Value)[i]?=y.cl[i]?
  rw[List.getElem?_toArray]
  rfl⟩) (by simp;omega) (by simp;omega)
 rw[show([y] :List ND4).length=1 from rfl]at hrun
 obtain⟨g,cap,rfl⟩:=ownsRow_succ (show w'.ownsRow base 96 4 v' (l.length+1) (ndL (l++ [y]))from by
  have:=h2
  unfold Rkn at this
  rwa[List.length_append]at this)
 have hK':=h g cap w' h2 (zhw h3) (by
  rw[World.size_alloc]at h5
  rcases h5 with h5|h5
  ·exact .inl h5.symm
  ·refine .inr ?_
   have:g=W0.heap.size+1:=Option.some.inj h5
   omega)
 unfold Oper.wp execOp
 simp only[ho,hty,resolve,invoke,builtin,Sem.run_bind,Sem.run_pure,Result.andThen_ok,List.map_toArray,List.map_cons,List.map_nil,hs,hx,hrun]
 exact hK'
def z1k(R:Nat→Nat)(a:Nat):Nat→Nat:=if a=0 then R else up R a (R a+1)
def MkX(p:Nat)(v:Value)(w:World)(l:List Nat)(par R:Nat→Nat)(lb:Nat→List Nat)(x a:Nat)(s:List Nat)(e:Ending)(w':World):Prop:=
 ∃v',e= .returned (0:Int)∧IsD w' p v' (l++ [x]) (up par x a) (up R x 0) (up lb x s)∧Nx p v w v' w'
section
variable{w w' W W':World}{p:Nat}{v v':Value}{l:List Nat}{par R:Nat→Nat}{lb:Nat→List Nat}{x a:Nat}{s:List Nat}
theorem IsD.app(h:IsD W p v l par R lb)(hx:x∉l)(hr:Rkn W' (p+1) v' (l.map (nd4 par R lb)++ [⟨x,a,0,s⟩]))(hf:Fr (ownS v) W W'):IsD (W'.setCell ⟨p,0,none⟩ v') p v' (l++ [x]) (up par x a) (up R x 0) (up lb x s)∧Fr (p::ownS v) W (W'.setCell ⟨p,0,none⟩ v')∧W'.frozen? ⟨p,0,none⟩=false∧W'.cell? ⟨p,0,none⟩=some v:=by
 have hpn:p∉ownS v:=fun hm=>by
  have:=(h.r.lt p (zhv hm)).1;omega
 have f:Fr [p] W' (W'.setCell ⟨p,0,none⟩ v'):=(Fr.refl [p] W').setCell (p:=⟨p,0,none⟩) (.inl (by simp)) _;have hst:=h.st.fr hf hpn;have c:=hst.cell 0;simp only[List.getElem?_toArray,List.getElem?_cons_zero]at c;refine⟨⟨hst.set 0 v',?_⟩,(hf.mono (fun k hk=> .inl (List.mem_cons_of_mem p hk))).step f (fun k hk=>by simp at hk;subst hk;exact .inl (by simp)),hst.frozen 0,c⟩
 rw[List.map_append,List.map_cons,List.map_nil,List.map_congr_left (g:=nd4 par R lb) fun y hy=>by
  have hne:y≠x:=fun e=>hx (e▸hy);rw[nd4,nd4,zf2 _ _ hne,zf2 _ _ hne,zf2 _ _ hne],show nd4 (up par x a) (up R x 0) (up lb x s) x=⟨x,a,0,s⟩from by rw[nd4,zf1,zf1,zf1]]
 exact hr.fr f (fun k hk e=>by
  simp at hk;subst hk;have:=(hr.lt _ e).1;omega)
theorem z1l(h:IsD w p v l par R lb)(hl:l.length≤100000)(hL:∀y∈l,∀c∈lb y,c<256)(a:Nat)(s:List Nat)(hs:∀c∈s,c<256)(hs2:s.length≤1048576)(hno:∀y∈l,par y=a→lb y≠s.map lowB):Calls prog 288 #[some p,a,.string (za0 s)] w (zN (.tuple #[(0:Int),false]) w):=
 (z09 h (by rw[List.length_map];exact hl) (fun d hd=>by
  obtain⟨y,hy,rfl⟩:=List.mem_map.1 hd;exact hL y hy) a s hs hs2).mono fun e w' ⟨hf,h2⟩=>⟨by
  rcases hf with⟨i,d,_,hd,h3,h4⟩|⟨he,_⟩
  ·obtain⟨y,hy,rfl⟩:=List.mem_map.1 (List.mem_of_getElem? hd)
   exact absurd h4 (hno y hy h3)
  ·exact he,h2⟩
theorem z1m(h:IsD w p v l par R lb)(hn:l.Nodup)(hl:l.length≤1000)(hL:∀y∈l,∀c∈lb y,c<256)(hx:x∉l)(ha:a=0∨a∈l)(hR:R a≤1000000000)(hs:∀c∈s,c<256)(hk:zuz s=true)(hno:∀y∈l,par y=a→lb y≠s.map lowB):Calls prog 227 #[some p,x,a,.string (za0 s)] w (MkX p v w l par (z1k R a) lb x a (s.map lowB)):=by
 have hk1:=(zxu hk).2;have HLb:=hid (fun V=>zxv V s hs (by omega));rw[if_pos hk]at HLb;have HLw:=hid (fun V=>zxw V s hs (by omega));have HFd:=hid (fun W (hf:Fr [] w W)=>z1l (IsN.fr0 h hf) (by omega) hL a s hs (by omega) hno)
 obtain⟨ad,cap,hv⟩:∃ad cap,v= .slice ad l.length cap:=by
  obtain⟨ad,cap,e,-⟩:=IsN.row h;rw[List.length_map]at e;exact⟨ad,cap,e⟩
 subst hv;have HX:=hid hx;have hp:=h.st.lt;obtain⟨n,hnl⟩:∃n,l.length=n:=⟨_,rfl⟩;have HNL:=hid hnl;have hn1:n≤1000:=by omega
 generalize hS0:za0 s=S0 at*;generalize hS1:za0 (s.map lowB)=S1 at*;have HS1:=hid hS1;have HHo:=hid (fun(h0:a≠0) W (hf:Fr [] w W)=>z1f (IsN.fr0 h hf) hn (by omega) (ha.resolve_left h0) hR);have HAt:=hid (fun(h0:a≠0) W (hf:Fr [] w W)=>z1e (IsN.fr0 h hf) (by omega) (ha.resolve_left h0));clear hn hl hL hx ha hR hs hk hno hk1 hnl hS1 hS0;go_in;go_wp2_with fail;go_call HLb.out _ as e w1 ⟨rfl,rfl⟩;by_cases h0:a=0
 ·subst h0
  have HF0:=hid (fun W (hf:Fr [] w1 W)=>(show Calls prog 288 #[some p,(0:Int),.string S0] W (zN (.tuple #[(0:Int),false]) W)from HFd.out W hf));go_wp2_with fail;go_call HF0.out _ (Fr.refl [] _) as e w2 ⟨rfl,f2⟩;have hI3:=IsN.fr0 h f2;have FW:=f2.nil (S:=ownS (.slice ad l.length cap));clear HF0 f2;go_wp2;have cW:=hI3.st.cell 0;simp only[List.getElem?_toArray,List.getElem?_cons_zero]at cW;rw[HNL.out]at cW
  go_region_law
   (first
    |(refine z1j rfl (.tmp 39) (.tmp 45) rfl rfl (p+1) (.slice ad n cap) _ (by simp[Act.eval]) ⟨x,0,0,s.map lowB⟩ W4 (by rw[ND4.cells,HS1.out];rfl) HR4.out (by simp[Act.eval,Act.put]) n (by rw[List.length_map];exact HNL.out) (by omega) (by omega) ?_;intro g5 cap5 W5 hr5 hf5 ho5;obtain⟨a1,a2,a3,a4⟩:=IsD.app (a:=0) HI4.out HX.out hr5 (by rw[HNL.out];exact hf5);rw[HNL.out]at a4;have A1:=hid a1;have A2:=hid a2;have HO5:=hid (And.intro ho5 hf5.size);clear hr5 hf5 ho5 a1 a2)
    |(go_simp;with_reducible refine(HLw.out _).mono ?_;rintro e W4 ⟨rfl,f4⟩;have HI4:=hid (IsN.fr0 hI3 ((Fr.refl [] _).drew.trans f4));have FF4:=hid ((Fr.refl [] _).drew.trans f4);have HR4:=hid (show Rkn W4 (p+1) (.slice ad n cap) _ from by rw[←HNL.out];exact HI4.out.r);have c4:=HI4.out.st.cell 0;have c5:=((HI4.out.st).fr ((Fr.refl [] W4).alloc (.cells #[x,(0:Int),.string S1,(0:Int)] 96)) (by simp)).cell 0;simp only[List.getElem?_toArray,List.getElem?_cons_zero]at c4 c5;rw[HNL.out]at c4 c5;have hp4:=HI4.out.st.lt;clear f4))
  all_goals
   clear HLw HHo HAt HFd HLb;go_wp2;go_ret
   exact⟨_,rfl,A1.out,(FW.trans FF4.nil|>.mono (fun k hk=> .inl (List.mem_cons_of_mem p hk))).trans A2.out,fun k hk=>by
    have e5:=zhv hk;injection e5 with e5;subst e5;rcases HO5.1 with h|h
    ·have h':(Value.slice ad l.length cap).ownBlock=some g5:=by rw[HNL.out];exact h
     exact .inl (by unfold ownS;rw[h'];simp)
    ·exact .inr (Nat.le_trans FW.size (Nat.le_trans FF4.size h))⟩
 ·have b1:((a:Int) !=0)=true:=by rw[bne_iff_ne];omega
  have hat:=HAt.out h0 _ (Fr.refl [] _);have H0:=hid h0;have b1':(a !=0)=true:=by rw[bne_iff_ne];exact h0
  go_wp2_with fail;clear h0;go_call hat as e w2 ⟨⟨i,rfl,hi⟩,rfl⟩;have b2:=dF ((i:Int)<0);clear hi hat;go_wp2_with fail;go_call HFd.out _ (Fr.refl [] _) as e w2 ⟨rfl,f2⟩;have hho:=HHo.out H0.out _ f2;clear b2;go_wp2_with fail;go_call hho as e w3 ⟨rfl,hI3',f3⟩;have hI3:IsN w3 p (.slice ad l.length cap) (l.map (nd4 par (z1k R a) lb)):=by rw[z1k,if_neg H0.out];exact hI3'
  have FW:=f2.nil.trans f3;clear hho hI3' f3;go_wp2;have cW:=hI3.st.cell 0;simp only[List.getElem?_toArray,List.getElem?_cons_zero]at cW;rw[HNL.out]at cW
  go_region_law
   (first
    |(refine z1j rfl (.tmp 39) (.tmp 45) rfl rfl (p+1) (.slice ad n cap) _ (by simp[Act.eval]) ⟨x,a,0,s.map lowB⟩ W4 (by rw[ND4.cells,HS1.out];rfl) HR4.out (by simp[Act.eval,Act.put]) n (by rw[List.length_map];exact HNL.out) (by omega) (by omega) ?_;intro g5 cap5 W5 hr5 hf5 ho5;obtain⟨a1,a2,a3,a4⟩:=IsD.app HI4.out HX.out hr5 (by rw[HNL.out];exact hf5);rw[HNL.out]at a4;have A1:=hid a1;have A2:=hid a2;have HO5:=hid (And.intro ho5 hf5.size);clear hr5 hf5 ho5 a1 a2)
    |(go_simp;with_reducible refine(HLw.out _).mono ?_;rintro e W4 ⟨rfl,f4⟩;have HI4:=hid (IsN.fr0 hI3 ((Fr.refl [] _).drew.trans f4));have FF4:=hid ((Fr.refl [] _).drew.trans f4);have HR4:=hid (show Rkn W4 (p+1) (.slice ad n cap) _ from by rw[←HNL.out];exact HI4.out.r);have c4:=HI4.out.st.cell 0;have c5:=((HI4.out.st).fr ((Fr.refl [] W4).alloc (.cells #[x,a,.string S1,(0:Int)] 96)) (by simp)).cell 0;simp only[List.getElem?_toArray,List.getElem?_cons_zero]at c4 c5;rw[HNL.out]at c4 c5;have hp4:=HI4.out.st.lt;clear f4))
  all_goals
   clear HLw HHo HAt HFd HLb;go_wp2;go_ret
   exact⟨_,rfl,A1.out,(FW.trans FF4.nil|>.mono (fun k hk=> .inl (List.mem_cons_of_mem p hk))).trans A2.out,fun k hk=>by
    have e5:=zhv hk;injection e5 with e5;subst e5;rcases HO5.1 with h|h
    ·have h':(Value.slice ad l.length cap).ownBlock=some g5:=by rw[HNL.out];exact h
     exact .inl (by unfold ownS;rw[h'];simp)
    ·exact .inr (Nat.le_trans FW.size (Nat.le_trans FF4.size h))⟩
end
def hdL(nm:Nat→List (List Nat))(y:Nat):List Nat:=(nm y).headD []
structure DN(l:List Nat)(par own:Nat→Nat)(nm:Nat→List (List Nat)):Prop where
 z0:nm 0= []
 sx: ∀y∈l,nm y=hdL nm y::nm (par y)
 ux: ∀y∈l,par y=0∨par y∈l
 nz: ∀y∈l,y≠0
 nd:l.Nodup
 few:l.length≤224
 bx: ∀y∈l,∀c∈hdL nm y,c<256
 inj: ∀x y,(x=0∨x∈l)→(y=0∨y∈l)→nm x=nm y→x=y
 len: ∀y,(y=0∨y∈l)→(nm y).length≤224
 firm:Firm own par l
 lab: ∀y∈l,zuz (hdL nm y)=true
section
variable{w0 w W:World}{q:MH}{u0:EW}{l:List Nat}{par own:Nat→Nat}{nm:Nat→List (List Nat)}{fr x p a c:Nat}{b:List Nat}{v:Value}
theorem CP.dn(h:CP w0 q u0 l par own nm fr W):DN l par own nm:=by
 have hs:∀y∈l,nm y=hdL nm y::nm (par y)∧∀c∈hdL nm y,c<256:=fun y hy=>by
  obtain⟨s,e,hb,_⟩:=h.hd hy;have e2:hdL nm y=s:=by rw[hdL,e];rfl
  rw[e2];exact⟨e,hb⟩
 exact⟨h.z,fun y hy=>(hs y hy).1,fun y hy=>h.up hy,fun y hy=>(h.rng hy).1,h.nd,h.few,fun y hy=>(hs y hy).2,fun x y hx hy e=>h.inj hx hy e,fun y hy=>h.nmlen hy,h.firm,fun y hy=>(h.lab hy _ (by rw[(hs y hy).1];exact List.mem_cons_self)).1⟩
def DD(w:World)(p:Nat)(v:Value)(l:List Nat)(par own:Nat→Nat)(nm:Nat→List (List Nat)):Prop:=IsD w p v l par (fun y=>own y+bel par l y) (hdL nm)
theorem DD.fr0(h:DD w p v l par own nm)(hf:Fr [] w W):DD W p v l par own nm:=IsN.fr0 h hf
theorem Kn.uniq{N:List (List Nat)}{a1 k1 a2 k2:Nat}(d:DN l par own nm)(h1:Kn l nm N a1 k1)(h2:Kn l nm N a2 k2):a1=a2∧k1=k2:=by
 have key:∀{a1 k1 a2 k2:Nat},Kn l nm N a1 k1→Kn l nm N a2 k2→k1<k2→False:=fun{a1 k1 a2 k2} h1 h2 hlt=>by
  have hsuf:∀(j y:Nat),(y=0∨y∈l)→nm y=sfx N (k1+1+j)→k1+1+j≤N.length→∃z∈l,nm z=sfx N (k1+1):=by
   intro j;induction j with
   |zero=>
    intro y hy e hle;refine⟨y,hy.resolve_left (fun h0=> ?_),e⟩;subst h0;rw[d.z0]at e;have:=congrArg List.length e;rw[zzg (by omega)]at this;simp at this
   |succ j ih=>
    intro y hy e hle
    have hyl:y∈l:=hy.resolve_left (fun h0=>by
     subst h0;rw[d.z0]at e;have:=congrArg List.length e;rw[zzg (by omega)]at this;simp at this)
    rw[show k1+1+(j+1)=(k1+1+j)+1 by omega,zzh (by omega),d.sx y hyl]at e;injection e with _ e;exact ih (par y) (d.ux y hyl) e (by omega)
  obtain⟨z,hz,e⟩:=hsuf (k2-(k1+1)) a2 h2.pl (by rw[show k1+1+(k2-(k1+1))=k2 by omega];exact h2.ew) (by have:=h2.le;omega);exact h1.no (by have:=h2.le;omega) z hz e
 have hk:k1=k2:=by
  rcases Nat.lt_trichotomy k1 k2 with h|h|h
  ·exact(key h1 h2 h).elim
  ·exact h
  ·exact(key h2 h1 h).elim
 subst hk;exact⟨d.inj _ _ h1.pl h2.pl (h1.ew.trans h2.ew.symm),rfl⟩
theorem z1n(w:World)(ad:Option Addr)(cap:Nat)(L:List (List Nat))(h:StrA w ad L)(hb:zzj L≤1099511627776):Calls prog 273 #[.slice ad L.length cap] w (zE (zzj L) w):=by
 have hle:=h.len;obtain⟨n,hn⟩:∃n,L.length=n:=⟨_,rfl⟩;have HX:=hid (fun k s (hs:L[k]?=some s)=>zzm L k s 1 hs)
 have HB:=hid (fun k=>(show(L.take k).foldl (fun n s=>n+(s.length+1)) 1≤1099511627776 from by
  refine Nat.le_trans ?_ hb;unfold zzj;conv=>rhs;rw[←List.take_append_drop k L,List.foldl_append]
  exact zzl _ _))
 have HZ:=hid (show(L.take 0).foldl (fun n s=>n+(s.length+1)) 1=1 from rfl);have HF:=hid (show(L.take n).foldl (fun n s=>n+(s.length+1)) 1=zzj L from by rw[←hn,List.take_length];rfl);rw[←HF.out];obtain⟨M,hM⟩:∃M:Nat→Nat,(fun k=>(L.take k).foldl (fun n s=>n+(s.length+1)) 1)=M:=⟨_,rfl⟩;have hM':∀k,(L.take k).foldl (fun n s=>n+(s.length+1)) 1=M k:=fun k=>by rw[←hM]
 simp only[hM']at HX HB HZ⊢;rw[hn];rw[hn]at hle;have HN:=hid hn;clear hn hM hM' HF hb;go_in;go_wp2;go_loopg [3,4] (n+1) (fun gk v3 v4 W=>∃i:Nat,v3= .int .i64 (M i)∧v4= .int .i64 i∧(i+gk=n+1∧i≤n)∧w=W);case atStart=>exact⟨0,by rw[HZ.out];rfl,rfl,by omega,rfl⟩
 case round=>
  obtain⟨i,rfl,rfl,hi,rfl⟩:=hrel;by_cases hlt:i<n
  ·have hL:i<L.length:=by rw[HN.out];exact hlt
   obtain⟨g,o,rfl,hc,hg⟩:=h.at_ i hL;have hgd:L[i]?=some L[i] :=List.getElem?_eq_getElem hL;rw[hgd]at hc;simp only[Option.getD_some]at hc;have hx:=HX.out i _ hgd;generalize L[i]'hL=s at*;have hb1:=HB.out (i+1);have hsz:=zu1 s;generalize hk:s.length=k at hx hsz;have b6':=dT (i<n);have i0:(0:Int)≤i:=by omega
   have i1:(i:Int)<n:=by omega
   have wi:=i6 ((i:Int)+1);have wk:=i6 ((M i:Int)+1);have HS:=hid hx;have wm:=i6 ((M i:Int)+1+(k:Int));generalize za0 s=S at*;clear hk hgd hL hx;go_wp2;go_roundg (gk-1);case measure=>omega
   case rel=>exact⟨i+1,by rw[HS.out];congr 1;push_cast;omega,by go_num,by omega,rfl⟩
  ·obtain rfl:i=n:=by omega
   go_wp2;go_ret;exact⟨rfl,rfl⟩
theorem z1o(w:World)(ad:Option Addr)(cap:Nat)(L:List (List Nat))(h:StrA w ad L)(hb:zzj L≤1099511627776):Calls prog 191 #[.slice ad L.length cap] w (zE (chkN L) w):=by
 have HW:=hid (z1n w ad cap L h hb);have hle:=h.len;obtain⟨n,hn⟩:∃n,L.length=n:=⟨_,rfl⟩;obtain⟨wn,hwn⟩:∃wn,zzj L=wn:=⟨_,rfl⟩;rw[hn,hwn]at HW;have HWN:=hid hwn;rw[hn];rw[hn]at hle;have HN:=hid hn;clear hn hb hwn;go_in;go_wp2;go_loopg [3] (n+1) (fun gk v3 W=>∃i:Nat,v3= .int .i64 i∧(i+gk=n+1∧i≤n)∧Hid (∀s∈L.take i,zuz s=true)∧w=W);case atStart=>exact⟨0,rfl,by omega,hid (fun s hs=>by simp at hs),rfl⟩
 case round=>
  obtain⟨i,rfl,hi,HT,rfl⟩:=hrel;by_cases hlt:i<n
  ·have hL:i<L.length:=by rw[HN.out];exact hlt
   obtain⟨g,o,rfl,hc,hg⟩:=h.at_ i hL;have hgd:L[i]?=some L[i] :=List.getElem?_eq_getElem hL;rw[hgd]at hc;simp only[Option.getD_some]at hc;have hs:=h.lt _ (List.getElem_mem hL);have hs2:=h.each _ (List.getElem_mem hL);have HGD:=hid hgd;have HM:=hid (List.getElem_mem hL);generalize L[i]'hL=s at*;have HLb:=hid (fun V=>zxv V s hs hs2);have b6':=dT (i<n);have i0:(0:Int)≤i:=by omega
   have i1:(i:Int)<n:=by omega
   have wi:=i6 ((i:Int)+1);generalize za0 s=S at*;clear hgd hL hs hs2;by_cases hk:zuz s=true
   ·rw[if_pos hk]at HLb
    have HT':=hid (show∀t∈L.take (i+1),zuz t=true from fun t ht=>by
     rw[List.take_add_one,HGD.out,Option.toList_some]at ht;rcases List.mem_append.1 ht with h|h
     ·exact HT.out t h
     ·rw[List.mem_singleton]at h;rw[h];exact hk)
    clear hk;go_wp2_with fail;go_call HLb.out _ as e w5 ⟨rfl,rfl⟩;go_wp2;go_roundg (gk-1);case measure=>omega
    case rel=>exact⟨i+1,by go_num,by omega,HT',rfl⟩
   ·rw[if_neg hk]at HLb
    have HC:=hid (show chkN L=20 from by
     rw[chkN,if_neg];intro hall;rw[List.all_eq_true]at hall;exact hk (hall s HM.out))
    clear hk;go_wp2_with fail;go_call HLb.out _ as e w5 ⟨rfl,rfl⟩;go_wp2;go_ret;exact⟨by rw[HC.out];rfl,rfl⟩
  ·obtain rfl:i=n:=by omega
   have hall:L.all zuz=true:=by
    rw[List.all_eq_true];have:=HT.out;rwa[←HN.out,List.take_length]at this
   by_cases h5:255<wn
   ·have b5:=dT ((255:Int)<wn)
    have b5':=dT (255<wn);have HC:=hid (show chkN L=21 from by rw[chkN,if_pos hall,HWN.out,if_pos h5]);clear hall h5;go_wp2_with fail;go_call HW.out as e w5 ⟨rfl,rfl⟩;go_wp2;go_ret;exact⟨by rw[HC.out];rfl,rfl⟩
   ·have b5:=dF ((255:Int)<wn)
    have b5':=dF (255<wn);have HC:=hid (show chkN L=0 from by rw[chkN,if_pos hall,HWN.out,if_neg h5]);clear hall h5;go_wp2_with fail;go_call HW.out as e w5 ⟨rfl,rfl⟩;go_wp2;go_ret;exact⟨by rw[HC.out];rfl,rfl⟩
theorem z1p(h:DD w p v l par own nm)(d:DN l par own nm)(ha:a=0∨a∈l)(hb:∀k∈b,k<256)(hb2:b.length≤1048576):Calls prog 288 #[some p,a,.string (za0 b)] w fun e w'=>Fr [] w w'∧((∃x:Nat,e= .returned (.tuple #[x,true])∧x∈l∧nm x=b.map lowB::nm a)∨(e= .returned (.tuple #[(0:Int),false])∧∀x∈l,nm x≠b.map lowB::nm a)):=
 (z09 h (by rw[List.length_map];have:=d.few;omega) (fun d' hd=>by
  obtain⟨y,hy,rfl⟩:=List.mem_map.1 hd;exact d.bx y hy) a b hb hb2).mono fun e w' ⟨hf,h2⟩=>⟨h2,by
  rcases hf with⟨i,d',he,hd,h3,h4⟩|⟨he,hno⟩
  ·obtain⟨y,hy,rfl⟩:=List.mem_map.1 (List.mem_of_getElem? hd)
   exact .inl ⟨y,he,hy,by rw[d.sx y hy,show hdL nm y=b.map lowB from h4,show par y=a from h3]⟩
  ·refine .inr ⟨he,fun x hx e=> ?_⟩
   rw[d.sx x hx]at e;injection e with e1 e2;exact hno _ (List.mem_map_of_mem hx) (d.inj _ _ (d.ux x hx) ha e2) e1⟩
end
section
variable{w W:World}{l:List Nat}{par own:Nat→Nat}{nm:Nat→List (List Nat)}{x p a:Nat}{b:List Nat}{v:Value}
theorem z1q(h:DD w p v l par own nm)(d:DN l par own nm)(ad:Option Addr)(cap:Nat)(L:List (List Nat))(hA:StrA w ad L)(hb:zzj L≤1000000):Calls prog 221 #[some p,.slice ad L.length cap] w fun e w'=>∃at_ k:Nat,e= .returned (.tuple #[at_,k])∧Kn l nm (lowN L) at_ k∧Fr [] w w':=by
 have HFi:=hid (fun W (hW:Fr [] w W) (a:Nat) (ha:a=0∨a∈l) (b:List Nat) (hb:∀k∈b,k<256) (hb2:b.length≤1048576)=>z1p (h.fr0 hW) d ha hb hb2);have HZ:=hid d.z0
 have H6:=hid (show∀s∈L,s.length≤1048576 from fun s hs=>by
  have h1:=List.append_of_mem hs;obtain⟨s1,s2,e⟩:=h1
  have:s.length≤zzj L:=by
   rw[e,zzj,List.foldl_append,List.foldl_cons];exact Nat.le_trans (by omega) (zzl s2 _)
  omega)
 have hle:L.length≤1000000:=by
  have:∀(L:List (List Nat)) (n:Nat),n+L.length≤L.foldl (fun n s=>n+(s.length+1)) n:=by
   intro L;induction L with
   |nil=>intro n;simp
   |cons s L ih=>
    intro n;have:=ih (n+(s.length+1));simp only[List.foldl_cons,List.length_cons];omega
  have:=this L 1;unfold zzj at hb;omega
 obtain⟨n,hn⟩:∃n,L.length=n:=⟨_,rfl⟩;have HN:=hid hn;rw[hn]at hle⊢;clear h d hn hb;go_in;have wn:IntKind.i64.wrap ((n:Int)-1)=((n:Int)-1):=i6 _;go_wp2;go_loopg [6,7,8] (n+1) (fun gk v6 v7 v8 W=>∃(a k:Nat) (i:Int),v6= .int .i64 a∧v7= .int .i64 k∧v8= .int .i64 i∧(k+gk=n+1∧k≤n∧i+k+1=n)∧Hid (a=0∨a∈l)∧Hid (nm a=sfx (lowN L) k)∧Hid (Fr [] w W));case atStart=>exact⟨0,0,(n:Int)-1,rfl,rfl,rfl,by omega,hid (.inl rfl),hid (by rw[HZ.out,zze]),hid (Fr.refl [] w)⟩
 case round=>
  obtain⟨a,k,i,rfl,rfl,rfl,hi,HP,HE,F3⟩:=hrel;by_cases hlt:k<n
  ·have b6:=dT (i≥0)
   have b6':=dT (0≤i);have hL:n-1-k<L.length:=by rw[HN.out];omega
   obtain⟨g,o,rfl,hc,hg⟩:=hA.at_ (n-1-k) hL;have k1:=(F3.cell (p:=⟨g,o+(n-1-k),none⟩) hg (by simp)).trans hc;have hgd:L[n-1-k]?=some (L[n-1-k]'hL):=List.getElem?_eq_getElem hL;rw[hgd]at k1;simp only[Option.getD_some]at k1;have hs:=hA.lt _ (List.getElem_mem hL);have hs6:=H6.out _ (List.getElem_mem hL)
   have HSX:=hid (show sfx (lowN L) (k+1)=(L[n-1-k]'hL).map lowB::sfx (lowN L) k from by
    rw[zzh (by rw[zzk,HN.out];exact hlt)];congr 1;simp only[lowN,List.getElem_map,List.length_map,HN.out])
   generalize L[n-1-k]'hL=s at*;have hfi:=HFi.out _ F3.out a HP.out s hs hs6;have HLE:=hid (show k+1≤(lowN L).length from by rw[zzk,HN.out];exact hlt);have e8:i=((n-1-k:Nat):Int):=by omega
   have w3:IntKind.i64.wrap ((k:Int)+1)=((k+1:Nat):Int):=i6 _;subst e8;have i0:(0:Int)≤((n-1-k:Nat):Int):=by omega
   have i1:((n-1-k:Nat):Int)<n:=by omega
   have w4:IntKind.i64.wrap (((n-1-k:Nat):Int)-1)=((n-1-k:Nat):Int)-1:=i6 _;have HI:=hid (show(((n-1-k:Nat):Int)-1)+(k+1:Nat)+1=n from by omega);generalize hix:n-1-k=ix at*;generalize za0 s=S at*;clear hc hgd hs hs6;go_wp2_with fail;go_call hfi as e w5 ⟨f5,⟨x,rfl,hx,hnx⟩|⟨rfl,hno⟩⟩
   ·have F5:=F3.trans f5
    have HX:=hid (show x=0∨x∈l from .inr hx);have HNX:=hid (show nm x=sfx (lowN L) (k+1)from by rw[HSX.out,←HE.out];exact hnx);clear f5 hx hnx hfi k1;go_wp2;go_roundg (gk-1);case measure=>omega
    case rel=>exact⟨x,k+1,((ix:Nat):Int)-1,rfl,by go_num,by go_num,by have:=HI.out;omega,HX,HNX,F5⟩
   ·have HK:=show Kn l nm (lowN L) a k from⟨Nat.le_trans (Nat.le_succ _) HLE.out,HP.out,HE.out,fun _ x hx e=>hno x hx (by rw[e,HSX.out,HE.out])⟩
    have F5:=F3.trans f5;clear f5 hno hfi k1;go_wp2;go_ret2;exact⟨a,k,rfl,HK,F5⟩
  ·obtain rfl:k=n:=by omega
   obtain rfl:i= -1:=by omega
   have HK:=show Kn l nm (lowN L) a k from⟨by rw[zzk,HN.out];exact Nat.le_refl _,HP.out,HE.out,fun hlt=>by rw[zzk,HN.out]at hlt;omega⟩;go_wp2;go_ret2;exact⟨a,k,rfl,HK,F3.out⟩
def PinX(p:Nat)(v:Value)(w:World)(l:List Nat)(par own:Nat→Nat)(nm:Nat→List (List Nat))(ck:Nat)(N:List (List Nat))(e:Ending)(w':World):Prop:=
 Fr (ownS v) w w'∧((ck≠0∧e= .returned (.tuple #[(0:Int),(0:Int),ck])∧DD w' p v l par own nm)∨(ck=0∧ ∃at_ k:Nat,e= .returned (.tuple #[at_,k,(0:Int)])∧Kn l nm N at_ k∧DD w' p v l par (ownP own at_) nm))
theorem DD.hold(h:IsD W p v l par (up (fun y=>own y+bel par l y) a (own a+bel par l a+1)) (hdL nm))(h0:a≠0):DD W p v l par (ownP own a) nm:=
 IsD.congr h (fun y hy=>⟨rfl,by
  rw[ownP,if_neg h0];by_cases e:y=a
  ·rw[e,zf1,zf1];omega
  ·rw[zf2 _ _ e,zf2 _ _ e],rfl⟩)
theorem xpin(h:DD w p v l par own nm)(d:DN l par own nm)(ad:Option Addr)(cap:Nat)(L:List (List Nat))(hA:StrA w ad L)(hb:zzj L≤1000000)(ho:∀y,own y≤900000000):Calls prog 116 #[some p,.slice ad L.length cap] w (PinX p v w l par own nm (chkN L) (lowN L)):=by
 have hck:=z1o w ad cap L hA (by omega);have hkn:=z1q h d ad cap L hA hb;have HHo:=hid (fun W (hf:Fr [] w W) (a:Nat) (ha:a∈l)=>z1f (IsN.fr0 h hf) d.nd (by have:=d.few;omega) ha (by have:=ho a;have:=zxf par l a;have:=d.few;omega));generalize hn:L.length=n at hck hkn⊢;clear d hA hn hb ho;generalize chkN L=ck at*;generalize lowN L=N at*;go_in;go_wp2_with fail;go_call hck as e w1 ⟨rfl,rfl⟩;clear hck;by_cases hc:ck=0
 ·subst hc
  go_wp2_with fail;go_call hkn as e w2 ⟨a,k,rfl,h1,f2⟩;clear hkn;by_cases h0:a=0
  ·subst h0
   have HR:=show DD w2 p v l par (ownP own 0) nm from by rw[ownP,if_pos rfl];exact h.fr0 f2
   go_wp2;go_ret3;exact⟨f2.nil,.inr ⟨rfl,0,k,rfl,h1,HR⟩⟩
  ·have b2:((a:Int) !=0)=true:=by rw[bne_iff_ne];omega
   have b2':(a !=0)=true:=by rw[bne_iff_ne];exact h0
   have hho:=HHo.out _ f2 a (h1.pl.resolve_left h0);have H0:=hid h0;clear h0;go_wp2_with fail;go_call hho as e w3 ⟨rfl,h3,f3⟩;have H3:=hid (And.intro h3 f3);clear hho h3 f3;go_wp2;go_ret3;exact⟨f2.nil.trans H3.2,.inr ⟨rfl,a,k,rfl,h1,DD.hold H3.1 H0.out⟩⟩
 ·have b1:((ck:Int) !=0)=true:=by rw[bne_iff_ne];omega
  have b1':(ck !=0)=true:=by rw[bne_iff_ne];exact hc
  have HC:=hid hc;clear hc hkn;go_wp2;go_ret3;exact⟨Fr.refl _ _,.inl ⟨HC.out,rfl,h⟩⟩
def DrpX(p:Nat)(v:Value)(w:World)(l:List Nat)(par own:Nat→Nat)(nm:Nat→List (List Nat))(e:Ending)(w':World):Prop:=
 ∃(n:Nat) (l1:List Nat) (v':Value),e= .returned (.tuple #[(n:Nat),(0:Int)])∧DD w' p v' l1 par own nm∧Rem own par l l1∧n+l1.length=l.length∧Firm own par l1∧Nx p v w v' w'
theorem z1r(h:DD w p v l par own nm)(d:DN l par own nm)(hx:x∈l)(k:Nat)(ho:own x=k+1)(ho2:∀y,own y≤900000000):Calls prog 87 #[some p,x] w (DrpX p v w l par (up own x k) nm):=
 (z1i (up own x k) par (hdL nm) p l.length rfl (by have:=d.few;omega) h ⟨d.nd,hx,fun y _=>by
  by_cases e:y=x
  ·rw[e,if_pos rfl,zf1,ho];omega
  ·rw[if_neg e,zf2 _ _ e];rfl,fun y hy hne h0=>by
  rw[zf2 _ _ hne]at h0;exact d.firm y hy h0,d.ux,d.nz,fun y hy=>by
  by_cases e:y=x
  ·rw[e,zf1];have:=ho2 x;omega
  ·rw[zf2 _ _ e];exact ho2 y⟩).mono fun e w' ⟨n,l1,R1,v',h1,h2,h3,h4,h5,h6,h7⟩=>⟨n,l1,v',h1,IsD.congr h2 (fun y hy=>⟨rfl,(h5 y hy).symm,rfl⟩),h3,h4,h6,h7⟩
theorem z1s(h:DD w p v l par own nm)(d:DN l par own nm)(hx:x∈l)(k:Nat)(ho:own x=k+1)(ho2:∀y,own y≤900000000):Calls prog 60 #[some p,x] w (DrpX p v w l par (up own x k) nm):=by
 have hlet:=z1r h d hx k ho ho2;have hx0:=d.nz x hx;have b1:((x:Int)==0)=false:=by rw[beq_eq_false_iff_ne];omega
 have b1':(x==0)=false:=by rw[beq_eq_false_iff_ne];omega
 clear h d hx ho ho2 hx0;go_in;go_wp2_with fail;go_call hlet as e w1 ⟨n,l1,v',rfl,h2⟩;clear hlet;go_wp2;go_ret2;exact⟨n,l1,v',rfl,h2⟩
theorem z1t:Calls prog 60 #[some p,(0:Int)] w (zE (.tuple #[(0:Int),(0:Int)]) w):=by
 go_in;go_wp2;go_ret2;exact⟨rfl,rfl⟩
end
section
variable{w W:World}{l:List Nat}{par own:Nat→Nat}{nm:Nat→List (List Nat)}{x p a:Nat}{b s:List Nat}{v:Value}
theorem z1u(nm:Nat→List (List Nat))(x:Nat)(s:List Nat)(t:List (List Nat))(y:Nat):hdL (up nm x (s::t)) y=up (hdL nm) x s y:=by
 by_cases e:y=x
 ·rw[e,hdL,zf1,zf1];rfl
 ·rw[hdL,zf2 _ _ e,zf2 _ _ e];rfl
structure GrQ(l:List Nat)(par own:Nat→Nat)(x a:Nat):Prop where
 nx:x∉l
 x0:x≠0
 pa:a=0∨(a∈l∧own a≠0)
theorem GrQ.ne(g:GrQ l par own x a):a≠x:=fun e=>by
 rcases g.pa with h|⟨h,_⟩
 ·exact g.x0 (e.symm.trans h)
 ·exact g.nx (e▸h)
theorem GrQ.nez(g:GrQ l par own x a){z:Nat}(hz:z∈l):z≠x:=fun e=>g.nx (e▸hz)
theorem GrQ.bel0(g:GrQ l par own x a)(hu:∀y∈l,par y=0∨par y∈l):bel par l x=0:=by
 rcases Nat.eq_zero_or_pos (bel par l x)with h|h
 ·exact h
 ·obtain⟨z,hz,e⟩:=bel_pos.1 (by omega:bel par l x≠0)
  rcases hu z hz with h|h
  ·exact absurd (e.symm.trans h) g.x0
  ·exact absurd (e▸h) g.nx
theorem GrQ.bel(g:GrQ l par own x a)(y:Nat):bel (up par x a) (l++ [x]) y=bel par l y+(if a=y then 1 else 0):=by
 rw[zxd,zf1,zxe (fun z hz=>zf2 _ _ (g.nez hz))]
theorem GrQ.firm(g:GrQ l par own x a)(hf:Firm own par l):Firm (ownG own x a) (up par x a) (l++ [x]):=fun y hy h0=>by
 by_cases ea:y=a
 ·exact⟨x,by simp,by rw[zf1,ea]⟩
 ·by_cases ex:y=x
  ·exfalso
   subst ex;unfold ownG at h0;split at h0
   ·rw[zf1]at h0;cases h0
   ·rw[zf2 _ _ ea,zf1]at h0;cases h0
  ·have h1:own y=0:=by
    unfold ownG at h0;split at h0
    ·rwa[zf2 _ _ ex]at h0
    ·rwa[zf2 _ _ ea,zf2 _ _ ex]at h0
   obtain⟨z,hz,e⟩:=hf y (by
    rcases List.mem_append.1 hy with h|h
    ·exact h
    ·exact absurd (List.mem_singleton.1 h) ex) h1
   exact⟨z,List.mem_append_left _ hz,by rw[zf2 _ _ (g.nez hz)];exact e⟩
theorem GrQ.root(g:GrQ l par own x 0)(hu:∀y∈l,par y=0∨par y∈l)(hz:∀y∈l,y≠0):∀y∈l++ [x],ownG own x 0 y+Go.Proofs.YtghllbkjghnmhaaGreatDoor.bel (up par x 0) (l++ [x]) y=up (up (z1k (fun y=>own y+Go.Proofs.YtghllbkjghnmhaaGreatDoor.bel par l y) 0) x 0) x 1 y:=fun y hy=>by
 rw[g.bel,ownG,if_pos rfl,z1k,if_pos rfl];by_cases ex:y=x
 ·rw[ex,zf1,zf1,g.bel0 hu,if_neg (fun e=>g.x0 e.symm)]
 ·rw[zf2 _ _ ex,zf2 _ _ ex,zf2 _ _ ex]
  have hyl:y∈l:=by
   rcases List.mem_append.1 hy with h|h
   ·exact h
   ·exact absurd (List.mem_singleton.1 h) ex
  rw[if_neg (fun e=>hz y hyl e.symm)];rfl
theorem GrQ.letq(g:GrQ l par own x a)(h0:a≠0)(d:DN l par own nm)(ho:∀y,own y≤900000000):LetQ (l++ [x]) (up par x a) (ownG own x a) (up (up (z1k (fun y=>own y+Go.Proofs.YtghllbkjghnmhaaGreatDoor.bel par l y) a) x 0) x 1) a:=by
 obtain⟨hal,hoa⟩:=g.pa.resolve_left h0;have hne:=g.ne;refine⟨?_,List.mem_append_left _ hal,fun y _=> ?_,fun y hy _ h=>g.firm d.firm y hy h,fun y hy=> ?_,fun y hy=> ?_,fun y _=> ?_⟩
 ·rw[List.nodup_append]
  exact⟨d.nd,by simp,fun y hy z hz e=>by rw[List.mem_singleton]at hz;subst hz;exact g.nx (e▸hy)⟩
 ·rw[g.bel,ownG,if_neg h0,z1k,if_neg h0]
  by_cases ex:y=x
  ·rw[ex,zf1,zf2 _ _ hne.symm,zf1,g.bel0 d.ux,if_neg hne,if_neg hne.symm]
  ·rw[zf2 _ _ ex,zf2 _ _ ex]
   by_cases ea:y=a
   ·rw[ea,zf1,zf1,if_pos rfl];omega
   ·rw[zf2 _ _ ea,zf2 _ _ ea,zf2 _ _ ex,if_neg (fun e=>ea e.symm),if_neg ea];rfl
 ·rcases List.mem_append.1 hy with h|h
  ·rw[zf2 _ _ (g.nez h)]
   rcases d.ux y h with h|h
   ·exact .inl h
   ·exact .inr (List.mem_append_left _ h)
  ·rw[List.mem_singleton.1 h,zf1]
   exact .inr (List.mem_append_left _ hal)
 ·rcases List.mem_append.1 hy with h|h
  ·exact d.nz y h
  ·rw[List.mem_singleton.1 h];exact g.x0
 ·rw[ownG,if_neg h0]
  by_cases ea:y=a
  ·rw[ea,zf1];have:=ho a;omega
  ·rw[zf2 _ _ ea]
   by_cases ex:y=x
   ·rw[ex,zf1];omega
   ·rw[zf2 _ _ ex];exact ho y
def GwX(p:Nat)(v:Value)(w:World)(l:List Nat)(par own:Nat→Nat)(nm:Nat→List (List Nat))(x a:Nat)(s:List Nat)(e:Ending)(w':World):Prop:=
 ∃v',e= .returned (0:Int)∧DD w' p v' (l++ [x]) (up par x a) (ownG own x a) (up nm x (s::nm a))∧Nx p v w v' w'
theorem z1v(h:DD w p v l par own nm)(d:DN l par own nm)(g:GrQ l par own x a)(hb:∀k∈b,k<256)(hk:zuz b=true)(hno:∀y∈l,nm y≠b.map lowB::nm a)(ho:∀y,own y≤900000000):Calls prog 119 #[some p,a,x,.string (za0 b)] w (GwX p v w l par own nm x a (b.map lowB)):=by
 have hfew:=d.few;have hmk:=z1m h d.nd (by omega) d.bx g.nx (g.pa.imp id (·.1)) (by have:=ho a;have:=zxf par l a;omega) hb hk (fun y hy hp e=>hno y hy (by rw[d.sx y hy,e,hp]));have hlen:(l++ [x]).length=l.length+1:=by simp
 have hnd:(l++ [x]).Nodup:=by
  rw[List.nodup_append];exact⟨d.nd,by simp,fun y hy z hz e=>by rw[List.mem_singleton]at hz;subst hz;exact g.nx (e▸hy)⟩
 have HHo:=hid (fun W v' (hW:IsD W p v' (l++ [x]) (up par x a) (up (z1k (fun y=>own y+bel par l y) a) x 0) (up (hdL nm) x (b.map lowB)))=>by
  have:=z1f (x:=x) hW hnd (by omega) (by simp) (by rw[zf1];omega);rwa[zf1]at this)
 have HLt:=hid (fun(h0:a≠0) W v' (hW:IsD W p v' (l++ [x]) (up par x a) (up (up (z1k (fun y=>own y+bel par l y) a) x 0) x 1) (up (hdL nm) x (b.map lowB)))=>z1i (ownG own x a) (up par x a) (up (hdL nm) x (b.map lowB)) p (l++ [x]).length rfl (by omega) hW (g.letq h0 d ho));have HL1:=hid (fun l1 (hr:Rem (ownG own x a) (up par x a) (l++ [x]) l1) (hf:Firm (ownG own x a) (up par x a) l1)=>hr.uniq (.refl _) hf (g.firm d.firm) hnd);have hax:=g.ne;generalize za0 b=S at*;generalize b.map lowB=s at*;clear h hb hk hno ho hfew hlen hnd;go_in;go_wp2_with fail;go_call hmk as e w1 ⟨v1,rfl,h1,n1⟩;have hho:=HHo.out _ _ h1;clear hmk h1;go_wp2_with fail;go_call hho as e w2 ⟨rfl,h2,f2⟩;have N2:=n1.trans ⟨f2.mono (fun k hk=> .inl (List.mem_cons_of_mem p hk)),fun k hk=> .inl hk⟩;clear hho f2;by_cases h0:a=0
 ·subst h0
  have HR:=show DD w2 p v1 (l++ [x]) (up par x 0) (ownG own x 0) (up nm x (s::nm 0))from IsD.congr h2 (fun y hy=>⟨rfl,g.root d.ux d.nz y hy,z1u nm x s _ y⟩);clear HLt;go_wp2;go_ret;exact⟨v1,rfl,HR,N2⟩
 ·have b1:((a:Int) !=0)=true:=by rw[bne_iff_ne];omega
  have b1':(a !=0)=true:=by rw[bne_iff_ne];exact h0
  have hlt:=HLt.out h0 _ _ h2;clear h0;go_wp2_with fail;go_call hlt as e w3 ⟨k,l1,R1,v3,rfl,h3,h4,-,h5,h6,h7⟩;obtain rfl:=HL1.out l1 h4 h6;have HR:=show DD w3 p v3 (l++ [x]) (up par x a) (ownG own x a) (up nm x (s::nm a))from IsD.congr h3 (fun y hy=>⟨rfl,(h5 y hy).symm,z1u nm x s _ y⟩);have N3:=N2.trans h7;clear h3 h4 h5 h6 h7 hlt;go_wp2;go_ret;exact⟨v3,rfl,HR,N3⟩
end
section
variable{w W:World}{l:List Nat}{par own:Nat→Nat}{nm:Nat→List (List Nat)}{x p a:Nat}{s:List Nat}{v:Value}
theorem z1w(h:DD w p v l par own nm)(d:DN l par own nm)(hx:x=0∨x∈l):Calls prog 93 #[some p,x] w fun e w'=>∃ad cap,e= .returned (.tuple #[.slice ad (nm x).length cap,(0:Int)])∧StrA w' ad (nm x)∧Fr [] w w':=by
 have HD:=h;have HAt:=hid (fun W (hf:Fr [] w W) (a:Nat) (ha:a∈l)=>z1e (IsN.fr0 h hf) (by have:=d.few;omega) ha);have hm:=d.len x hx;have HX:=hid hx;generalize hM:nm x=M at hm⊢;have HM:=hid hM;obtain⟨n,hn⟩:∃n,M.length=n:=⟨_,rfl⟩;have HL:=hid hn;rw[hn]at hm⊢;clear h hx hM hn;go_in;go_wp2;go_loopg [1,6] (n+1) (fun gk v1 v6 W=>∃a k:Nat,v1= .int .i64 a∧(k+gk=n+1∧k≤n)∧Hid (a=0∨a∈l)∧Hid (nm a=M.drop k)∧Hid (∀s∈M.take k,zuz s=true)∧Hid (W.ownsRow w.heap.size 9 1 v6 (M.take k).length (strC (M.take k)))∧Hid (Fr [] w W));case atStart=>exact⟨x,0,rfl,by omega,HX,hid (by rw[HM.out];rfl),hid (fun s hs=>by simp at hs),hid (World.ownsRow_nil _ _ _ _),hid (Fr.refl [] w)⟩
 case round=>
  obtain⟨a,k,rfl,hk,HP,HE,HB,HR,F3⟩:=hrel;by_cases h0:a=0
  ·subst h0
   have hkn:k=n:=by
    have:=congrArg List.length HE.out;rw[d.z0,List.length_drop,HL.out]at this;simp at this;omega
   subst hkn;have hR:=HR.out;have hB:=HB.out;rw[←HL.out,List.take_length]at hR hB;obtain⟨ad',cap',rfl,k1,k2,k3,k4⟩:=zz9 hR (fun s hs=>z0a (hB s hs)) (fun s hs=>(zxu (hB s hs)).2);rw[HL.out]at*;clear k1 k2 k4 hR HR hB;go_wp2;go_ret2;exact⟨ad',⟨cap',rfl⟩,k3,F3.out⟩
  ·have hal:=HP.resolve_left h0
   have b1:((a:Int) !=0)=true:=by rw[bne_iff_ne];omega
   have b1':(a !=0)=true:=by rw[bne_iff_ne];exact h0
   have hat:=HAt.out _ F3.out a hal;have hsx:=d.sx a hal
   have hkn:k<n:=by
    have:=congrArg List.length HE.out;rw[hsx,List.length_drop,HL.out]at this;simp at this;omega
   have hdr:M.drop k=hdL nm a::nm (par a):=by rw[←HE.out];exact hsx
   have hgt:M[k]?=some (hdL nm a):=by rw[List.getElem?_eq_some_iff];refine⟨by rw[HL.out];exact hkn,?_⟩;rw[List.drop_eq_getElem_cons (by rw[HL.out];exact hkn)]at hdr;injection hdr
   have HE':=hid (show nm (par a)=M.drop (k+1)from by
    rw[List.drop_eq_getElem_cons (by rw[HL.out];exact hkn)]at hdr;injection hdr with _ e;exact e.symm)
   have HT:=hid (show M.take (k+1)=M.take k++ [hdL nm a]from by rw[List.take_add_one,hgt,Option.toList_some])
   have HB':=hid (show∀s∈M.take (k+1),zuz s=true from fun s hs=>by
    rw[HT.out]at hs;rcases List.mem_append.1 hs with h|h
    ·exact HB.out s h
    ·rw[List.mem_singleton]at h;rw[h];exact d.lab a hal)
   have HP':=hid (d.ux a hal);have hln:(M.take k).length≤1048576:=by rw[List.length_take];omega
   clear h0 hal hsx hdr hgt;go_wp2_with fail;go_call hat as e w4 ⟨⟨i,rfl,hi⟩,rfl⟩;have b2:=dF ((i:Int)<0);have hlt:=(List.getElem?_eq_some_iff.1 hi).1;have hI4:=HD.fr0 F3.out;have hst:=hI4.st.cell 0;simp only[List.getElem?_toArray,List.getElem?_cons_zero]at hst;obtain⟨ad,cap,ev,hrow⟩:=IsN.row hI4;rw[List.length_map]at ev hrow;obtain⟨g,rfl,hg,hr⟩:=hrow (by omega);rw[ev]at hst;obtain⟨-,-,c2,-⟩:=hr.four (d:=nd4 par (fun y=>own y+bel par l y) (hdL nm) a) (by rw[List.getElem?_map,hi];rfl)
   have HC:=hid (fun W (hW:Fr [] w W)=>(show W.cell? ⟨p,0,none⟩=some (.slice (some ⟨g,0,none⟩) l.length cap)∧W.cell? ⟨g,i*4+1,none⟩=some (.int .i64 (par a))from by
    have hI:=HD.fr0 hW;have hs:=hI.st.cell 0;simp only[List.getElem?_toArray,List.getElem?_cons_zero]at hs;rw[ev]at hs;refine⟨hs,?_⟩;have hI':IsD W p (.slice (some ⟨g,0,none⟩) l.length cap) l par (fun y=>own y+bel par l y) (hdL nm):=ev▸hI;exact((hI'.rowg (by omega)).1.four (d:=nd4 par (fun y=>own y+bel par l y) (hdL nm) a) (by rw[List.getElem?_map,hi];rfl)).2.1))
   have i0:(0:Int)≤i:=by omega
   have i1:(i:Int)<l.length:=by omega
   rw[show(nd4 par (fun y=>own y+bel par l y) (hdL nm) a).s=hdL nm a from rfl]at c2;have hb4:=F3.size;have R4:=HR;generalize M.take k=K at*;generalize hdL nm a=t at*;obtain⟨S0,hS0⟩:∃S0,za0 t=S0:=⟨_,rfl⟩;have HS0:=hid hS0;rw[hS0]at c2;generalize hll:l.length=ll at*;generalize par a=pa at*;clear hat hr hrow hI4 hi ev hS0 hll hlt;go_wp2_with (first|(at_builtin;refine z0n rfl _ _ rfl rfl w.heap.size _ K rfl t w4 (by rw[HS0.out]) R4.out rfl hln hb4 ?_;intro g1 q1 W1 hO1 hF1 hob1;have F5:=hid (F3.step hF1 (fun k hk=> .inr (R4.lt k (zhv hk)).1));have HO:=hid hO1;obtain⟨d0,d1⟩:=HC.out _ F5.out;clear hO1 hF1 hob1)|fail);go_roundg (gk-1);case measure=>omega
   case rel=>exact⟨pa,k+1,rfl,by omega,HP',HE',HB',hid (by rw[HT.out];exact HO.out),F5⟩
end
section
variable{w W:World}{l:List Nat}{par own:Nat→Nat}{nm:Nat→List (List Nat)}{x p:Nat}{v:Value}
theorem DD.len(h:DD W p v l par own nm):∃ad cap,v= .slice ad l.length cap:=by
 obtain⟨ad,cap,e,-⟩:=IsN.row h;rw[List.length_map]at e;exact⟨ad,cap,e⟩
theorem DD.c0(h:DD W p v l par own nm):W.cell? ⟨p,0,none⟩=some v:=by
 have:=h.st.cell 0;simpa using this
theorem DD.cells(h:DD w p v l par own nm){i:Nat}(hi:l[i]?=some x):∃g cap,v= .slice (some ⟨g,0,none⟩) l.length cap∧i<l.length∧∀W,DD W p v l par own nm→W.cell? ⟨p,0,none⟩=some (.slice (some ⟨g,0,none⟩) l.length cap)∧W.cell? ⟨g,i*4,none⟩=some (.int .i64 x)∧W.cell? ⟨g,i*4+3,none⟩=some (.int .i64 (own x+bel par l x:Nat)):=by
 have hlt:=(List.getElem?_eq_some_iff.1 hi).1;obtain⟨ad,cap,ev,hrow⟩:=IsN.row h;rw[List.length_map]at ev hrow;obtain⟨g,rfl,_⟩:=hrow (by omega);refine⟨g,cap,ev,hlt,fun W hW=> ?_⟩;subst ev;obtain⟨k0,_,_,k3⟩:=((IsD.rowg hW (by omega)).1.four (d:=nd4 par (fun y=>own y+bel par l y) (hdL nm) x) (by rw[List.getElem?_map,hi];rfl));exact⟨hW.c0,k0,k3⟩
end
section
variable{w0 w W W':World}{q:MH}{u0:EW}{l:List Nat}{par refs own:Nat→Nat}{B:Nat→List Nat}{nm:Nat→List (List Nat)}{fr x p at_:Nat}{b:List Nat}{v:Value}{N:List (List Nat)}{k j:Nat}{lj:List Nat}{parj:Nat→Nat}{nmj:Nat→List (List Nat)}{frj:Nat}
theorem GwI.undo0(g:GwI w0 q u0 l par own nm N k j 0 lj parj nmj frj W)(hk:k+j≤N.length):CP w0 q u0 l par own nm frj W:=by
 have h0:k+j=0:=by
  have:=congrArg List.length g.ew;rw[g.cp.z,zzg hk]at this;exact this.symm
 have hl:l=lj:=g.rem.sub.eq_of_length (by rw[g.len];omega);have:=g.cp;rw[←hl]at this;exact this.congr (fun y hy=>(g.pa y hy).symm) (fun y=>by unfold ownP;rw[if_pos rfl]) (fun y hy=>(g.na y hy).symm)
theorem z1x(h:CP w0 q u0 l par own nm fr W)(hb:∀k∈b,k<256)(hk:zuz b=true):Calls prog 117 #[.string (za0 b)] W (zR (.tuple #[.int .i64 (clsN (16+b.length)),(0:Int)]) fun w'=>Fr [] W w'):=by
 obtain⟨refs,B,⟨S,L,u,E,B0,g,_⟩,_⟩:=h;have:=zv9 g.wb.h.m.tab b hb;rw[if_pos hk]at this;exact this
theorem StrA.frN{S:List Nat}{ad:Option Addr}{L:List (List Nat)}(h:StrA w ad L)(hf:Fr S w W)(hS:0<L.length→∀g o,ad=some ⟨g,o,none⟩→g∉S):StrA W ad L:=
 ⟨fun i hi=>by
  obtain⟨g,o,ha,hc,hg⟩:=h.at_ i hi;exact⟨g,o,ha,(hf.cell (p:=⟨g,o+i,none⟩) hg (hS (by omega) g o ha)).trans hc,Nat.lt_of_lt_of_le hg hf.size⟩,h.lt,h.each,h.len⟩
theorem z1y(hx0:x≠0)(h0:own x=0)(hp:at_≠x):ownG (ownP own at_) x at_=ownP own x:=funext fun y=>by
 by_cases ha:at_=0
 ·subst ha
  unfold ownG;rw[if_pos rfl];by_cases e:y=x
  ·subst e
   rw[zf1,z0j _ hx0,h0]
  ·rw[zf2 _ _ e,z0k _ e]
   unfold ownP;rw[if_pos rfl]
 ·unfold ownG
  rw[if_neg ha];by_cases e:y=x
  ·subst e
   rw[zf2 _ _ (fun e=>hp e.symm),zf1,z0j _ hx0,h0]
  ·by_cases e2:y=at_
   ·subst e2
    rw[zf1,z0j _ ha,z0k _ e];omega
   ·rw[zf2 _ _ e2,zf2 _ _ e,z0k _ e,z0k _ e2]
theorem GwI.back(g:GwI w0 q u0 l par own nm N k j at_ lj parj nmj frj W')(h:DD W p v l parj own nmj):DD W p v l par own nm:=
 IsD.congr h (fun y hy=>⟨(g.pa y hy).symm,by rw[zxe (fun z hz=>(g.pa z hz).symm)],by rw[hdL,hdL,g.na y (.inr hy)]⟩)
theorem GwI.undoD(g:GwI w0 q u0 l par own nm N k j at_ lj parj nmj frj W')(hF:Firm own par l)(hat:at_≠0){l1:List Nat}(h1:DD W p v l1 parj (up (ownP own at_) at_ (own at_)) nmj)(h2:Rem (up (ownP own at_) at_ (own at_)) parj lj l1)(h3:Firm (up (ownP own at_) at_ (own at_)) parj l1):DD W p v l par own nm:=by
 have eo:up (ownP own at_) at_ (own at_)=own:=funext fun y=>by
  by_cases e:y=at_
  ·rw[e,zf1]
  ·rw[zf2 _ _ e,z0k _ e]
 rw[eo]at h1 h2 h3
 have hF':Firm own parj l:=fun y hy h0=>by
  obtain⟨z,hz,e⟩:=hF y hy h0;exact⟨z,hz,by rw[g.pa z hz];exact e⟩
 have hl:l1=l:=h2.uniq g.rem h3 hF' g.cp.nd;subst hl;exact g.back h1
theorem GwI.undoD0(g:GwI w0 q u0 l par own nm N k j 0 lj parj nmj frj W')(hk:k+j≤N.length)(h1:DD W p v lj parj (ownP own 0) nmj):DD W p v l par own nm:=by
 have h0:k+j=0:=by
  have:=congrArg List.length g.ew;rw[g.cp.z,zzg hk]at this;exact this.symm
 have hl:l=lj:=g.rem.sub.eq_of_length (by rw[g.len];omega);rw[←hl]at h1;have eo:ownP own 0=own:=by unfold ownP;rw[if_pos rfl]
 rw[eo]at h1;exact g.back h1
end
end Go.Proofs.YtghllbkjghnmhaaGreatDoor
