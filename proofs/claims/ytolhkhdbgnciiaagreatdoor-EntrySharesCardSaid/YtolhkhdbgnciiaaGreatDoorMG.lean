/- Several texts in one. -/
import Derived.Test.YtolhkhdbgnciiaaGreatDoorMF
namespace Go.Proofs.YtolhkhdbgnciiaaGreatDoor
open _root_.Go.Proofs.Tryz
open Go.Lib (hid)
open Go.IntWalk (i64_in)
set_option linter.unusedVariables false
set_option linter.unusedSimpArgs false
open Go.RowKit
theorem Rem.trans{own par:Nat→Nat}{l m k:List Nat}(h:Rem own par l m)(h2:Rem own par m k):Rem own par l k:=by
 induction h2 with
 |refl=>exact h
 |step _ h3 h4 h5 ih=>exact .step ih h3 h4 h5
section
end
structure zfi(w0:World)(q:MH)(base:Nat):Prop where
 q: ∀k∈q.blocks,k<base
 g:5≤base
 w:w0.heap.size≤base
section
variable {w0 W W' : World} {q : MH} {S : SS} {u : TM} {u0 : EW} {L : Nat → Prop} {l : List Nat} {E : Nat → HB} {B : Nat → List Nat} {par refs : Nat → Nat} {fr base : Nat} {Bs : List Nat}
theorem WB.frL(g:WB w0 q S L u E B W)(ok:zfi w0 q base)(hf:Fr Bs W W')(hB:∀k∈Bs,base≤k):WB w0 q S L u E B W':=
 ⟨⟨g.h.m.fr hf (fun k hk hm=>by have:=ok.q k hk;have:=hB k hm;omega) (fun k hk hm=>by have:=hB k hm;have:=ok.g;omega),g.h.tabs.fr hf (fun k hk=>by have:=hB k hk;have:=ok.g;omega),g.h.hi⟩,g.sl,g.ix,g.rh,g.ct,g.a,g.s,g.ft,g.f.step hf (fun k hk=> .inr (Nat.le_trans ok.w (hB k hk))),g.hq,g.fl⟩
theorem NI.frL(g:NI w0 q S L l u E B W)(ok:zfi w0 q base)(hf:Fr Bs W W')(hB:∀k∈Bs,base≤k):NI w0 q S L l u E B W':=⟨g.wb.frL ok hf hB,g.nd,g.mem,g.cnt,g.inx,g.up,g.hs,g.lb,g.one⟩
theorem NP.frL(g:NP w0 q u0 l par refs B fr W)(ok:zfi w0 q base)(hf:Fr Bs W W')(hB:∀k∈Bs,base≤k):NP w0 q u0 l par refs B fr W':=by
 obtain⟨S,L,u,E,B0,h1,h2⟩:=g;exact⟨S,L,u,E,B0,h1.frL ok hf hB,h2⟩
theorem NP.bok(g:NP w0 q u0 l par refs B fr W):zfi w0 q W.heap.size:=by
 obtain⟨S,L,u,E,B0,h1,h2⟩:=g;refine⟨h1.wb.lt,?_,h1.wb.f.size⟩;have h1':=h1.wb.h.m.tab.size;have h2':=h1.wb.h.tabs.size;omega
end
structure NmOk(l:List Nat)(par:Nat→Nat)(B:Nat→List Nat)(nm:Nat→List (List Nat)):Prop where
 z:nm 0= []
 s: ∀y∈l,nm y=B y::nm (par y)
def CP(w0:World)(q:MH)(u0:EW)(l:List Nat)(par own:Nat→Nat)(nm:Nat→List (List Nat))(fr:Nat)(W:World):Prop:=
 ∃refs B,NP w0 q u0 l par refs B fr W∧NmOk l par B nm∧(∀y∈l,refs y=own y+bel par l y)∧Firm own par l∧(∀y,y∉l→own y=0)
section
variable {w0 W W' : World} {q : MH} {u0 : EW} {l : List Nat} {par refs own : Nat → Nat} {B : Nat → List Nat} {nm : Nat → List (List Nat)} {fr x a : Nat} {b : List Nat}
theorem NP.one(h:NP w0 q u0 l par refs B fr W){x y:Nat}(hx:x∈l)(hy:y∈l)(h1:par x=par y)(h2:B x=B y):x=y:=by
 obtain⟨S,L,u,E,B0,g,ha,hrt,r,hf⟩:=h;exact g.one x hx y hy (by rw[(r x hx).1,(r y hy).1,h1]) (by rw[(r x hx).2.2,(r y hy).2.2,h2])
theorem NmOk.ne(k:NmOk l par B nm){y:Nat}(hy:y∈l):nm y≠ [] :=by rw[k.s y hy];exact List.cons_ne_nil _ _
theorem zml(h:NP w0 q u0 l par refs B fr W)(k:NmOk l par B nm):∀(n:Nat) {x y:Nat},(nm x).length≤n→(x=0∨x∈l)→(y=0∨y∈l)→nm x=nm y→x=y
 |n,x,y,hn,.inl hx,.inl hy,e=>hx.trans hy.symm
 |n,x,y,hn,.inl hx,.inr hy,e=>absurd (e.symm.trans (hx▸k.z)) (k.ne hy)
 |n,x,y,hn,.inr hx,.inl hy,e=>absurd (e.trans (hy▸k.z)) (k.ne hx)
 |0,x,y,hn,.inr hx,.inr hy,e=>absurd (List.length_eq_zero_iff.1 (Nat.le_zero.1 hn)) (k.ne hx)
 |n+1,x,y,hn,.inr hx,.inr hy,e=>by
  rw[k.s x hx]at hn;rw[k.s x hx,k.s y hy]at e;injection e with e1 e2;rw[List.length_cons]at hn;exact h.one hx hy (zml h k n (by omega) (h.up hx) (h.up hy) e2) e1
theorem ztn(h:NP w0 q u0 l par refs B fr W)(k:NmOk l par B nm):∀(s t:List (List Nat)) {y:Nat},(y=0∨y∈l)→nm y=s++t→∃z,(z=0∨z∈l)∧nm z=t
 | [],t,y,hy,e=>⟨y,hy,e⟩
 |a::s,t,y,.inl hy,e=>by rw[hy,k.z]at e;cases e
 |a::s,t,y,.inr hy,e=>by
  rw[k.s y hy]at e;injection e with e1 e2;exact ztn h k s t (h.up hy) e2
theorem CP.inj(h:CP w0 q u0 l par own nm fr W){x y:Nat}(hx:x=0∨x∈l)(hy:y=0∨y∈l)(e:nm x=nm y):x=y:=by
 obtain⟨refs,B,h1,h2,_⟩:=h;exact zml h1 h2 _ (Nat.le_refl _) hx hy e
theorem CP.suf(h:CP w0 q u0 l par own nm fr W){y:Nat}(hy:y=0∨y∈l){s t:List (List Nat)}(e:nm y=s++t):∃z,(z=0∨z∈l)∧nm z=t:=by
 obtain⟨refs,B,h1,h2,_⟩:=h;exact ztn h1 h2 s t hy e
theorem CP.z(h:CP w0 q u0 l par own nm fr W):nm 0= [] :=by
 obtain⟨refs,B,h1,h2,_⟩:=h;exact h2.z
theorem CP.nd(h:CP w0 q u0 l par own nm fr W):l.Nodup:=by
 obtain⟨refs,B,h1,_⟩:=h;exact h1.nd
theorem CP.few(h:CP w0 q u0 l par own nm fr W):l.length≤224:=by
 obtain⟨refs,B,h1,_⟩:=h;exact h1.few
theorem CP.rng(h:CP w0 q u0 l par own nm fr W)(hx:x∈l):x≠0∧x<1048576:=by
 obtain⟨refs,B,h1,_⟩:=h;exact h1.rng hx
theorem CP.fr0(h:CP w0 q u0 l par own nm fr W)(hf:Fr [] W W'):CP w0 q u0 l par own nm fr W':=by
 obtain⟨refs,B,h1,h2⟩:=h;exact⟨refs,B,h1.fr0 hf,h2⟩
theorem CP.lab(h:CP w0 q u0 l par own nm fr W)(hx:x∈l):∀s∈nm x,zap s=true∧s.map lowB=s:=by
 obtain⟨refs,B,h1,h2,_⟩:=h
 have:∀(n:Nat) {y:Nat},(nm y).length≤n→(y=0∨y∈l)→∀s∈nm y,zap s=true∧s.map lowB=s:=fun n=>by
  induction n with
  |zero=>
   intro y hn hy s hs;rw[List.length_eq_zero_iff.1 (Nat.le_zero.1 hn)]at hs;cases hs
  |succ n ih=>
   intro y hn hy s hs;rcases hy with hy|hy
   ·rw[hy,h2.z]at hs;cases hs
   ·rw[h2.s y hy]at hs hn
    rcases List.mem_cons.1 hs with e|hs
    ·rw[e];exact h1.lab hy
    ·exact ih (by rw[List.length_cons]at hn;omega) (h1.up hy) s hs
 exact this _ (Nat.le_refl _) (.inr hx)
theorem zyi(h:CP w0 q u0 l par own nm fr W)(ha:a=0∨a∈l)(hb:∀k∈b,k<256):Calls prog 254 #[.pointer (some ⟨q.m,0,none⟩),.int .i64 a,.string (zag b)] W fun e w'=>CP w0 q u0 l par own nm fr w'∧Fr q.blocks W w'∧((∃x:Nat,e= .returned (.tuple #[.int .i64 x,.bool true])∧x∈l∧zap b=true∧nm x=b.map lowB::nm a)∨(e= .returned (.tuple #[.int .i64 0,.bool false])∧∀x∈l,nm x≠b.map lowB::nm a)):=by
 obtain⟨refs,B,h1,h2,h3⟩:=h;refine(zzy h1 ha hb).mono fun e w' ⟨he,g1,g2⟩=>⟨⟨refs,B,g1,h2,h3⟩,g2,?_⟩;by_cases hk:zap b=true
 ·rw[if_pos hk]at he
  cases hf:fndP l par B a (b.map lowB)with
  |some x=>
   rw[hf]at he;have hm:=List.mem_of_find?_eq_some hf;have hp:=List.find?_some hf;simp at hp;exact .inl ⟨x,he,hm,hk,by rw[h2.s x hm,hp.1,hp.2]⟩
  |none=>
   rw[hf]at he;refine .inr ⟨he,fun x hx e=> ?_⟩;rw[h2.s x hx]at e;injection e with e1 e2;have:=zml h1 h2 _ (Nat.le_refl _) (h1.up hx) ha e2;have hn:=(List.find?_eq_none.1 hf) x hx;simp at hn;exact hn this e1
 ·rw[if_neg hk]at he
  refine .inr ⟨he,fun x hx e=> ?_⟩;rw[h2.s x hx]at e;injection e with e1 e2;have:=(h1.lab hx).1;rw[e1,zfw]at this;exact hk this
theorem CP.firm(h:CP w0 q u0 l par own nm fr W):Firm own par l:=by
 obtain⟨refs,B,h1,h2,h3,h4,h5⟩:=h;exact h4
theorem CP.out(h:CP w0 q u0 l par own nm fr W){y:Nat}(hy:y∉l):own y=0:=by
 obtain⟨refs,B,h1,h2,h3,h4,h5⟩:=h;exact h5 y hy
theorem CP.up(h:CP w0 q u0 l par own nm fr W)(hx:x∈l):par x=0∨par x∈l:=by
 obtain⟨refs,B,h1,_⟩:=h;exact h1.up hx
theorem Rem.gone{own par:Nat→Nat}{l m:List Nat}(h:Rem own par l m):∀y∈l,y∉m→own y=0:=by
 induction h with
 |refl=>exact fun y hy hn=>absurd hy hn
 | @step m x h1 h2 h3 h4 ih=>
  intro y hy hn;by_cases hm:y∈m
  ·by_cases e:y=x
   ·rw[e];exact h3
   ·exact absurd ((List.mem_erase_of_ne e).2 hm) hn
  ·exact ih y hy hm
theorem z0b(h:CP w0 q u0 l par own nm fr W)(hx:x∈l)(ho:own x≤4000000000):Calls prog 255 #[.pointer (some ⟨q.m,0,none⟩),.int .i64 x] W fun e w'=>e= .returned (.int .i64 0)∧CP w0 q u0 l par (_root_.Go.Proofs.YtolhkhdbgnciiaaGreatDoor.up own x (own x+1)) nm fr w'∧Fr q.blocks W w':=by
 obtain⟨refs,B,h1,h2,h3,h4,h5⟩:=h;have hr:=h3 x hx;have hb:=zim par l x;have hf:=h1.few;refine(zt7 h1 hx (by omega)).mono fun e w' ⟨he,g1,g2⟩=>⟨he,⟨_,B,g1,h2,fun y hy=> ?_,fun y hy h0=> ?_,fun y hy=> ?_⟩,g2⟩
 ·by_cases e:y=x
  ·rw[e,zaa,zaa];omega
  ·rw[zac _ _ e,zac _ _ e];exact h3 y hy
 ·by_cases e:y=x
  ·rw[e,zaa]at h0;omega
  ·rw[zac _ _ e]at h0;exact h4 y hy h0
 ·rw[zac _ _ (fun e=>hy (by rw[e];exact hx))];exact h5 y hy
theorem zz3(h:CP w0 q u0 l par own nm fr W)(hx:x∈l)(k:Nat)(ho:own x=k+1):Calls prog 115 #[.pointer (some ⟨q.m,0,none⟩),.int .i64 x] W fun e w'=>∃n l1 fr1,e= .returned (.tuple #[.int .i64 (n:Nat),.int .i64 0])∧Fr q.blocks W w'∧CP w0 q u0 l1 par (_root_.Go.Proofs.YtolhkhdbgnciiaaGreatDoor.up own x k) nm fr1 w'∧Rem (_root_.Go.Proofs.YtolhkhdbgnciiaaGreatDoor.up own x k) par l l1∧n+l1.length=l.length:=by
 obtain⟨refs,B,h1,h2,h3,h4,h5⟩:=h;refine(z0p (own:=_root_.Go.Proofs.YtolhkhdbgnciiaaGreatDoor.up own x k) h1 hx (fun y hy=> ?_) (fun y hy hne h0=> ?_)).mono fun e w' ⟨n,l1,refs1,fr1,g1,g2,g3,g4,g5,g6,g7⟩=>⟨n,l1,fr1,g1,g2,⟨refs1,B,g3,⟨h2.z,fun y hy=>h2.s y (g4.sub.subset hy)⟩,g6,g7,fun y hy=> ?_⟩,g4,g5⟩
 ·by_cases e:y=x
  ·subst e
   rw[zaa,if_pos rfl,h3 y hy,ho];omega
  ·rw[zac _ _ e,if_neg e,h3 y hy];omega
 ·rw[zac _ _ hne]at h0
  exact h4 y hy h0
 ·by_cases hl:y∈l
  ·exact g4.gone y hl hy
  ·rw[zac _ _ (fun e=>hl (by rw[e];exact hx))];exact h5 y hl
theorem z0f(h:CP w0 q u0 l par own nm fr W):Calls prog 16 #[.pointer (some ⟨q.m,0,none⟩)] W fun e w'=>e= .returned (.int .i64 0)∧CP w0 q u0 l par own nm fr w'∧Fr q.blocks W w':=by
 obtain⟨refs,B,h1,h2⟩:=h;exact(z0d h1).mono fun e w' ⟨he,g1,g2⟩=>⟨he,⟨refs,B,g1,h2⟩,g2⟩
theorem CP.frL{base:Nat}{Bs:List Nat}(h:CP w0 q u0 l par own nm fr W)(ok:zfi w0 q base)(hf:Fr Bs W W')(hB:∀k∈Bs,base≤k):CP w0 q u0 l par own nm fr W':=by
 obtain⟨refs,B,h1,h2⟩:=h;exact⟨refs,B,h1.frL ok hf hB,h2⟩
theorem CP.bok(h:CP w0 q u0 l par own nm fr W):zfi w0 q W.heap.size:=by
 obtain⟨refs,B,h1,_⟩:=h;exact h1.bok
theorem CP.start(h:NP w0 q u0 [] par refs B fr W):CP w0 q u0 [] par (fun _=>0) (fun _=> []) fr W:=
 ⟨refs,B,h,⟨rfl,fun y hy=>(nomatch hy)⟩,fun y hy=>(nomatch hy),fun y hy=>(nomatch hy),fun _ _=>rfl⟩
end
def AllT(S:SS)(l R:List Nat)(L:Nat→Prop)(x:Nat):Prop:=(∀y m,Lv 7 S y m→y=x∨y∈l∨y∈R)∧ ∀y∈R,L y∧y∉l
def NPT(w0:World)(q:MH)(u0:EW)(l:List Nat)(par refs:Nat→Nat)(B:Nat→List Nat)(x c:Nat)(W:World):Prop:=
 ∃S L u E B0,NI w0 q S L l u E B0 W∧Fx u S L x c∧AllT S l u0.R L x∧EnD u0 u E B0∧(∀y∈l,(E y).name=par y∧(E y).refs=refs y∧B0 y=B y)
section
variable {w0 W W' : World} {q : MH} {u0 : EW} {l : List Nat} {par refs own : Nat → Nat} {B : Nat → List Nat} {nm : Nat → List (List Nat)} {fr x p a c : Nat} {b : List Nat}
theorem NPT.fr0(h:NPT w0 q u0 l par refs B x c W)(hf:Fr [] W W'):NPT w0 q u0 l par refs B x c W':=by
 obtain⟨S,L,u,E,B0,h1,h2⟩:=h;exact⟨S,L,u,E,B0,h1.fr0 hf,h2⟩
theorem NPT.ne(h:NPT w0 q u0 l par refs B x c W):x∉l∧x≠0∧x<1048576:=by
 obtain⟨S,L,u,E,B0,g,hfx,_⟩:=h;have h1:=g.wb.at_ hfx.lv;have h2:=g.wb.base;have h3:=g.wb.cz;have h4:zae 7 224≤1048576:=by decide
 exact⟨fun hm=>hfx.no ((g.mem x).1 hm).1,by omega,by omega⟩
theorem zzw(h:NP w0 q u0 l par refs B fr W)(hc:1≤c∧c≤9):Calls prog 37 #[.pointer (some ⟨q.m,0,none⟩),.int .i64 c] W fun e w'=>∃x r:Nat,e= .returned (.tuple #[.int .i64 x,.int .i64 r])∧Fr q.blocks W w'∧((r=5∧NP w0 q u0 l par refs B 0 w')∨(r=0∧NPT w0 q u0 l par refs B x c w')):=by
 obtain⟨S,L,u,E,B0,g,ha,hrt,r,hf⟩:=h;refine(zuv g.wb c hc).mono fun e w' ⟨x,rr,he,f2,ht⟩=>⟨x,rr,he,f2,?_⟩;rcases ht with⟨hr,hx,hd0,v,hS,hw⟩|⟨hr,S',v,hS,hw,hfx,htk⟩
 ·have hl0:lst 7 S.inn 0= [] :=by
   cases hl:lst 7 S.inn 0 with
   |nil=>rfl
   |cons a t=>rw[hl]at hd0;cases hd0
  exact .inl ⟨hr,S,L,v,E,B0,g.re hw (fun y=>⟨rfl,rfl,rfl⟩) hS.sl (hS.rt 17 (.inr (by decide))),ha,hrt.to (RtQ.sla hS) (fun _ _=>⟨rfl,rfl⟩),r,by rw[hl0];rfl⟩
 ·exact .inr ⟨hr,S',L,v,E,B0,g.re hw (fun y=>⟨rfl,rfl,rfl⟩) hS.sl (hS.rt 17 (.inr (by decide))),hfx,⟨fun y m hy=>(htk.all y m hy).imp id (ha.1 y m),ha.2⟩,hrt.to (RtQ.sla hS) (fun _ _=>⟨rfl,rfl⟩),r⟩
theorem zzc(h:NPT w0 q u0 l par refs B x (clsN (16+b.length)) W)(hp:p=0∨p∈l)(hb:∀k∈b,k<256)(hk:zap b=true)(hno:fndP l par B p (b.map lowB)=none)(hrf:p≠0→refs p+1<4294967296):Calls prog 193 #[.pointer (some ⟨q.m,0,none⟩),.int .i64 x,.int .i64 p,.string (zag b)] W fun e w'=>e= .returned (.int .i64 0)∧Fr q.blocks W w'∧∃fr1,NP w0 q u0 (l++ [x]) (up par x p) (refN refs x p) (up B x (b.map lowB)) fr1 w':=by
 obtain⟨S',L,v,E,B0,gi,hfx,ha,hrt,r⟩:=h;have hfn:fndN l E B0 p (b.map lowB)=none:=by rw[zs3 r];exact hno
 refine(zqm gi hfx hp hb hk hfn (fun hp0=>by rw[(r p (hp.resolve_left hp0)).2.1];exact hrf hp0)).mono fun e w' ⟨h1,h2,v',E',B',h3,h4,h5⟩=>⟨h1,h2,?_⟩;have hxl:x∉l:=fun hm=>hfx.no ((gi.mem x).1 hm).1;have hRx:∀y∈u0.R,y≠x:=fun y hy e=>hfx.no (by rw[←e];exact(ha.2 y hy).1);refine⟨_,S',_,v',E',B',h3,⟨fun y m hy=> ?_,fun y hy=>⟨.inr (ha.2 y hy).1,fun hm=> ?_⟩⟩,hrt.to h5 (fun y hy=>⟨h4.eq y (hRx y hy) (fun e=> ?_),h4.bb y (hRx y hy)⟩),fun y hy=> ?_,rfl⟩
 ·rcases ha.1 y m hy with k|k|k
  ·exact .inl (List.mem_append_right _ (List.mem_singleton.2 k))
  ·exact .inl (List.mem_append_left _ k)
  ·exact .inr k
 ·rcases List.mem_append.1 hm with k|k
  ·exact(ha.2 y hy).2 k
  ·exact hRx y hy (List.mem_singleton.1 k)
 ·rcases hp with k|k
  ·exact(gi.wb.ne0 (ha.2 y hy).1).1 (e.trans k)
  ·exact(ha.2 y hy).2 (by rw[e];exact k)
 ·rw[List.mem_append,List.mem_singleton]at hy
  by_cases e:y=x
  ·subst e
   rw[h4.nm,h4.rf,h4.bx,zaa,zaa];refine⟨rfl,?_,rfl⟩;unfold refN;rw[if_pos rfl]
  ·have hy':=hy.resolve_right e
   rw[(h4.ee y e).2.1,h4.rr y e (gi.lt hy').1,h4.bb y e,zac _ _ e,zac _ _ e];refine⟨(r y hy').1,?_,(r y hy').2.2⟩;unfold refN;rw[if_neg e,(r y hy').2.1]
def CPT(w0:World)(q:MH)(u0:EW)(l:List Nat)(par own:Nat→Nat)(nm:Nat→List (List Nat))(x c:Nat)(W:World):Prop:=
 ∃refs B,NPT w0 q u0 l par refs B x c W∧NmOk l par B nm∧(∀y∈l,refs y=own y+bel par l y)∧Firm own par l∧(∀y,y∉l→own y=0)
theorem CPT.fr0(h:CPT w0 q u0 l par own nm x c W)(hf:Fr [] W W'):CPT w0 q u0 l par own nm x c W':=by
 obtain⟨refs,B,h1,h2⟩:=h;exact⟨refs,B,h1.fr0 hf,h2⟩
theorem zt2(h:CP w0 q u0 l par own nm fr W)(hc:1≤c∧c≤9):Calls prog 37 #[.pointer (some ⟨q.m,0,none⟩),.int .i64 c] W fun e w'=>∃x r:Nat,e= .returned (.tuple #[.int .i64 x,.int .i64 r])∧Fr q.blocks W w'∧((r=5∧CP w0 q u0 l par own nm 0 w')∨(r=0∧CPT w0 q u0 l par own nm x c w')):=by
 obtain⟨refs,B,h1,h2⟩:=h;refine(zzw h1 hc).mono fun e w' ⟨x,r,he,f,hh⟩=>⟨x,r,he,f,?_⟩;rcases hh with⟨k1,k2⟩|⟨k1,k2⟩
 ·exact .inl ⟨k1,refs,B,k2,h2⟩
 ·exact .inr ⟨k1,refs,B,k2,h2⟩
def CPM(w0:World)(q:MH)(u0:EW)(l:List Nat)(par own:Nat→Nat)(nm:Nat→List (List Nat))(p x:Nat)(W:World):Prop:=
 ∃refs B fr,NP w0 q u0 (l++ [x]) par refs B fr W∧x∉l∧par x=p∧NmOk (l++ [x]) par B nm∧(∀y∈l++ [x],refs y=own y+bel par (l++ [x]) y)∧Firm own par l∧(∀y,y∉l→own y=0)∧ ∀y∈l++ [x],par y≠x
theorem CPM.fr0(h:CPM w0 q u0 l par own nm p x W)(hf:Fr [] W W'):CPM w0 q u0 l par own nm p x W':=by
 obtain⟨refs,B,fr,h1,h2⟩:=h;exact⟨refs,B,fr,h1.fr0 hf,h2⟩
theorem zy8{refs:Nat→Nat}{s:List Nat}(hn:NP w0 q u0 (l++ [x]) (up par x p) (refN refs x p) (up B x s) fr W)(hxl:x∉l)(hx0:x≠0)(hp:p=0∨p∈l)(hpn:∀y∈l,par y=0∨par y∈l)
  (h2:NmOk l par B nm) (h3:∀y∈l,refs y=own y+bel par l y) (h4:Firm own par l) (h5:∀y,y∉l→own y=0):CPM w0 q u0 l (up par x p) own (up nm x (s::nm p)) p x W:=by
 have hpx:p≠x:=fun e=>by
  rcases hp with k|k
  ·exact hx0 (e.symm.trans k)
  ·exact hxl (e▸k)
 have hpy:∀y∈l,par y≠x:=fun y hy e=>by
  rcases hpn y hy with k|k
  ·exact hx0 (e.symm.trans k)
  ·exact hxl (e▸k)
 refine⟨_,_,fr,hn,hxl,zaa _ _ _,⟨?_,fun y hy=> ?_⟩,fun y hy=> ?_,fun y hy h0=> ?_,h5,fun y hy=> ?_⟩
 ·rw[zac _ _ (Ne.symm hx0)];exact h2.z
 ·rcases List.mem_append.1 hy with k|k
  ·have e:y≠x:=fun e=>hxl (e▸k)
   rw[zac _ _ e,zac _ _ e,zac _ _ e,zac _ _ (hpy y k)];exact h2.s y k
  ·rw[List.mem_singleton]at k
   subst k;rw[zaa,zaa,zaa,zac _ _ hpx]
 ·have hb0:bel (up par x p) (l++ [x]) y=bel par l y+(if p=y then 1 else 0):=by
   rw[zkn,zaa,zce (fun z hz=>zac _ _ (fun e=>hxl (by rw[←e];exact hz)))]
  rw[hb0];unfold refN;by_cases e:y=x
  ·subst e
   rw[if_pos rfl,if_neg hpx,h5 y hxl]
   have:bel par l y=0:=by
    by_cases h0:bel par l y=0
    ·exact h0
    ·obtain⟨z,hz,e⟩:=bel_pos.1 h0
     exact absurd e (hpy z hz)
   omega
  ·rw[if_neg e]
   rcases List.mem_append.1 hy with k|k
   ·rw[h3 y k]
    by_cases ep:y=p
    ·rw[if_pos ep,if_pos ep.symm];omega
    ·rw[if_neg ep,if_neg (fun k=>ep k.symm)];omega
   ·exact absurd (List.mem_singleton.1 k) e
 ·obtain⟨z,hz,e⟩:=h4 y hy h0
  exact⟨z,hz,by rw[zac _ _ (fun k=>hxl (by rw[←k];exact hz))];exact e⟩
 ·rcases List.mem_append.1 hy with k|k
  ·rw[zac _ _ (fun e=>hxl (by rw[←e];exact k))];exact hpy y k
  ·rw[List.mem_singleton]at k
   subst k;rw[zaa];exact hpx
theorem zzl(h:CPT w0 q u0 l par own nm x (clsN (16+b.length)) W)(hp:p=0∨p∈l)(hb:∀k∈b,k<256)(hk:zap b=true)(hno:∀y∈l,nm y≠b.map lowB::nm p)(ho:p≠0→own p≤4000000000)(hf:l.length≤224):Calls prog 193 #[.pointer (some ⟨q.m,0,none⟩),.int .i64 x,.int .i64 p,.string (zag b)] W fun e w'=>e= .returned (.int .i64 0)∧Fr q.blocks W w'∧CPM w0 q u0 l (up par x p) own (up nm x (b.map lowB::nm p)) p x w':=by
 obtain⟨refs,B,h1,h2,h3,h4,h5⟩:=h;obtain⟨hxl,hx0,_⟩:=h1.ne
 have hpn:∀y∈l,par y=0∨par y∈l:=by
  obtain⟨S',L,v,E,B0,gi,hfx,ha,hrt,r⟩:=h1;intro y hy;rw[←(r y hy).1];exact gi.up y hy
 have hno':fndP l par B p (b.map lowB)=none:=by
  unfold fndP;rw[List.find?_eq_none];intro y hy e;simp at e;exact hno y hy (by rw[h2.s y hy,e.1,e.2])
 refine(zzc h1 hp hb hk hno' (fun h0=>by
  have:=h3 p (hp.resolve_left h0);have:=zim par l p;have:=ho h0;omega)).mono fun e w' ⟨he,f,fr1,g⟩=>⟨he,f,zy8 g hxl hx0 hp hpn h2 h3 h4 h5⟩
theorem zxw(h:CPM w0 q u0 l par own nm p x W):Calls prog 255 #[.pointer (some ⟨q.m,0,none⟩),.int .i64 x] W fun e w'=>e= .returned (.int .i64 0)∧Fr q.blocks W w'∧∃fr,CP w0 q u0 (l++ [x]) par (up own x 1) nm fr w':=by
 obtain⟨refs,B,fr,h1,hx,hpx,h2,h3,h4,h5,h6⟩:=h;have hxm:x∈l++ [x] :=List.mem_append_right _ (List.mem_singleton.2 rfl);have hox:=h5 x hx
 have hbx:bel par (l++ [x]) x=0:=by
  by_cases h0:bel par (l++ [x]) x=0
  ·exact h0
  ·obtain⟨z,hz,e⟩:=bel_pos.1 h0
   exact absurd e (h6 z hz)
 have hr:=h3 x hxm;refine(zt7 h1 hxm (by omega)).mono fun e w' ⟨he,g1,g2⟩=>⟨he,g2,fr,_,B,g1,h2,fun y hy=> ?_,fun y hy h0=> ?_,fun y hy=> ?_⟩
 ·by_cases e:y=x
  ·subst e;rw[zaa,zaa];omega
  ·rw[zac _ _ e,zac _ _ e];exact h3 y hy
 ·by_cases e:y=x
  ·subst e;rw[zaa]at h0;omega
  ·rw[zac _ _ e]at h0
   rcases List.mem_append.1 hy with k|k
   ·obtain⟨z,hz,e⟩:=h4 y k h0
    exact⟨z,List.mem_append_left _ hz,e⟩
   ·exact absurd (List.mem_singleton.1 k) e
 ·rw[zac _ _ (fun e=>hy (by rw[e];exact hxm))]
  exact h5 y (fun k=>hy (List.mem_append_left _ k))
theorem zzt(h:CP w0 q u0 l par own nm fr W)(hx:x∈l)(k:Nat)(ho:own x=k+1)(hz:∃z∈l,par z=x):Calls prog 115 #[.pointer (some ⟨q.m,0,none⟩),.int .i64 x] W fun e w'=>e= .returned (.tuple #[.int .i64 0,.int .i64 0])∧Fr q.blocks W w'∧∃fr1,CP w0 q u0 l par (up own x k) nm fr1 w':=by
 refine(zz3 h hx k ho).mono fun e w' ⟨n,l1,fr1,g1,g2,g3,g4,g5⟩=> ?_
 have hl:l1=l:=g4.uniq (.refl l) g3.firm (fun y hy h0=>by
  by_cases e:y=x
  ·rw[e];exact hz
  ·rw[zac _ _ e]at h0
   exact h.firm y hy h0) h.nd
 subst hl;have hn:n=0:=by omega
 subst hn;exact⟨g1,g2,fr1,g3⟩
end
end Go.Proofs.YtolhkhdbgnciiaaGreatDoor
