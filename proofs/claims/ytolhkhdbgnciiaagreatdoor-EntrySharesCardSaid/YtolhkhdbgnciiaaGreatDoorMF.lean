/- Several texts in one. -/
import Derived.Test.YtolhkhdbgnciiaaGreatDoorME
namespace Go.Proofs.YtolhkhdbgnciiaaGreatDoor
open _root_.Go.Proofs.Tryz
open Go.Lib (hid)
open Go.IntWalk (i64_in)
set_option linter.unusedVariables false
set_option linter.unusedSimpArgs false
open Go.RowKit
def NP(w0:World)(q:MH)(u0:EW)(l:List Nat)(par refs:Nat→Nat)(B:Nat→List Nat)(fr:Nat)(W:World):Prop:=
 ∃S L u E B0,NI w0 q S L l u E B0 W∧AllN S l u0.R L∧EnD u0 u E B0∧(∀y∈l,(E y).name=par y∧(E y).refs=refs y∧B0 y=B y)∧(lst 7 S.inn 0).length=fr
section
variable {w0 W W' : World} {q : MH} {u0 : EW} {l : List Nat} {par refs : Nat → Nat} {B : Nat → List Nat} {fr x p : Nat} {b : List Nat}
theorem NP.fr0(h:NP w0 q u0 l par refs B fr W)(hf:Fr [] W W'):NP w0 q u0 l par refs B fr W':=by
 obtain⟨S,L,u,E,B0,g,r⟩:=h;exact⟨S,L,u,E,B0,g.fr0 hf,r⟩
theorem NP.nd(h:NP w0 q u0 l par refs B fr W):l.Nodup:=by
 obtain⟨S,L,u,E,B0,g,r⟩:=h;exact g.nd
theorem NP.few(h:NP w0 q u0 l par refs B fr W):l.length≤224:=by
 obtain⟨S,L,u,E,B0,g,r⟩:=h;exact g.few
theorem NP.rng(h:NP w0 q u0 l par refs B fr W)(hx:x∈l):x≠0∧x<1048576:=by
 obtain⟨S,L,u,E,B0,g,r⟩:=h;exact g.lt hx
theorem NP.up(h:NP w0 q u0 l par refs B fr W)(hx:x∈l):par x=0∨par x∈l:=by
 obtain⟨S,L,u,E,B0,g,_,_,r,_⟩:=h;rw[←(r x hx).1];exact g.up x hx
theorem NP.lab(h:NP w0 q u0 l par refs B fr W)(hx:x∈l):zap (B x)=true∧(B x).map lowB=B x:=by
 obtain⟨S,L,u,E,B0,g,_,_,r,_⟩:=h;rw[←(r x hx).2.2];exact g.lb x hx
theorem NP.empty(h:NP w0 q u0 [] par refs B fr W)(hR:u0.R= []):fr=7:=by
 obtain⟨S,L,u,E,B0,g,ha,_,_,r⟩:=h;rw[←r];exact zrj (zny g.wb.fl (fun x n hx=>by have:=ha.1 x n hx;simp[hR]at this))
def fndP(l:List Nat)(par:Nat→Nat)(B:Nat→List Nat)(up:Nat)(s:List Nat):Option Nat:=l.find? fun z=>par z==up&&B z==s
theorem zs3{l:List Nat}{E:Nat→HB}{B0 B:Nat→List Nat}{par refs:Nat→Nat}(h:∀y∈l,(E y).name=par y∧(E y).refs=refs y∧B0 y=B y)(p:Nat)(s:List Nat):fndN l E B0 p s=fndP l par B p s:=by
 unfold fndN fndP;induction l with
 |nil=>rfl
 |cons a l ih=>
  have ha:=h a (by simp);rw[List.find?_cons,List.find?_cons,ha.1,ha.2.2,ih (fun y hy=>h y (List.mem_cons_of_mem _ hy))]
theorem zzy(h:NP w0 q u0 l par refs B fr W)(hp:p=0∨p∈l)(hb:∀k∈b,k<256):Calls prog 254 #[.pointer (some ⟨q.m,0,none⟩),.int .i64 p,.string (zag b)] W fun e w'=>e= .returned (if zap b then ansN (fndP l par B p (b.map lowB))else ansN none)∧NP w0 q u0 l par refs B fr w'∧Fr q.blocks W w':=by
 obtain⟨S,L,u,E,B0,g,ha,hr,r,hf⟩:=h;have:=zyv g p hp b hb;rw[zs3 r]at this;exact this.mono fun e w' ⟨h1,h2,h3⟩=>⟨h1,⟨S,L,u,E,B0,g.same h2 h3,ha,hr,r,hf⟩,h3⟩
theorem zud(h:NP w0 q u0 l par refs B fr W)(hx:x∈l):Calls prog 151 #[.pointer (some ⟨q.m,0,none⟩),.int .i64 x] W fun e w'=>e= .returned (.tuple #[.string (zag (B x)),.int .i64 0])∧NP w0 q u0 l par refs B fr w'∧Fr q.blocks W w':=by
 obtain⟨S,L,u,E,B0,g,ha,hr,r,hf⟩:=h;have hm:=(g.mem x).1 hx;have ct:=g.wb.ct x hm.1;obtain⟨c,hc,c1,c9,hlv,hfit⟩:=ct.n;obtain⟨b1,b2,b3,b4,b5,b6,b7⟩:=g.wb.at_ hlv;have hsz:sz (E x).tag.toNat=16:=by rw[hm.2];rfl
 have hon:=ct.on;rw[hsz]at hon hfit;have l2:=ct.l2 hm.2;have:=zt4 g.wb.h (g.wb.ix.e x hm.1) hm.2 (B0 x) l2.1 l2.2.2 ct.lt hon (csz c) hfit b3 b2 b6 b7;rw[(r x hx).2.2]at this;exact this.mono fun e w' ⟨h1,h2,h3⟩=>⟨h1,⟨S,L,u,E,B0,g.same h2 h3,ha,hr,r,hf⟩,h3⟩
theorem zt7(h:NP w0 q u0 l par refs B fr W)(hx:x∈l)(hr1:refs x+1<4294967296):Calls prog 255 #[.pointer (some ⟨q.m,0,none⟩),.int .i64 x] W fun e w'=>e= .returned (.int .i64 0)∧NP w0 q u0 l par (_root_.Go.Proofs.YtolhkhdbgnciiaaGreatDoor.up refs x (refs x+1)) B fr w'∧Fr q.blocks W w':=by
 obtain⟨S,L,u,E,B0,g,ha,hr,r,hf⟩:=h;have hm:=(g.mem x).1 hx;have:=zvk g.wb hm.1 hm.2 (by rw[(r x hx).2.1];exact hr1);refine this.mono fun e w' ⟨h1,h2,v,h3,h4,h5⟩=>⟨h1,⟨S,L,v,_,B0,g.re h3 (ze4 E x _) h4 (by rw[h5]),ha,hr.to (RtQ.eq h5) (fun y hy=>⟨zac _ _ (fun e=>(ha.2 y hy).2 (by rw[e];exact hx)),rfl⟩),fun y hy=> ?_,hf⟩,h2⟩;refine⟨(ze4 E x _ y).2.1.trans (r y hy).1,?_,(r y hy).2.2⟩;by_cases e:y=x
 ·rw[e,zaa,zaa,←(r x hx).2.1]
 ·rw[zac _ _ e,zac _ _ e];exact(r y hy).2.1
end
theorem Rem.congr{own par par':Nat→Nat}{l m:List Nat}(h:Rem own par' l m)(hp:∀z∈l,par' z=par z):Rem own par l m:=by
 induction h with
 |refl=>exact .refl _
 |step h1 hx h0 hz ih=>exact .step ih hx h0 (fun z hm=>by rw[←hp z (h1.sub.subset hm)];exact hz z hm)
structure P0(u0:TM):Prop where
 r3:u0.rt 13=0∧u0.rt 14=0∧u0.rt 15=0
 ok:u0.Ok
 a:u0.a=7
 s:u0.s=224
 sl:SlI u0 SS.zero
 z:u0.sl=fun _=>0
 ft:u0.ft=0
 r:u0.rt 17=0
section
variable {w0 W : World} {q : MH} {u0 : EW} {l : List Nat} {par refs own : Nat → Nat} {B : Nat → List Nat} {fr x : Nat}
theorem z0p(h:NP w0 q u0 l par refs B fr W)(hx:x∈l)(hr:∀y∈l,refs y=own y+bel par l y+(if y=x then 1 else 0))(hn:∀y∈l,y≠x→own y=0→∃z∈l,par z=y):Calls prog 115 #[.pointer (some ⟨q.m,0,none⟩),.int .i64 x] W fun e w'=>∃k l1 refs1 fr1,e= .returned (.tuple #[.int .i64 (k:Nat),.int .i64 0])∧Fr q.blocks W w'∧NP w0 q u0 l1 par refs1 B fr1 w'∧Rem own par l l1∧k+l1.length=l.length∧(∀y∈l1,refs1 y=own y+bel par l1 y)∧Firm own par l1:=by
 obtain⟨S,L,u,E,B0,g,ha,hrt,r,hf⟩:=h;have hnm:∀z∈l,(E z).name=par z:=fun z hz=>(r z hz).1
 have hI:LetI l E own x 0 l E:=⟨.refl l,Nat.zero_add _,fun y=>⟨rfl,rfl,rfl⟩,fun _ _=>rfl,.inr hx,fun y hy=>by rw[(r y hy).2.1,hr y hy,zce hnm],fun y hy h1 h2=>by
  obtain⟨z,hz,e⟩:=hn y hy h1 h2;exact⟨z,hz,by rw[hnm z hz];exact e⟩⟩
 refine(nlet g own hx hI).mono fun e w' ⟨k,S1,L1,l1,u1,E1,h1,h2,h3,h4,h5,h6⟩=>⟨k,l1,fun y=>(E1 y).refs,_,h1,h2,⟨S1,L1,u1,E1,B0,h3,h5 _ ha,hrt.to h6 (fun y hy=>⟨h4.el y (ha.2 y hy).2,rfl⟩),fun y hy=> ?_,rfl⟩,h4.rem.congr hnm,h4.n,fun y hy=> ?_,fun y hy h0=> ?_⟩
 ·have hy':=h4.rem.sub.subset hy
  exact⟨(h4.he y).2.1.trans (hnm y hy'),rfl,(r y hy').2.2⟩
 ·show(E1 y).refs=_
  rw[h4.rf y hy,zce (fun z hz=>hnm z (h4.rem.sub.subset hz))]
 ·obtain⟨z,hz,e⟩:=h4.nf y hy h0
  exact⟨z,hz,by rw[←hnm z (h4.rem.sub.subset hz)];exact e⟩
theorem z0d(h:NP w0 q u0 l par refs B fr W):Calls prog 16 #[.pointer (some ⟨q.m,0,none⟩)] W fun e w'=>e= .returned (.int .i64 0)∧NP w0 q u0 l par refs B fr w'∧Fr q.blocks W w':=by
 have h':=h;obtain⟨S,L,u,E,B0,g,rest⟩:=h;have:=zi8 g.wb.h.m;rw[g.wb.ft]at this;exact this.mono fun e w' ⟨he,k⟩=>⟨he,h'.fr0 k,k.nil⟩
theorem zx0{u:TM}(h:IsH W q u):Calls prog 31 #[.pointer (some ⟨q.m,0,none⟩)] W fun e w'=>e= .returned (.int .i64 0)∧IsH w' q (u.setRt 17 0)∧Fr q.blocks W w':=by
 have HM:=hid (zll h.m);have HS:=hid (fun V (hV:IsT V q u)=>zcg hV 17 (by decide) 0 (by decide) 17 rfl 0 rfl);have H0:=hid h;clear h;go_enter func31,ntmps31;go_wp2_with fail;with_reducible refine HM.out.mono ?_
 rintro e w1 ⟨rfl,f1⟩;have K1:=hid (H0.out.fr0 f1);have F1:=hid (f1.nil (S:=q.blocks));clear f1 HM;go_wp2_with fail;with_reducible refine(HS.out _ K1.out.m).mono ?_
 rintro e w2 ⟨rfl,k2,f2⟩;have K2:=hid (K1.out.step k2 f2);have F2:=hid (F1.out.trans f2);clear k2 f2;go_wp2_with fail;go_ret;exact⟨rfl,K2.out,F2.out⟩
end
def refN(refs:Nat→Nat)(x p:Nat)(y:Nat):Nat:=if y=x then 0 else refs y+(if y=p then 1 else 0)
end Go.Proofs.YtolhkhdbgnciiaaGreatDoor
