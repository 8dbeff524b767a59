/- Several texts in one. -/
import Derived.Test.YtolhkhdbgnciiaaGreatDoorKA
namespace Go.Proofs.YtolhkhdbgnciiaaGreatDoor
open _root_.Go.Proofs.Tryz
open Go.Lib (hid)
open Go.IntWalk (i64_in)
set_option linter.unusedVariables false
set_option linter.unusedSimpArgs false
open Go.RowKit
section
variable {t u v : TM} {L : Nat → Prop} {E : Nat → HB} {R : List Nat} {b : Nat} {S : SS} {x n : Nat}
theorem RgI.nbr(h:RgI t L E R b)(hx:x∈R):(E x).next∈R∧(E x).prev∈R:=by
 obtain⟨A,B,rfl⟩:=List.append_of_mem hx;obtain⟨h1,h2⟩:=zof h.cyc;rw[h1,h2]
 have hm:∀y,y∈x::(B++A)→y∈A++x::B:=fun y hy=>by
  rcases List.mem_cons.1 hy with e|m
  ·rw[e];exact hx
  ·rcases List.mem_append.1 m with m|m
   ·exact List.mem_append.2 (.inr (List.mem_cons_of_mem _ m))
   ·exact List.mem_append.2 (.inl m)
 refine⟨hm _ ?_,hm _ (List.getLast_mem _)⟩;cases hC:B++A with
 |nil=>exact List.mem_cons_self ..
 |cons y C=>exact List.mem_cons_of_mem _ (List.mem_cons_self ..)
def LvP(S:SS)(x:Nat):Prop:= ∃n,Lv 7 S x n
def insT(t:TM)(E:Nat→HB)(R:List Nat)(x:Nat):TM:=
 if R= []then((((t.nxt x x).prv x x).setRt 13 x).setRt 14 x).setRt 15 1
 else((((t.nxt (E (R.headD 0)).prev x).prv x (E (R.headD 0)).prev).nxt x (R.headD 0)).prv (R.headD 0) x).setRt 15 (R.length+1)
def insH(E:Nat→HB)(R:List Nat)(x:Nat):Nat→HB:=if R= []then jnE E x x else jnE (jnE E (E (R.headD 0)).prev x) x (R.headD 0)
def insB(R:List Nat)(b x:Nat):Nat:=if R= []then x else b
theorem RgI.insAny(h:RgI t L E R b)(hx:L x)(hn:x∉R):RgI (insT t E R x) L (insH E R x) (R++ [x]) (insB R b x):=by
 unfold insT insH insB;by_cases h0:R= []
 ·subst h0
  rw[if_pos rfl,if_pos rfl,if_pos rfl];exact h.ins0 hx
 ·rw[if_neg h0,if_neg h0,if_neg h0]
  exact h.ins h0 hx hn
structure Nbr(t u:TM)(L:Nat→Prop):Prop where
 a:u.a=t.a
 s:u.s=t.s
 hd:u.hd=t.hd
 sl:u.sl=t.sl
 kd:u.kd=t.kd
 ft:u.ft=t.ft
 rt: ∀f,f<13∨15<f→u.rt f=t.rt f
 by_: ∀i,(∀x,L x→i<x+8∨x+16≤i)→zab t.a t.s≤i→zah u i=zah t i
 ok:u.Ok
theorem Nbr.refl(hok:t.Ok):Nbr t t L:=⟨rfl,rfl,rfl,rfl,rfl,rfl,fun _ _=>rfl,fun _ _ _=>rfl,hok⟩
theorem Nbr.trans(h:Nbr t u L)(k:Nbr u v L):Nbr t v L:=
 ⟨k.a.trans h.a,k.s.trans h.s,k.hd.trans h.hd,k.sl.trans h.sl,k.kd.trans h.kd,k.ft.trans h.ft,fun f hf=>(k.rt f hf).trans (h.rt f hf),fun i hi hl=>(k.by_ i hi (by rw[h.a,h.s];exact hl)).trans (h.by_ i hi hl),k.ok⟩
theorem zj5(hok:t.Ok)(hx:L x)(hb:zab t.a t.s≤x)(o v:Nat)(ho:o=8∨o=12):Nbr t (t.setB (x+o) 4 v) L:=
 ⟨rfl,rfl,rfl,rfl,rfl,rfl,fun _ _=>rfl,fun i hi hl=>by rw[zaq hok _ _ _ (by omega),if_neg];have:=hi x hx;omega,zal hok _ _ _⟩
theorem zye(hok:t.Ok)(f v:Nat)(hf:f=13∨f=14∨f=15)(hv:v<4294967296):Nbr t (t.setRt f v) L:=by
 have hw:v<256^fldW f:=by rcases hf with rfl|rfl|rfl<;>exact hv
 exact⟨rfl,rfl,rfl,rfl,rfl,rfl,fun g hg=>by rw[TM.setRt_rt,if_neg (by omega)],fun i hi hl=>(zcu hok f v hw i 0).by_ i hl (by omega),za5 hok f v hw⟩
theorem Ents.base(h:Ents t L E)(hx:L x):zab t.a t.s≤x:=(h.e x hx).h.base
theorem Nbr.nxt(h:Nbr t u L)(hx:L x)(hb:zab t.a t.s≤x)(v:Nat):Nbr t (u.nxt x v) L:=h.trans (zj5 h.ok hx (by rw[h.a,h.s];exact hb) 8 v (.inl rfl))
theorem Nbr.prv(h:Nbr t u L)(hx:L x)(hb:zab t.a t.s≤x)(v:Nat):Nbr t (u.prv x v) L:=h.trans (zj5 h.ok hx (by rw[h.a,h.s];exact hb) 12 v (.inr rfl))
theorem Nbr.root(h:Nbr t u L)(f v:Nat)(hf:f=13∨f=14∨f=15)(hv:v<4294967296):Nbr t (u.setRt f v) L:=h.trans (zye h.ok f v hf hv)
theorem RgI.lt4(h:RgI t L E R b)(hx:L x):x<1048576:=((h.ents.e x hx).lt h.ents.ok).1
theorem RgI.len(h:RgI t L E R b):R.length≤1048576:=zgw 1048576 _ h.nd (fun y hy=>h.lt4 (h.sub y hy))
theorem RgI.nbrIns(h:RgI t L E R b)(hx:L x):Nbr t (insT t E R x) L:=by
 have r0:=Nbr.refl (L:=L) h.ents.ok;have hb:∀y,L y→zab t.a t.s≤y:=fun y hy=>h.ents.base hy;have lx:=h.lt4 hx;have hl:=h.len;unfold insT;by_cases h0:R= []
 ·rw[if_pos h0]
  exact((((r0.nxt hx (hb x hx) x).prv hx (hb x hx) x).root 13 x (by decide) (by omega)).root 14 x (by decide) (by omega)).root 15 1 (by decide) (by omega)
 ·rw[if_neg h0]
  have hh:R.headD 0∈R:=by
   cases R with
   |nil=>exact absurd rfl h0
   |cons a T=>exact List.mem_cons_self ..
  have hp:=h.sub _ (h.nbr hh).2;have hhL:=h.sub _ hh;exact((((r0.nxt hp (hb _ hp) x).prv hx (hb x hx) _).nxt hx (hb x hx) _).prv hhL (hb _ hhL) x).root 15 _ (by decide) (by omega)
theorem SlI.ins(hs:SlI t S)(h:RgI t L E R b)(hL:∀y,L y→∃m,Lv t.a S y m)(hx:L x):SlI (insT t E R x) S:=by
 have lx:=h.lt4 hx;have hl:=h.len;have ok:=h.ents.ok;obtain⟨n,lvx⟩:=hL x hx;unfold insT;by_cases h0:R= []
 ·rw[if_pos h0]
  have ok1:=zal ok (x+8) 4 x;have ok2:=zal ok1 (x+12) 4 x;have s2:=(hs.rnxt ok lvx x).rprv ok1 lvx x;have ok3:=za5 ok2 13 x (by have:256^fldW 13=4294967296:=rfl;omega);have s3:=s2.root ok2 13 x (by have:256^fldW 13=4294967296:=rfl;omega) (by decide);have ok4:=za5 ok3 14 x (by have:256^fldW 14=4294967296:=rfl;omega);have s4:=s3.root ok3 14 x (by have:256^fldW 14=4294967296:=rfl;omega) (by decide);exact s4.root ok4 15 1 (by decide) (by decide)
 ·rw[if_neg h0]
  have hh:R.headD 0∈R:=by
   cases R with
   |nil=>exact absurd rfl h0
   |cons a T=>exact List.mem_cons_self ..
  obtain⟨np,lvp⟩:=hL _ (h.sub _ (h.nbr hh).2);obtain⟨nh,lvh⟩:=hL _ (h.sub _ hh);have ok1:=zal ok ((E (R.headD 0)).prev+8) 4 x;have s1:=hs.rnxt ok lvp x;have ok2:=zal ok1 (x+12) 4 (E (R.headD 0)).prev;have s2:=s1.rprv ok1 lvx (E (R.headD 0)).prev;have ok3:=zal ok2 (x+8) 4 (R.headD 0);have s3:=s2.rnxt ok2 lvx (R.headD 0);have ok4:=zal ok3 (R.headD 0+12) 4 x;have s4:=s3.rprv ok3 lvh x;exact s4.root ok4 15 _ (by have:256^fldW 15=4294967296:=rfl;omega) (by decide)
end
section
open Go.RowKit Go.Shelf
attribute [local go_sem] Oper.semAt_some
end
section
open Go.RowKit Go.Shelf
attribute [local go_sem] Oper.semAt_some
end
end Go.Proofs.YtolhkhdbgnciiaaGreatDoor
