/- Several texts in one. -/
import Derived.Test.YtolhkhdbgnciiaaGreatDoorKA
namespace Go.Proofs.YtolhkhdbgnciiaaGreatDoor
open _root_.Go.Proofs.Tryz
open Go.Lib (hid)
open Go.IntWalk (i64_in)
set_option linter.unusedVariables false
set_option linter.unusedSimpArgs false
open Go.RowKit
set_option maxRecDepth 100000
set_option maxHeartbeats 4000000
section
variable {t u v : TM} {L : Nat → Prop} {E : Nat → HB} {R : List Nat} {b : Nat} {S : SS} {x n : Nat}
theorem RgI.nbr(h:RgI t L E R b)(hx:x∈R):(E x).next∈R∧(E x).prev∈R:=by
 obtain⟨A,B,rfl⟩:=List.append_of_mem hx;obtain⟨h1,h2⟩:=zid h.cyc;rw[h1,h2]
 have hm:∀y,y∈x::(B++A)→y∈A++x::B:=fun y hy=>by
  rcases List.mem_cons.1 hy with e|m
  ·rw[e];exact hx
  ·rcases List.mem_append.1 m with m|m
   ·exact List.mem_append.2 (.inr (List.mem_cons_of_mem _ m))
   ·exact List.mem_append.2 (.inl m)
 refine⟨hm _ ?_,hm _ (List.getLast_mem _)⟩;cases hC:B++A with
 |nil=>exact List.mem_cons_self ..
 |cons y C=>exact List.mem_cons_of_mem _ (List.mem_cons_self ..)
def LvP(S:SS)(x:Nat):Prop:= ∃n,Lv 7 S x n
def insT(t:TM)(E:Nat→HB)(R:List Nat)(x:Nat):TM:=
 if R= []then((((t.nxt x x).prv x x).setRt 13 x).setRt 14 x).setRt 15 1
 else((((t.nxt (E (R.headD 0)).prev x).prv x (E (R.headD 0)).prev).nxt x (R.headD 0)).prv (R.headD 0) x).setRt 15 (R.length+1)
def insH(E:Nat→HB)(R:List Nat)(x:Nat):Nat→HB:=if R= []then jnE E x x else jnE (jnE E (E (R.headD 0)).prev x) x (R.headD 0)
def insB(R:List Nat)(b x:Nat):Nat:=if R= []then x else b
theorem RgI.insAny(h:RgI t L E R b)(hx:L x)(hn:x∉R):RgI (insT t E R x) L (insH E R x) (R++ [x]) (insB R b x):=by
 unfold insT insH insB;by_cases h0:R= []
 ·subst h0
  rw[if_pos rfl,if_pos rfl,if_pos rfl];exact h.ins0 hx
 ·rw[if_neg h0,if_neg h0,if_neg h0]
  exact h.ins h0 hx hn
structure Nbr(t u:TM)(L:Nat→Prop):Prop where
 a:u.a=t.a
 s:u.s=t.s
 hd:u.hd=t.hd
 sl:u.sl=t.sl
 kd:u.kd=t.kd
 ft:u.ft=t.ft
 rt: ∀f,f<13∨15<f→u.rt f=t.rt f
 by_: ∀i,(∀x,L x→i<x+8∨x+16≤i)→zab t.a t.s≤i→zah u i=zah t i
 ok:u.Ok
theorem Nbr.refl(hok:t.Ok):Nbr t t L:=⟨rfl,rfl,rfl,rfl,rfl,rfl,fun _ _=>rfl,fun _ _ _=>rfl,hok⟩
theorem Nbr.trans(h:Nbr t u L)(k:Nbr u v L):Nbr t v L:=
 ⟨k.a.trans h.a,k.s.trans h.s,k.hd.trans h.hd,k.sl.trans h.sl,k.kd.trans h.kd,k.ft.trans h.ft,fun f hf=>(k.rt f hf).trans (h.rt f hf),fun i hi hl=>(k.by_ i hi (by rw[h.a,h.s];exact hl)).trans (h.by_ i hi hl),k.ok⟩
theorem zka(hok:t.Ok)(hx:L x)(hb:zab t.a t.s≤x)(o v:Nat)(ho:o=8∨o=12):Nbr t (t.setB (x+o) 4 v) L:=
 ⟨rfl,rfl,rfl,rfl,rfl,rfl,fun _ _=>rfl,fun i hi hl=>by rw[zar hok _ _ _ (by omega),if_neg];have:=hi x hx;omega,zaj hok _ _ _⟩
theorem zx4(hok:t.Ok)(f v:Nat)(hf:f=13∨f=14∨f=15)(hv:v<4294967296):Nbr t (t.setRt f v) L:=by
 have hw:v<256^fldW f:=by rcases hf with rfl|rfl|rfl<;>exact hv
 exact⟨rfl,rfl,rfl,rfl,rfl,rfl,fun g hg=>by rw[TM.setRt_rt,if_neg (by omega)],fun i hi hl=>(zcq hok f v hw i 0).by_ i hl (by omega),zay hok f v hw⟩
theorem Ents.base(h:Ents t L E)(hx:L x):zab t.a t.s≤x:=(h.e x hx).h.base
theorem Nbr.nxt(h:Nbr t u L)(hx:L x)(hb:zab t.a t.s≤x)(v:Nat):Nbr t (u.nxt x v) L:=h.trans (zka h.ok hx (by rw[h.a,h.s];exact hb) 8 v (.inl rfl))
theorem Nbr.prv(h:Nbr t u L)(hx:L x)(hb:zab t.a t.s≤x)(v:Nat):Nbr t (u.prv x v) L:=h.trans (zka h.ok hx (by rw[h.a,h.s];exact hb) 12 v (.inr rfl))
theorem Nbr.root(h:Nbr t u L)(f v:Nat)(hf:f=13∨f=14∨f=15)(hv:v<4294967296):Nbr t (u.setRt f v) L:=h.trans (zx4 h.ok f v hf hv)
theorem Nbr.rnm(h:Nbr t u L)(fr to:Nat)(hto:to<4294967296):Nbr t (u.rnm fr to) L:=by
 unfold TM.rnm;split<;>split
 ·exact(h.root 13 to (by decide) hto).root 14 to (by decide) hto
 ·exact h.root 14 to (by decide) hto
 ·exact h.root 13 to (by decide) hto
 ·exact h
theorem RgI.lt4(h:RgI t L E R b)(hx:L x):x<1048576:=((h.ents.e x hx).lt h.ents.ok).1
theorem RgI.len(h:RgI t L E R b):R.length≤1048576:=zer 1048576 _ h.nd (fun y hy=>h.lt4 (h.sub y hy))
theorem RgI.nbrIns(h:RgI t L E R b)(hx:L x):Nbr t (insT t E R x) L:=by
 have r0:=Nbr.refl (L:=L) h.ents.ok;have hb:∀y,L y→zab t.a t.s≤y:=fun y hy=>h.ents.base hy;have lx:=h.lt4 hx;have hl:=h.len;unfold insT;by_cases h0:R= []
 ·rw[if_pos h0]
  exact((((r0.nxt hx (hb x hx) x).prv hx (hb x hx) x).root 13 x (by decide) (by omega)).root 14 x (by decide) (by omega)).root 15 1 (by decide) (by omega)
 ·rw[if_neg h0]
  have hh:R.headD 0∈R:=by
   cases R with
   |nil=>exact absurd rfl h0
   |cons a T=>exact List.mem_cons_self ..
  have hp:=h.sub _ (h.nbr hh).2;have hhL:=h.sub _ hh;exact((((r0.nxt hp (hb _ hp) x).prv hx (hb x hx) _).nxt hx (hb x hx) _).prv hhL (hb _ hhL) x).root 15 _ (by decide) (by omega)
theorem RgI.nbrRem(h:RgI t L E R b)(hx:x∈R)(k:Nat)(hk:k≤R.length):Nbr t (t.rem x (E x).next (E x).prev (if(E x).next=x then 0 else(E x).next) k) L:=by
 have r0:=Nbr.refl (L:=L) h.ents.ok;have hb:∀y,L y→zab t.a t.s≤y:=fun y hy=>h.ents.base hy;have hl:=h.len;have hn:=h.sub _ (h.nbr hx).1;have hp:=h.sub _ (h.nbr hx).2;have hxL:=h.sub x hx;have ln:=h.lt4 hn;exact(((((r0.rnm x _ (by split<;>omega)).nxt hp (hb _ hp) _).prv hn (hb _ hn) _).nxt hxL (hb x hxL) 0).prv hxL (hb x hxL) 0).root 15 _ (by decide) (by omega)
theorem SlI.rnm(hs:SlI t S)(hok:t.Ok)(fr to:Nat)(hto:to<4294967296):SlI (t.rnm fr to) S:=by
 have w3:to<256^fldW 13:=hto;have w4:to<256^fldW 14:=hto;have h3:=hs.root hok 13 to w3 (by decide);have k3:=zay hok 13 to w3;unfold TM.rnm;split<;>split
 ·exact h3.root k3 14 to w4 (by decide)
 ·exact hs.root hok 14 to w4 (by decide)
 ·exact h3
 ·exact hs
theorem SlI.ins(hs:SlI t S)(h:RgI t L E R b)(hL:∀y,L y→∃m,Lv t.a S y m)(hx:L x):SlI (insT t E R x) S:=by
 have lx:=h.lt4 hx;have hl:=h.len;have ok:=h.ents.ok;obtain⟨n,lvx⟩:=hL x hx;unfold insT;by_cases h0:R= []
 ·rw[if_pos h0]
  have ok1:=zaj ok (x+8) 4 x;have ok2:=zaj ok1 (x+12) 4 x;have s2:=(hs.rnxt ok lvx x).rprv ok1 lvx x;have ok3:=zay ok2 13 x (by have:256^fldW 13=4294967296:=rfl;omega);have s3:=s2.root ok2 13 x (by have:256^fldW 13=4294967296:=rfl;omega) (by decide);have ok4:=zay ok3 14 x (by have:256^fldW 14=4294967296:=rfl;omega);have s4:=s3.root ok3 14 x (by have:256^fldW 14=4294967296:=rfl;omega) (by decide);exact s4.root ok4 15 1 (by decide) (by decide)
 ·rw[if_neg h0]
  have hh:R.headD 0∈R:=by
   cases R with
   |nil=>exact absurd rfl h0
   |cons a T=>exact List.mem_cons_self ..
  obtain⟨np,lvp⟩:=hL _ (h.sub _ (h.nbr hh).2);obtain⟨nh,lvh⟩:=hL _ (h.sub _ hh);have ok1:=zaj ok ((E (R.headD 0)).prev+8) 4 x;have s1:=hs.rnxt ok lvp x;have ok2:=zaj ok1 (x+12) 4 (E (R.headD 0)).prev;have s2:=s1.rprv ok1 lvx (E (R.headD 0)).prev;have ok3:=zaj ok2 (x+8) 4 (R.headD 0);have s3:=s2.rnxt ok2 lvx (R.headD 0);have ok4:=zaj ok3 (R.headD 0+12) 4 x;have s4:=s3.rprv ok3 lvh x;exact s4.root ok4 15 _ (by have:256^fldW 15=4294967296:=rfl;omega) (by decide)
theorem SlI.rem(hs:SlI t S)(h:RgI t L E R b)(hL:∀y,L y→∃m,Lv t.a S y m)(hx:x∈R)(k:Nat)(hk:k≤R.length):SlI (t.rem x (E x).next (E x).prev (if(E x).next=x then 0 else(E x).next) k) S:=by
 have hl:=h.len;have ok:=h.ents.ok;have hn:=h.sub _ (h.nbr hx).1;have hp:=h.sub _ (h.nbr hx).2;have hxL:=h.sub x hx;have ln:=h.lt4 hn;obtain⟨n1,lvx⟩:=hL x hxL;obtain⟨n2,lvn⟩:=hL _ hn;obtain⟨n3,lvp⟩:=hL _ hp;have hto:(if(E x).next=x then 0 else(E x).next)<4294967296:=by split<;>omega
 have ok0:=(Nbr.refl (L:=L) ok).rnm x _ hto;have s0:=hs.rnm ok x _ hto;generalize hg:t.rnm x (if(E x).next=x then 0 else(E x).next)=r at*;have ea:r.a=t.a:=ok0.a;rw[←ea]at lvx lvn lvp;have ok1:=zaj ok0.ok ((E x).prev+8) 4 (E x).next;have s1:=s0.rnxt ok0.ok lvp (E x).next;have ok2:=zaj ok1 ((E x).next+12) 4 (E x).prev;have s2:=s1.rprv ok1 lvn (E x).prev;have ok3:=zaj ok2 (x+8) 4 0;have s3:=s2.rnxt ok2 lvx 0;have ok4:=zaj ok3 (x+12) 4 0;have s4:=s3.rprv ok3 lvx 0;have s5:=s4.root ok4 15 k (by have:256^fldW 15=4294967296:=rfl;omega) (by decide);unfold TM.rem;rw[hg];exact s5
end
section
open Go.RowKit Go.Shelf
attribute [local go_sem] Oper.semAt_some
structure RinM(W:World)(q:MH)(t:TM)(Bm:Nat):Prop where
 m:IsH W q t
 bm:Blk W Bm 26 #[.pointer (some ⟨q.m,0,none⟩)]
def RinS(q:MH)(t:TM)(A B:World):Prop:=Fr q.blocks A B∧IsH B q t
theorem zm9(x:Nat)(l pre:List Nat):(l++pre).headD x=(l++(pre++ [x])).headD 0:=by
 cases l with
 |nil=>cases pre with
  |nil=>rfl
  |cons a p=>rfl
 |cons a l=>rfl
theorem zzs(n:Nat)(hn:1≤n)(q:MH)(t:TM)(Bm:Nat){L:Nat→Prop}{E:Nat→HB}{R:List Nat}{b:Nat}(g:RgI t L E R b)(hBm:Bm∉q.blocks):zrf (α:=Nat) Fence.wide n prog 130 #[.pointer (some ⟨Bm,0,none⟩)] (fun x=> #[.int .i64 x]) (fun W=>RinM W q t Bm) (RinS q t) (fun pre x=>∃rest,R=pre++x::rest) (fun xs=>xs=R) (fun _=>True):=by
 intro lo J Jx W hJM hJS hXS hY h0;have hM0:=hJM _ _ h0;refine callsIn_of_wp func130 rfl trivial ?_ rfl;simp only[ntmps130,List.size_toArray,List.length_cons,List.length_nil,Nat.reduceAdd,Nat.reduceSub,Array.replicate_succ,Array.replicate_zero,List.push_toArray,List.append_toArray,List.nil_append,List.cons_append];have c1:=hM0.bm.cell 0;simp at c1;have hha:=fun W hW=>z13 (w:=W) (q:=q) (t:=t) hW;have hle:=fun W hW=>rlen (w:=W) (q:=q) (t:=t) hW;rw[g.hand]at hha;generalize hh0:R.headD 0=z0 at hha;have HH0:=hid hh0;rw[g.cnt]at hle;have HHA:=hid hha;have HLE:=hid hle;have hll:=g.len;have HNX:=hid (fun W (hW:IsH W q t) x (hx:x∈R)=>zpe hW g.ents (g.sub x hx));have HCY:=hid g.cyc;have HJM:=hid hJM;have HJS:=hid hJS;have HY:=hid hY;have H0:=hid h0;have HM0:=hid hM0;clear hJM hJS hXS hY g h0 hM0 hha hle hh0;gi_wp2_with (first|(refine⟨trivial,?_⟩;gi_at_call 131;refine(callsIn_wide.2 (HHA.out _ HM0.out.m)).mono ?_;rintro e W1 ⟨rfl,h1,f1⟩;have hJ1:=HJS.out _ _ _ H0.out ⟨f1,h1⟩;have hM1:=HJM.out _ _ hJ1;have c2:=hM1.bm.cell 0;simp at c2;have HJ1:=hid hJ1;have HM1:=hid hM1;clear h1 f1 hJ1 hM1)|(refine⟨trivial,?_⟩;gi_at_call 15;refine(callsIn_wide.2 (HLE.out _ HM1.out.m)).mono ?_;rintro e W2 ⟨rfl,h2,f2⟩)|fail);have HJ2:=hid (HJS.out _ _ _ HJ1.out ⟨f2,h2⟩);clear h2 f2 c1 c2 HJ1 H0;gi_loopw [3,8] (fun u v wr=>∃pre rest,R=pre++rest∧(∃z:Nat,Hid ((rest++pre).headD 0=z)∧u= .int .i64 z)∧v= .int .i64 pre.length∧Hid (J pre wr)) (fun _ v _=>R.length-(intOf v).toNat);case atStart=>exact⟨[],R,rfl,⟨z0,hid (by rw[List.append_nil];exact HH0.out),rfl⟩,rfl,HJ2⟩
 case round=>
  clear HJ2 HM1 HM0;obtain⟨pre,rest,hpr,⟨z,hz,rfl⟩,rfl,hJ⟩:=hrel;have hM:=HJM.out _ _ hJ.out;have c1:=hM.bm.cell 0;simp at c1;have hlr:R.length=pre.length+rest.length:=by rw[hpr,List.length_append]
  rcases rest with _|⟨x,rest⟩
  ·have b1':decide (pre.length<R.length)=false:=by simp;rw[hlr];simp
   have HPR:=hid hpr;have HB:=hid hlr;generalize R.length=n at*;clear hpr hM hlr hll;gi_wp2
   all_goals
    try refine⟨fun f h=>(by cases h),?_⟩
    gi_wp2;go_end0;exact⟨⟨_,rfl⟩,.inl ⟨_,by rw[HPR.out,List.append_nil],hJ.out⟩⟩
  ·have b1':decide (pre.length<R.length)=true:=by simp;rw[hlr];simp
   have hxR:x∈R:=by rw[hpr];exact List.mem_append.2 (.inr (List.mem_cons_self ..))
   obtain rfl:x=z:=hz.out;clear hz;obtain⟨fn,tmps,assign,body,hy,hR⟩:=HY.out pre x wr ⟨rest,hpr⟩ hJ.out;have hnx:=HNX.out;have hcy:=HCY.out;rw[hpr]at hcy;have en:=(zid hcy).1;rw[zm9 x rest pre]at en;generalize hz1:(rest++(pre++ [x])).headD 0=z1 at en;have HZ1:=hid hz1
   have HN:=hid (fun W (hW:IsH W q t)=>(show Calls prog 132 #[.pointer (some ⟨q.m,0,none⟩),.int .i64 x] W fun e w'=>e= .returned (.int .i64 z1)∧IsH w' q t∧Fr q.blocks W w' from by
    have:=HNX.out W hW x hxR;rw[en]at this;exact this))
   have HPR:=hid hpr;have hw1:=i64_in ((pre.length:Int)+1) (by omega);have HLR:=hid hlr;generalize hRn:R.length=RN at*;have HRN:=hid hRn;clear hpr hcy en hlr hll hRn hnx hM hz1;gi_wp2;refine hR.mono ?_;rintro e W3 (⟨rfl,hJ3⟩|⟨rfl,hJx3⟩)
   ·have hM3:=HJM.out _ _ hJ3
    have c3:=hM3.bm.cell 0;simp at c3;have HM3:=hid hM3;have HJ3:=hid hJ3;clear hM3 hJ3 c1;gi_wp2_with (first|(refine⟨trivial,?_⟩;gi_at_call 132;refine(callsIn_wide.2 (HN.out _ HM3.out.m)).mono ?_;rintro e W4 ⟨rfl,h4,f4⟩)|fail);refine⟨⟨pre++ [x],rest,by rw[HPR.out];simp,⟨z1,HZ1,rfl⟩,?_,hid (HJS.out _ _ _ HJ3.out ⟨f4,h4⟩)⟩,?_⟩
    ·simp
    ·have:=HLR.out
     simp[intOf]at this⊢;omega
   ·gi_wp2
    refine bodyPost_ret (results_none rfl _ _ _) rfl ?_;exact⟨⟨_,rfl⟩,.inr ⟨_,trivial,hJx3⟩⟩
end
section
open Go.RowKit Go.Shelf
attribute [local go_sem] Oper.semAt_some
theorem zs3(n:Nat)(m:Nat)(w:World):CallsIn Fence.wide n prog 52 #[.pointer (some ⟨m,0,none⟩)] w fun e w'=>e= .returned (.func (.func 130) #[] #[.pointer (some ⟨w.heap.size,0,none⟩)])∧w'=w.alloc (.cells #[.pointer (some ⟨m,0,none⟩)] 26):=by
 refine callsIn_of_wp func52 rfl trivial ?_ rfl;simp only[ntmps52,List.size_toArray,List.length_cons,List.length_nil,Nat.reduceAdd,Nat.reduceSub,Array.replicate_succ,Array.replicate_zero,List.push_toArray,List.append_toArray,List.nil_append,List.cons_append];gi_wp2;go_ret;exact⟨rfl,rfl⟩
theorem zuw(n:Nat)(hn:4≤n)(w:World)(q:MH)(t:TM)(h:IsH w q t){L:Nat→Prop}{E:Nat→HB}{l:List Nat}{b:Nat}(g:RgI t L E l b):CallsIn Fence.wide n prog 20 #[.pointer (some ⟨q.m,0,none⟩)] w fun e w'=> ∃v,e= .returned v∧w'.ownsRow w.heap.size 3 1 v l.length (intC l)∧IsH w' q t∧Fr q.blocks w w':=by
 have h1:1≤n:=by omega
 obtain⟨i0,hi,hz0,hz1,hz2⟩:=info_parts zek
 have hll:=g.len
 refine callsIn_of_wp_marks func20 rfl trivial ?_ rfl
 simp only[ntmps20,List.size_toArray,List.length_cons,List.length_nil,Nat.reduceAdd,Nat.reduceSub,Array.replicate_succ,Array.replicate_zero,List.push_toArray,List.append_toArray,List.nil_append,List.cons_append]
 gi_wp2_with (first|(refine⟨trivial,?_⟩;gi_at_call 52;refine(zs3 _ _ _).mono ?_;rintro e w' ⟨rfl,rfl⟩)|fail)
 obtain⟨W0,hW0⟩: ∃W0,((w.alloc (.cells #[.slice none 0 0] 30)).alloc (.cells #[.pointer (some ⟨q.m,0,none⟩)] 26))=W0:=⟨_,rfl⟩
 have bL:Blk W0 w.heap.size 30 #[.slice none 0 0] :=by rw[←hW0];exact(Blk.new w _ _).alloc _
 have bM:Blk W0 (w.heap.size+1) 26 #[.pointer (some ⟨q.m,0,none⟩)] :=by
  rw[←hW0]
  have:=Blk.new (w.alloc (.cells #[.slice none 0 0] 30)) 26 #[.pointer (some ⟨q.m,0,none⟩)]
  rwa[World.size_alloc]at this
 have fr0:Fr q.blocks w W0:=by rw[←hW0];exact((Fr.refl _ w).alloc _).alloc _
 have hT0:IsH W0 q t:=by rw[←hW0];exact(h.alloc _).alloc _
 have hz:W0.heap.size=w.heap.size+2:=by rw[←hW0];simp
 have hlt:=h.m.lt
 have hgx:=h.m.tab.size
 have hgy:=h.hi
 have hgt:=h.tabs.size
 rw[hW0]
 clear hW0 h
 generalize hLL:w.heap.size=Lb at*
 have HLL:=hid hLL
 have hq: ∀k,Lb≤k→k∉q.blocks:=fun k hk hm=>by have:=hlt k hm;omega
 have hnb: ∀k,k<W0.heap.size→k∉ [W0.heap.size,W0.heap.size+1] :=fun k hk hm=>by simp at hm;omega
 have hmem: ∀k∈ [W0.heap.size,W0.heap.size+1],k∈q.blocks∨w.heap.size≤k:=fun k hk=>by simp at hk;exact .inr (by omega)
 have hEM: ∀A B S,RinM A q t (Lb+1)→Fr S A B→(∀k∈S,k=Lb∨W0.heap.size≤k)→RinM B q t (Lb+1):=fun A B S hM hf hS=>
  ⟨⟨hM.m.m.fr hf (fun k hk hm=>by have:=hS k hm;have:=hlt k hk;omega) (fun k hk hm=>by have:=hS k hm;omega),hM.m.tabs.fr hf (fun k hk=>by have:=hS k hk;omega),hM.m.hi⟩,hM.bm.fr hf (fun hm=>by have:=hS _ hm;omega)⟩
 refine zg4 rfl h1 (gf:=130) (lb:= #[.pointer (some ⟨Lb+1,0,none⟩)]) rfl trivial (enters_of func130 (by kernel_rfl) rfl)
  (zzs (n-1) (by omega) q t (Lb+1) g (hq _ (by omega))) (fun _=>rfl)
  (fun A B hA hM hs=>⟨hs.1.keep2 hA ⟨hq _ (by omega),hq _ (by omega)⟩,hs.1.size⟩)
  (fun pre W=>RinM W q t (Lb+1)∧Fr q.blocks w W∧ ∃v,Blk W Lb 30 #[v] ∧W.ownsRow Lb 3 1 v pre.length (intC pre)∧ ∀g,v.ownBlock=some g→W0.heap.size+1<g)
  (fun _ _ _=>False)
  (fun s A hh=>hh.1) (fun cd s A hh=>hh.elim)
  ?hI (fun cd s A B hh _=>hh.elim) ?hIs (fun cd s A B hh _=>hh.elim) ⟨⟨hT0,bM⟩,fr0,_,bL,World.ownsRow_nil _ _ _ _,fun g e=>by simp[Value.ownBlock]at e⟩
  (fun y a' W=>a'={tmps:= #[.pointer (some ⟨q.m,0,none⟩),undef,.slice none 0 0,.pointer (some ⟨Lb,0,none⟩),.int .i64 y,.pointer (some ⟨q.m,0,none⟩),.func (.func 130) #[] #[.pointer (some ⟨Lb+1,0,none⟩)],.int .i64 y,undef,undef,undef,undef,undef],defers:= []})
  (fun y a' A B hh _=>hh) ?assign ?body ?done ?stop
 case hI=>exact fun s A B ⟨hM,hF,v,hL,hR,hO⟩ hf=>⟨hEM A B _ hM hf (fun k hk=> .inr (by simp at hk;omega)),hF.step hf hmem,v,hL.fr hf (hnb _ (by omega)),zuc hR hO hf (fun k hk=>by simp at hk;omega),hO⟩
 case hIs=>exact fun s A B ⟨hM,hF,v,hL,hR,hO⟩ hs=>⟨⟨hs.2,hM.bm.fr hs.1 (hq _ (by omega))⟩,hF.trans hs.1,v,hL.fr hs.1 (hq _ (by omega)),zuc hR hO hs.1 (fun k hk=>by have:=hlt k hk;omega),hO⟩
 case assign=>
  rintro lo pre y W K hW hi hK
  gi_wp2
  exact hK _ _ (Keep2.refl _ _) hi rfl
 case body=>
  rintro lo pre y a' W hW ⟨rest,hpr⟩ ⟨hM,hF,v,hL,hR,hO⟩ rfl
  have hc1:=hL.cell 0
  have hf1:=hL.frozen 0
  simp at hc1
  have hpl:pre.length+1≤1048576:=by rw[hpr]at hll;simp at hll;omega
  have hbw:Lb≤W.heap.size:=by have:=hF.size;have:=HLL.out;omega
  have HL:=hid hL
  have HM:=hid hM
  have HF:=hid hF
  have HO:=hid hO
  clear hL hM hF hO hpr bL bM fr0 hT0
  have HKEY:=hid (fun(o:Oper) (a:Act) (ops:Array Oper) (rest:List Oper) (Q:Exit→Act→World→Prop) (h0:o.guard=none) (s x:Operand) (h3:o.op= .call {callee:= .builtin .append,args:= #[s,x],argTypes:= #[30,30]}) (h4:a.eval s=v) (h5:a.eval x= .slice (some ⟨W.heap.size,0,none⟩) 1 1)=>
   wpListIn_append_own_at (F:=Fence.wide.inRound lo) (nF:=n-1-1) (P:=prog) (ops:=ops) (rest:=rest) (Q:=Q) (w:=W.alloc (.cells #[.int .i64 y] 3)) h0 s x 30 h3 Lb 3 i0 (.int .i64 0) 1 8 underlying30 hi hz0 hz1 hz2 rfl (by decide) v _ _ h4 (hR.alloc _) ⟨W.heap.size,0,none⟩ 1 1 [.int .i64 y] h5 rfl (zed _ _ _) (by simp[Value.oneCell']) (by unfold maxLen;omega) (by omega) (by simp;omega))
  clear hi
  gi_wp2_with (gi_at_builtin;refine HKEY.out _ _ _ _ _ rfl _ _ rfl rfl rfl ?_;intro v' w1 hown' hgrow _ hob;obtain⟨g',cap',rfl⟩:=ownsRow_succ hown';have hfg:=zc3 hgrow;have hL1:=HL.out.fr hfg (fun hm=>by have:=HO.out Lb (zbc hm);omega);have hc1:w1.cell? ⟨Lb,0,none⟩=some v:=hL1.cell 0;have hf1:=hL1.frozen 0)
  have hNL:Lb<W0.heap.size:=by omega
  have hfW:Fr (Lb::ownS v) W (w1.setCell ⟨Lb,0,none⟩ (.slice (some ⟨g',0,none⟩) (pre.length+1) cap')):=(hfg.mono (S':=Lb::ownS v) (fun k hk=> .inl (List.mem_cons_of_mem _ hk))).setCell (.inl (by simp)) _
  have hSm: ∀k∈Lb::ownS v,k=Lb∨W0.heap.size+1<k:=fun k hk=>by
   rcases List.mem_cons.1 hk with rfl|hk
   ·exact .inl rfl
   ·exact .inr (HO.out k (zbc hk))
  refine⟨hfW.keep2 hW ⟨fun hm=>by have:=hSm _ hm;omega,fun hm=>by have:=hSm _ hm;omega⟩,hEM W _ _ HM.out hfW (fun k hk=>by have:=hSm k hk;omega),HF.out.step hfW (fun k hk=>by have:=hSm k hk;exact .inr (by omega)),_,by simpa using hL1.set 0 (.slice (some ⟨g',0,none⟩) (pre.length+1) cap'),?_,fun g hg=> ?_⟩
  ·have:=zg8 hown' hL1 (by decide) 0 (.slice (some ⟨g',0,none⟩) (pre.length+1) cap')
   rw[List.length_append,List.length_singleton]
   have e:intC (pre++ [y])=intC pre++ [.int .i64 y] :=by simp[intC]
   rw[e]
   exact this
  ·rcases hob with h|h
   ·rw[hg]at h;exact HO.out g h.symm
   ·rw[hg]at h
    injection h with h
    rw[h,World.size_alloc]
    omega
 case done=>
  rintro D xs W hD hxs ⟨hM,hF,v,hL,hR,hO⟩ hK
  have hc1:=hL.cell 0
  simp at hc1
  gi_wp2
  refine⟨by simp,.inl ⟨_,_,rfl,run_takeDeferred (w:=W) hK,?_⟩⟩
  have hfp:Fr [D] W (W.putObj D (.deferred none)):=Fr.putObj _ _ (by simp)
  subst hxs
  refine⟨_,results_tmp rfl _ _ _,v,rfl,(by rw[HLL.out];exact ownsRow_putObj hR (.deferred none) hK rfl),⟨hM.m.m.fr hfp (fun k hk hm=> ?_) (fun k hk hm=> ?_),hM.m.tabs.fr hfp (fun k hk=> ?_),hM.m.hi⟩,hF.step hfp (by have:=HLL.out;simp;omega)⟩
  ·simp at hm;subst hm;exact hq _ (by omega) hk
  ·simp at hm;omega
  ·simp at hk;omega
 case stop=>
  rintro D cd pre W hD _ hh hK
  exact hh.elim
end
end Go.Proofs.YtolhkhdbgnciiaaGreatDoor
