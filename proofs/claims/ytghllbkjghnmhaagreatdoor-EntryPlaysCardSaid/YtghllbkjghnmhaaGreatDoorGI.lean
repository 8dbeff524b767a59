/- Several texts in one. -/
import Derived.Test.YtghllbkjghnmhaaGreatDoorGF
namespace Go.Proofs.YtghllbkjghnmhaaGreatDoor
open _root_.Go.Proofs.Tryz
open Go.Lib (hid)
open Go.IntWalk (i64_in)
set_option linter.unusedVariables false
set_option linter.unusedSimpArgs false
open Go.RowKit
set_option maxRecDepth 100000
set_option maxHeartbeats 8000000
def TM.pushN(t:TM)(z s n:Nat):Nat→TM
 |0=>t
 |j+1=>(t.pushN z s n j).push (z+s*(n-1-j)) (if j=0 then 0 else z+s*(n-j))
theorem zoj(t:TM)(x n:Nat):(t.push x n).a=t.a∧(t.push x n).s=t.s∧(t.push x n).rt=t.rt∧(t.push x n).hd=t.hd∧(t.push x n).sl=t.sl∧(t.push x n).ft=t.ft∧(t.push x n).kd=t.kd:=⟨rfl,rfl,rfl,rfl,rfl,rfl,rfl⟩
theorem zok(t:TM)(z s n:Nat)(j:Nat):(t.pushN z s n j).a=t.a∧(t.pushN z s n j).s=t.s∧(t.pushN z s n j).rt=t.rt∧(t.pushN z s n j).hd=t.hd∧(t.pushN z s n j).sl=t.sl∧(t.pushN z s n j).ft=t.ft∧(t.pushN z s n j).kd=t.kd:=by
 induction j with
 |zero=>exact⟨rfl,rfl,rfl,rfl,rfl,rfl,rfl⟩
 |succ j ih=>
  rw[TM.pushN];obtain⟨h1,h2,h3,h4,h5,h6,h7⟩:=ih;obtain⟨k1,k2,k3,k4,k5,k6,k7⟩:=zoj (t.pushN z s n j) (z+s*(n-1-j)) (if j=0 then 0 else z+s*(n-j));exact⟨k1.trans h1,k2.trans h2,k3.trans h3,k4.trans h4,k5.trans h5,k6.trans h6,k7.trans h7⟩
theorem zol{t:TM}(h:t.Ok)(z s n:Nat):∀j,(t.pushN z s n j).Ok
 |0=>h
 |j+1=>zm8 (zol h z s n j) _ _
theorem zom(t:TM)(z s n g:Nat):∀j,zf0 (t.pushN z s n j) g=zf0 t g
 |0=>rfl
 |j+1=>by rw[TM.pushN,znb];exact zom t z s n g j
theorem zon{t:TM}(h:t.Ok)(z s n:Nat)(hz:zdv t.a t.s≤z)(hs:8≤s):∀j,j≤n→Out t (t.pushN z s n j) z (s*n)
 |0,_=>Out.refl _ _ _
 |j+1,hj=>by
  obtain⟨e1,e2,_⟩:=zok t z s n j;refine(zon h z s n hz hs j (by omega)).trans ?_ e1 e2;have hm:s*(n-1-j)+s≤s*n:=by rw[←Nat.mul_succ];exact Nat.mul_le_mul_left _ (by omega)
  exact(zm9 (zol h z s n j) _ _ (by rw[e1,e2];omega)).wide (by omega) (by omega)
def zoo(z s k j:Nat):List Nat:=(List.range' k j).map fun m=>z+s*m
theorem zop(z s k j:Nat):zoo z s k (j+1)=(z+s*k)::zoo z s (k+1) j:=by simp[zoo,List.range'_succ]
theorem zoq(z s k j:Nat):(zoo z s k j).headD 0=if j=0 then 0 else z+s*k:=by
 rcases j with _|j
 ·rfl
 ·rw[zop,if_neg (by omega)];rfl
theorem zor{z s k j x:Nat}(h:x∈zoo z s k j):∃m,k≤m∧m<k+j∧x=z+s*m:=by
 obtain⟨m,hm,e⟩:=List.mem_map.1 h;exact⟨m,(List.mem_range'_1.1 hm).1,(List.mem_range'_1.1 hm).2,e.symm⟩
theorem zos{s k m:Nat}(h:k<m):s*k+s≤s*m:=by rw[←Nat.mul_succ];exact Nat.mul_le_mul_left _ h
theorem zot{t:TM}(h:t.Ok)(z s n:Nat)(hz:zdv t.a t.s≤z)(h4:z %4=0)(hs4:s %4=0)(hs:8≤s)(hk:∀k,k<n→KdOn t (z+s*k) s 6)(hb:∀k,k<n→ByOn t (z+s*k) s (fun _=>0)):∀j,j≤n→FrL (t.pushN z s n j) s (zoo z s (n-j) j)∧∀k,k<n-j→ByOn (t.pushN z s n j) (z+s*k) s (fun _=>0)
 |0,_=>⟨trivial,fun k hk=>hb k (by omega)⟩
 |j+1,hj=>by
  obtain⟨i1,i2⟩:=zot h z s n hz h4 hs4 hs hk hb j (by omega);obtain⟨e1,e2,_⟩:=zok t z s n j;have hok:=zol h z s n j;have hx:zdv (t.pushN z s n j).a (t.pushN z s n j).s≤z+s*(n-1-j):=by rw[e1,e2];omega
  have e3:n-(j+1)+1=n-j:=by omega
  have e4:n-1-j=n-(j+1):=by omega
  have ho:=zm9 hok (z+s*(n-1-j)) (if j=0 then 0 else z+s*(n-j)) hx;rw[zop,e3,TM.pushN];refine⟨⟨fun g g1 g2=> ?_,?_,?_⟩,fun k hkk=> ?_⟩
  ·rw[znb,zom]
   exact hk _ (by omega) g g1 g2
  ·have:=zna hok (s:=s) (if j=0 then 0 else z+s*(n-j)) hx (i2 (n-1-j) (by omega))
   rw[zoq];rw[e4]at this⊢;exact this
  ·refine i1.out ho (fun y hy=> ?_)
   obtain⟨m,m1,_,rfl⟩:=zor hy;have h1:=zos (s:=s) (show n-1-j<m by omega);refine⟨by rw[e1,e2];omega,?_,.inr (by omega)⟩;obtain⟨d,hd⟩:∃d,s=4*d:=⟨s/4,by omega⟩;rw[hd,Nat.mul_assoc];omega
  ·have h1:=zos (s:=s) (show k<n-1-j by omega)
   exact(i2 k (by omega)).out ho (by rw[e1,e2];omega) (.inl (by omega))
theorem zou(t:TM)(i c:Nat):zoo (sla t i) (csz c) 0 (nbk c)=(List.range (nbk c)).map (adr t i c):=by
 unfold zoo;rw[List.range_eq_range'];rfl
def TM.carv(t:TM)(i c:Nat):TM:=((((t.setK (sla t i) (csz c*nbk c) 6).setK (sla t i+csz c*nbk c) (cpad c) 8).pushN (sla t i) (csz c) (nbk c) (nbk c))).setL i c 0 (sla t i)
theorem zov{t t1:TM}{S:SS}(hok:t.Ok)(hs:SlI t S){i c:Nat}(hi:i<t.a)(h0:S.cls i=0)(hc:1≤c∧c≤9)(h1k:t1.Ok)(h1:Lis t t1)(u:TM)(huk:u.Ok)(hu:Lis (t1.carv i c) u)
  (hl:LS u (S.set i c ((List.range (nbk c)).map (adr t i c)) []).inn):SlI u (S.set i c ((List.range (nbk c)).map (adr t i c)) [])∧Sla t u∧Out t u (sla t i) 1024:=by
 have hs1:=hs.each i hi;rw[h0]at hs1;obtain⟨z1,z2,z3,z4⟩:=hs1.z rfl;obtain⟨b1,b2,b3,b4,b5⟩:=zmd hok i hi;obtain⟨c1,c2,c3,c4,c5,c6,c7⟩:=zmc c hc.1 hc.2;have es:sla t1 i=sla t i:=zmo h1.a h1.s i;have hb1:zdv t1.a t1.s≤sla t i:=by rw[h1.a,h1.s];exact b1
 have k2:=zlj h1k (sla t i) (csz c*nbk c) 6 (by decide);have k3:=zlj k2 (sla t i+csz c*nbk c) (cpad c) 8 (by decide);have hb3:zdv ((t1.setK (sla t i) (csz c*nbk c) 6).setK (sla t i+csz c*nbk c) (cpad c) 8).a ((t1.setK (sla t i) (csz c*nbk c) 6).setK (sla t i+csz c*nbk c) (cpad c) 8).s≤sla t i:=hb1;have hle:∀k,k<nbk c→csz c*k+csz c≤csz c*nbk c:=fun k hk=>zos hk
 have hm16:∀k,csz c*k %4=0:=fun k=>by
  obtain⟨d,hd⟩:∃d,csz c=4*d:=⟨csz c/4,by omega⟩;rw[hd,Nat.mul_assoc];omega
 have hby:∀o,o<1024→zfz ((t1.setK (sla t i) (csz c*nbk c) 6).setK (sla t i+csz c*nbk c) (cpad c) 8) (sla t i+o)=0:=fun o ho=>by
  rw[zln,zln,(h1.out hok h1k 0 0).by_ _ (by omega) (by omega)];exact z4 o ho
 have hkd:∀k,k<nbk c→KdOn ((t1.setK (sla t i) (csz c*nbk c) 6).setK (sla t i+csz c*nbk c) (cpad c) 8) (sla t i+csz c*k) (csz c) 6:=fun k hk g g1 g2=>by
  have:=hle k hk;have:=hm16 k;rw[zlm k2 _ _ 8 (by decide) (show zdv t1.a t1.s≤_ by omega),if_neg (by omega),zlm h1k _ _ 6 (by decide) hb1,if_pos (by omega)]
 obtain⟨p1,p2⟩:=zot k3 (sla t i) (csz c) (nbk c) hb3 (by omega) (by omega) (by omega) hkd (fun k hk j hj=>by
  have:=hle k hk;rw[Nat.add_assoc];exact hby _ (by omega)) (nbk c) (Nat.le_refl _)
 rw[Nat.sub_self,zou]at p1;obtain⟨e1,e2,e3,e4,e5,e6,e7⟩:=zok ((t1.setK (sla t i) (csz c*nbk c) 6).setK (sla t i+csz c*nbk c) (cpad c) 8) (sla t i) (csz c) (nbk c) (nbk c);have k4:=zol k3 (sla t i) (csz c) (nbk c) (nbk c);have o4:=zon k3 (sla t i) (csz c) (nbk c) hb3 (by omega) (nbk c) (Nat.le_refl _);have hkp:∀g,zf0 (((t1.setK (sla t i) (csz c*nbk c) 6).setK (sla t i+csz c*nbk c) (cpad c) 8).pushN (sla t i) (csz c) (nbk c) (nbk c)) g=zf0 ((t1.setK (sla t i) (csz c*nbk c) 6).setK (sla t i+csz c*nbk c) (cpad c) 8) g:=fun g=>zom _ _ _ _ g _;have hsl:sla t i<4294967296:=by omega
 have hT:t1.carv i c=(((t1.setK (sla t i) (csz c*nbk c) 6).setK (sla t i+csz c*nbk c) (cpad c) 8).pushN (sla t i) (csz c) (nbk c) (nbk c)).setL i c 0 (sla t i):=by unfold TM.carv;rw[es]
 rw[hT]at hu
 have o12:Out t ((t1.setK (sla t i) (csz c*nbk c) 6).setK (sla t i+csz c*nbk c) (cpad c) 8) (sla t i) 1024:=
  ((h1.out hok h1k (sla t i) 1024).trans ((zmf h1k (sla t i) (csz c*nbk c) 6 (by decide) hb1).wide (y:=sla t i) (m:=1024) (Nat.le_refl _) (by omega)) h1.a h1.s).trans ((zmf k2 (sla t i+csz c*nbk c) (cpad c) 8 (by decide) (show zdv t1.a t1.s≤_ by omega)).wide (by omega) (by omega)) h1.a h1.s
 generalize hT3:(t1.setK (sla t i) (csz c*nbk c) 6).setK (sla t i+csz c*nbk c) (cpad c) 8=t3 at*;have a3:t3.a=t.a:=by rw[←hT3];exact h1.a
 have s3:t3.s=t.s:=by rw[←hT3];exact h1.s
 have hd3:t3.hd=t1.hd:=by rw[←hT3];rfl
 have rt3:t3.rt=t1.rt:=by rw[←hT3];rfl
 have sl3:t3.sl=t.sl:=by rw[←hT3];exact h1.sl
 have ft3:t3.ft=t.ft:=by rw[←hT3];exact h1.ft
 generalize t3.pushN (sla t i) (csz c) (nbk c) (nbk c)=t4 at*;have k5:=zob k4 i c 0 (sla t i) hc.2 (by decide) hsl;have o5:=zoc k4 i c 0 (sla t i) hc.2 (by decide) hsl (sla t i) 1024;have oT:Out t (t4.setL i c 0 (sla t i)) (sla t i) 1024:=(o12.trans (o4.wide (Nat.le_refl _) (by omega)) a3 s3).trans o5 (e1.trans a3) (e2.trans s3)
 have sT:Sla t (t4.setL i c 0 (sla t i)):=⟨e1.trans a3,e2.trans s3,e5.trans sl3,e6.trans ft3,fun f hf=>by
  show t4.rt f=t.rt f;rw[e3,rt3];exact h1.rt f hf⟩
 have oU:=oT.lis k5 huk sT hu;have hhd:∀j r,r<3→u.hd j r=(t4.setL i c 0 (sla t i)).hd j r:=fun j r hr=>hu.hd j r (by omega) (by omega);have hH:Hd1 t u i c 0 (sla t i):=⟨hu.a.trans sT.a,hu.s.trans sT.s,by rw[hhd i 0 (by decide),zod,if_pos ⟨rfl,rfl⟩],by rw[hhd i 1 (by decide),zod,if_neg (by omega),if_pos ⟨rfl,rfl⟩],by rw[hhd i 2 (by decide),zod,if_neg (by omega),if_neg (by omega),if_pos ⟨rfl,rfl⟩]⟩;have k4u:Out t4 u 0 0:=((zoc k4 i c 0 (sla t i) hc.2 (by decide) hsl 0 0).trans (hu.out k5 huk 0 0) rfl rfl);refine⟨?_,sT.trans hu.sla,oU⟩;refine hs.upd hok hi (hu.a.trans sT.a) (hu.s.trans sT.s) hl oU (fun j r hj hr=> ?_) (Sl1.carved hc hH ?_ ?_ ?_)
 ·rw[hhd j r hr,zod,if_neg (fun h=>hj h.1),if_neg (fun h=>hj h.1),if_neg (fun h=>hj h.1),e4,hd3]
  exact h1.hd j r (by omega) (by omega)
 ·refine p1.out k4u (fun y hy=> ?_)
  obtain⟨k,hk,rfl⟩:=List.mem_map.1 hy;obtain⟨q1,_,q3⟩:=zmk hok hi hc (List.mem_range.1 hk);exact⟨by rw[e1,e2,a3,s3];omega,by omega,.inr (by omega)⟩
 ·intro g g1 g2
  rw[k4u.kd_ g (by rw[e1,e2,a3,s3];omega) (by omega),hkp,←hT3,zlm k2 _ _ 8 (by decide) (show zdv t1.a t1.s≤_ by omega),if_pos ⟨g1,g2⟩]
 ·intro j hj
  rw[k4u.by_ _ (by rw[e1,e2,a3,s3];omega) (by omega),o4.by_ _ (by rw[a3,s3];omega) (by omega),Nat.add_assoc];exact hby _ (by omega)
theorem zow(S:SS)(i c d:Nat)(F L G M:List Nat):(S.set i c F L).set i d G M=S.set i d G M:=by
 have h:∀{α:Type} (f:Nat→α) (v w:α),up (up f i v) i w=up f i w:=fun f v w=>by
  funext j;by_cases e:j=i
  ·subst e;rw[zf1,zf1]
  ·rw[zf2 _ _ e,zf2 _ _ e,zf2 _ _ e]
 unfold SS.set;dsimp only;rw[h,h,h]
theorem zox{t t3:TM}{S:SS}(hok:t.Ok)(hs:SlI t S){i x:Nat}(hi:i<t.a)(hx:x∈S.lv i)(h3k:t3.Ok)(h3:Lis ((t.setB x (csz (S.cls i)) 0).setK x (csz (S.cls i)) 6) t3)
  (hl:LS t3 (S.set i (S.cls i) (x::S.fr i) (delS x (S.lv i))).inn):
  SlI ((t3.push x ((S.fr i).headD 0)).setL i (S.cls i) ((S.lv i).length-1) x) (S.set i (S.cls i) (x::S.fr i) (delS x (S.lv i)))∧Sla t ((t3.push x ((S.fr i).headD 0)).setL i (S.cls i) ((S.lv i).length-1) x)∧Out t ((t3.push x ((S.fr i).headD 0)).setL i (S.cls i) ((S.lv i).length-1) x) x (csz (S.cls i)):=by
 have h1:=hs.each i hi;obtain⟨a1,_,a3,a4,a5,a6,_⟩:=h1.at_ hok hi (x:=x) (.inr hx);have h0:=h1.none (x:=x) (.inr hx);have hc9:=h1.c9;obtain⟨c1,c2,c3,c4,c5,_⟩:=zmc (S.cls i) (by omega) hc9;have hlen:=h1.len h0;have hsl:=(zmd hok i hi).2.2.2.2;have k1:=zlf hok x (csz (S.cls i)) 0;have k2:=zlj k1 x (csz (S.cls i)) 6 (by decide);have hb3:zdv t3.a t3.s≤x:=by rw[h3.a,h3.s];exact a4
 have k4:=zm8 h3k x ((S.fr i).headD 0);have hx4:x<4294967296:=by omega
 have o2:Out t ((t.setB x (csz (S.cls i)) 0).setK x (csz (S.cls i)) 6) x (csz (S.cls i)):=(zme hok x _ 0 a4).trans (zmf k1 x _ 6 (by decide) a4) rfl rfl;have o3:Out t t3 x (csz (S.cls i)):=o2.trans (h3.out k2 h3k _ _) rfl rfl;have o4:=(zm9 h3k x ((S.fr i).headD 0) hb3).wide (y:=x) (m:=csz (S.cls i)) (Nat.le_refl _) (by omega);have o5:=zoc k4 i (S.cls i) ((S.lv i).length-1) x hc9 (by omega) hx4 x (csz (S.cls i));obtain⟨p1,p2,p3,p4,p5,p6,_⟩:=zoj t3 x ((S.fr i).headD 0);have oU:Out t ((t3.push x ((S.fr i).headD 0)).setL i (S.cls i) ((S.lv i).length-1) x) x (csz (S.cls i)):=(o3.trans o4 h3.a h3.s).trans o5 (p1.trans h3.a) (p2.trans h3.s)
 have sU:Sla t ((t3.push x ((S.fr i).headD 0)).setL i (S.cls i) ((S.lv i).length-1) x):=⟨p1.trans h3.a,p2.trans h3.s,p5.trans h3.sl,p6.trans h3.ft,fun f hf=>by
  show(t3.push x ((S.fr i).headD 0)).rt f=t.rt f;rw[p3];exact h3.rt f hf⟩
 have hkd:KdOn ((t3.push x ((S.fr i).headD 0)).setL i (S.cls i) ((S.lv i).length-1) x) x (csz (S.cls i)) 6:=fun g g1 g2=>by
  show zf0 (t3.push x ((S.fr i).headD 0)) g=6;rw[znb,(h3.out k2 h3k 0 0).kd_ g (by show zdv t.a t.s≤4*g;omega) (by omega)];exact zmg k1 x _ 6 (by decide) a4 g g1 g2
 have hz3:ByOn t3 x (csz (S.cls i)) (fun _=>0):=fun j hj=>by
  rw[(h3.out k2 h3k 0 0).by_ (x+j) (by show zdv t.a t.s≤x+j;omega) (by omega),zln];exact zmh hok x _ a4 j hj
 have hby:ByOn ((t3.push x ((S.fr i).headD 0)).setL i (S.cls i) ((S.lv i).length-1) x) x (csz (S.cls i)) (lnkB ((S.fr i).headD 0)):=fun j hj=>by
  rw[(zoc k4 i (S.cls i) ((S.lv i).length-1) x hc9 (by omega) hx4 0 0).by_ (x+j) (by rw[p1,p2];omega) (by omega)];exact zna h3k ((S.fr i).headD 0) hb3 hz3 j hj
 have hH:Hd1 t ((t3.push x ((S.fr i).headD 0)).setL i (S.cls i) ((S.lv i).length-1) x) i (S.cls i) ((S.lv i).length-1) x:=⟨sU.a,sU.s,by rw[zod,if_pos ⟨rfl,rfl⟩],by rw[zod,if_neg (by omega),if_pos ⟨rfl,rfl⟩],by rw[zod,if_neg (by omega),if_neg (by omega),if_pos ⟨rfl,rfl⟩]⟩;refine⟨?_,sU,oU⟩;refine hs.upd hok hi sU.a sU.s ?_ (oU.wide a1 (by omega)) (fun j r hj hr=> ?_) (h1.give hok hi hx hH oU hkd hby)
 ·exact hl.same p1 (fun f=>by show(t3.push x ((S.fr i).headD 0)).rt f=t3.rt f;rw[p3]) (fun y r hr=>by rw[zjx _ _ _ _ _ _ _ hr,p4])
 ·rw[zod,if_neg (fun h=>hj h.1),if_neg (fun h=>hj h.1),if_neg (fun h=>hj h.1),p4]
  exact h3.hd j r (by omega) (by omega)
theorem zoy{t:TM}{S:SS}(hok:t.Ok)(hs:SlI t S){i:Nat}(hi:i<t.a)(h0:S.cls i≠0)(hL:S.lv i= []):KdOn t (sla t i) (csz (S.cls i)*nbk (S.cls i)) 6:=fun g g1 g2=>by
 have h1:=hs.each i hi;rw[hL]at h1;have hc9:=h1.c9;obtain⟨c1,c2,c3,_,_,c6,c7⟩:=zmc (S.cls i) (by omega) hc9;obtain⟨_,_,b3,_⟩:=zmd hok i hi
 obtain⟨k,hk,k1,k2⟩:∃k,k<nbk (S.cls i)∧adr t i (S.cls i) k/4≤g∧g<(adr t i (S.cls i) k+csz (S.cls i))/4:=by
  have hpos:0<csz (S.cls i):=by omega
  refine⟨(4*g-sla t i)/csz (S.cls i),?_,?_,?_⟩
  ·rw[Nat.div_lt_iff_lt_mul hpos,Nat.mul_comm (nbk (S.cls i)) (csz (S.cls i))];omega
  ·have:=Nat.div_mul_le_self (4*g-sla t i) (csz (S.cls i))
   unfold adr;rw[Nat.mul_comm]at this;omega
  ·have h2:=Nat.div_add_mod (4*g-sla t i) (csz (S.cls i))
   have h3:=Nat.mod_lt (4*g-sla t i) hpos;obtain⟨d,hd⟩:∃d,csz (S.cls i)=4*d:=⟨csz (S.cls i)/4,by omega⟩
   have h4:csz (S.cls i)*((4*g-sla t i)/csz (S.cls i)) %4=0:=by
    conv=>lhs;rw[show csz (S.cls i)*((4*g-sla t i)/csz (S.cls i))=4*(d*((4*g-sla t i)/csz (S.cls i)))by rw[←Nat.mul_assoc,←hd]]
    omega
   unfold adr;omega
 rcases h1.mem' h0 hk with h|h
 ·exact h1.free.kd _ h g k1 k2
 ·simp at h
theorem zoz{t t3:TM}{S:SS}(hok:t.Ok)(hs:SlI t S){i:Nat}(hi:i<t.a)(h0:S.cls i≠0)(hL:S.lv i= [])(h3k:t3.Ok)(h3:Lis ((t.setB (sla t i) (csz (S.cls i)*nbk (S.cls i)) 0).setK (sla t i) 1024 7) t3)(u:TM)(huk:u.Ok)(hu:Lis (t3.setL i 0 0 0) u)
  (hl:LS u (S.set i 0 [] []).inn):SlI u (S.set i 0 [] [])∧Sla t u∧Out t u (sla t i) 1024:=by
 have h1:=hs.each i hi;have hc9:=h1.c9;obtain⟨_,_,_,_,_,c6,c7⟩:=zmc (S.cls i) (by omega) hc9;obtain⟨b1,_,b3,_⟩:=zmd hok i hi;have k1:=zlf hok (sla t i) (csz (S.cls i)*nbk (S.cls i)) 0;have k2:=zlj k1 (sla t i) 1024 7 (by decide);have k4:=zob h3k i 0 0 0 (by decide) (by decide) (by decide);have o2:Out t ((t.setB (sla t i) (csz (S.cls i)*nbk (S.cls i)) 0).setK (sla t i) 1024 7) (sla t i) 1024:=((zme hok (sla t i) _ 0 b1).wide (y:=sla t i) (m:=1024) (Nat.le_refl _) (by omega)).trans (zmf k1 (sla t i) 1024 7 (by decide) b1) rfl rfl;have o3:Out t t3 (sla t i) 1024:=o2.trans (h3.out k2 h3k _ _) rfl rfl;have oT:=o3.trans (zoc h3k i 0 0 0 (by decide) (by decide) (by decide) (sla t i) 1024) h3.a h3.s;have sT:Sla t (t3.setL i 0 0 0):=⟨h3.a,h3.s,h3.sl,h3.ft,h3.rt⟩;have oU:=oT.lis k4 huk sT hu;have h3u:Out t3 u 0 0:=(zoc h3k i 0 0 0 (by decide) (by decide) (by decide) 0 0).trans (hu.out k4 huk 0 0) rfl rfl;have hhd:∀j r,r<3→u.hd j r=(t3.setL i 0 0 0).hd j r:=fun j r hr=>hu.hd j r (by omega) (by omega);have hH:Hd1 t u i 0 0 0:=⟨hu.a.trans h3.a,hu.s.trans h3.s,by rw[hhd i 0 (by decide),zod,if_pos ⟨rfl,rfl⟩],by rw[hhd i 1 (by decide),zod,if_neg (by omega),if_pos ⟨rfl,rfl⟩],by rw[hhd i 2 (by decide),zod,if_neg (by omega),if_neg (by omega),if_pos ⟨rfl,rfl⟩]⟩;have hba:∀y,zdv t.a t.s≤y→zdv t3.a t3.s≤y:=fun y hy=>by rw[h3.a,h3.s];exact hy
 refine⟨?_,sT.trans hu.sla,oU⟩;refine hs.upd hok hi (hu.a.trans h3.a) (hu.s.trans h3.s) hl oU (fun j r hj hr=> ?_) (Sl1.melted hH ?_ ?_)
 ·rw[hhd j r hr,zod,if_neg (fun h=>hj h.1),if_neg (fun h=>hj h.1),if_neg (fun h=>hj h.1)]
  exact h3.hd j r (by omega) (by omega)
 ·intro g g1 g2
  rw[h3u.kd_ g (hba _ (by omega)) (by omega),(h3.out k2 h3k 0 0).kd_ g (by show zdv t.a t.s≤4*g;omega) (by omega)];exact zmg k1 (sla t i) 1024 7 (by decide) b1 g g1 g2
 ·intro j hj
  rw[h3u.by_ _ (hba _ (by omega)) (by omega),(h3.out k2 h3k 0 0).by_ _ (by show zdv t.a t.s≤_;omega) (by omega),zln,zlg hok _ _ 0 b1];by_cases e:sla t i≤sla t i+j∧sla t i+j<sla t i+csz (S.cls i)*nbk (S.cls i)
  ·rw[if_pos e,nb_0]
  ·rw[if_neg e]
   have:=h1.pb h0 (j-csz (S.cls i)*nbk (S.cls i)) (by omega);rw[show sla t i+csz (S.cls i)*nbk (S.cls i)+(j-csz (S.cls i)*nbk (S.cls i))=sla t i+j by omega]at this;exact this
section
variable{w:World}{q:MH}{t:TM}{S:SS}{B:Nat}
theorem zo0(z s k j:Nat):(zoo z s k j).length=j:=by simp[zoo]
theorem zo1(z s j:Nat):zoo z s 0 (j+1)=zoo z s 0 j++ [z+s*j] :=by simp[zoo,List.range'_concat]
theorem zo2(z s k j m:Nat)(h:m<(zoo z s k j).length):(zoo z s k j)[m] =z+s*(k+m):=by simp[zoo]
def zo3(w Wc:World)(q:MH)(t3:TM)(B G:Nat)(P:Array Value)(z s j:Nat)(W:World):Prop:=
 IsH W q t3∧Blk W B 187 P∧Blk W Wc.heap.size 187 P∧Fr (B::q.blocks) w W∧Wc.heap.size+1≤W.heap.size∧ ∃v,Blk W G 69 #[v] ∧W.ownsRow (Wc.heap.size+1) 3 1 v (zoo z s 0 j).length (intC (zoo z s 0 j))
theorem zo4{w Wc W:World}{q:MH}{t3:TM}{B G:Nat}{P:Array Value}{z s j:Nat}(hB:B∉q.blocks)(hGq:G∉q.blocks)(hGB:G≠B)(hGw:w.heap.size≤G)(hGc:G<Wc.heap.size)(hBc:B<Wc.heap.size)(hqc:∀k∈q.blocks,k<Wc.heap.size)(hwc:w.heap.size≤Wc.heap.size)(hgx:5≤G)(hj:j≤1000)
  (h:zo3 w Wc q t3 B G P z s j W):Calls prog 234 (#[.int .i64 (z+s*j:Nat)] ++ #[.pointer (some ⟨G,0,none⟩)]) W (zR (.tuple #[]) fun w'=>zo3 w Wc q t3 B G P z s (j+1) w'):=by
 obtain⟨h1,h2,h3,h4,h5,v,h6,h7⟩:=h;refine(zoi G (Wc.heap.size+1) v (zoo z s 0 j) (z+s*j) h6 h7 (by rw[zo0];omega) h5).mono fun e w' ⟨he,v',k1,k2,_,k4⟩=>⟨he,?_⟩
 have hown:∀k∈G::ownS v,k=G∨Wc.heap.size+1≤k:=fun k hk=>by
  rcases List.mem_cons.1 hk with rfl|hk
  ·exact .inl rfl
  ·exact .inr (h7.lt k (zhv hk)).1
 refine⟨⟨h1.m.fr k4 (fun k hk hm=> ?_) (fun k hk hm=> ?_),h1.tabs.fr k4 (fun k hk=> ?_),h1.hi⟩,h2.fr k4 (fun hm=> ?_),h3.fr k4 (fun hm=> ?_),h4.step k4 (fun k hk=> .inr ?_),Nat.le_trans h5 k4.size,v',k1,by rw[zo1];exact k2⟩
 ·rcases hown k hm with rfl|e
  ·exact hGq hk
  ·have:=hqc k hk;omega
 ·rcases hown k hm with rfl|e<;>omega
 ·rcases hown k hk with rfl|e<;>omega
 ·rcases hown _ hm with e|e
  ·exact hGB e.symm
  ·omega
 ·rcases hown _ hm with e|e<;>omega
 ·rcases hown k hk with rfl|e<;>omega
def fJ(z s n j:Nat):Nat:=if j=0 then 0 else z+s*(n-j)
theorem zo5{α:Type}(f:Nat→α)(i:Nat)(v w:α):up (up f i v) i w=up f i w:=by
 funext j;by_cases e:j=i
 ·subst e;rw[zf1,zf1]
 ·rw[zf2 _ _ e,zf2 _ _ e,zf2 _ _ e]
def TM.kin(t:TM)(z c:Nat):TM:=(t.setK z (csz c*nbk c) 6).setK (z+csz c*nbk c) (cpad c) 8
theorem zo6{t:TM}(h:t.Ok){z c:Nat}(hc:1≤c∧c≤9)(hb:zdv t.a t.s≤z)(h4:z %4=0){k:Nat}(hk:k<nbk c):KdOn (t.kin z c) (z+csz c*k) (csz c) 6:=fun g g1 g2=>by
 obtain⟨c1,c2,c3,_,_,c6,c7⟩:=zmc c hc.1 hc.2;have:=zos (s:=csz c) hk
 have hm:csz c*k %4=0:=by
  obtain⟨d,hd⟩:∃d,csz c=4*d:=⟨csz c/4,by omega⟩;rw[hd,Nat.mul_assoc];omega
 unfold TM.kin;rw[zlm (zlj h _ _ 6 (by decide)) _ _ 8 (by decide) (show zdv t.a t.s≤_ by omega),if_neg (by omega),zlm h _ _ 6 (by decide) hb,if_pos (by omega)]
theorem zo7{w:World}{q:MH}{t:TM}{B:Nat}(hok:t.Ok)(i:Int)(c z j:Nat)(n p:Int)(hc:1≤c∧c≤9)(hb:zdv t.a t.s≤z)(h16:z %16=0)(hl:z+1024≤zdw t.a t.s)(hl2:zdw t.a t.s≤1048576)(hj:j<nbk c)(h:IsH w q ((t.kin z c).pushN z (csz c) (nbk c) j))(hbk:Blk w B 187 (prC q.m i z c 0 (fJ z (csz c) (nbk c) j) n p))(hB:B∉q.blocks)(hg:5≤B):Calls prog 134 #[some B,.int .i64 (z+csz c*(nbk c-1-j):Nat)] w (zR (.tuple #[]) fun w'=>IsH w' q ((t.kin z c).pushN z (csz c) (nbk c) (j+1))∧Blk w' B 187 (prC q.m i z c 0 (fJ z (csz c) (nbk c) (j+1)) n p)∧Fr (B::q.blocks) w w'):=by
 obtain⟨c1,c2,c3,_,_,c6,c7⟩:=zmc c hc.1 hc.2;obtain⟨e1,e2,_⟩:=zok (t.kin z c) z (csz c) (nbk c) j;have hm:=zos (s:=csz c) (show nbk c-1-j<nbk c by omega)
 have h8:csz c*(nbk c-1-j) %16=0:=by
  obtain⟨d,hd⟩:∃d,csz c=16*d:=⟨csz c/16,by omega⟩;rw[hd,Nat.mul_assoc];omega
 have hkd:KdOn ((t.kin z c).pushN z (csz c) (nbk c) j) (z+csz c*(nbk c-1-j)) (csz c) 6:=fun g g1 g2=>(zom _ _ _ _ g j).trans (zo6 hok hc hb (by omega) (by omega) g g1 g2);have hp:=zm5 hkd (by omega) (by omega) (by rw[e1,e2];show zdv t.a t.s≤_;omega) (by rw[e1,e2];show _≤zdw t.a t.s;omega) (fun _=>0)
 have hf:fJ z (csz c) (nbk c) j<4294967296:=by
  unfold fJ;split
  ·decide
  ·have:=zos (s:=csz c) (show nbk c-j<nbk c by omega);omega
 have:=zoa h i z c 0 (fJ z (csz c) (nbk c) j) n p (z+csz c*(nbk c-1-j)) (fJ z (csz c) (nbk c) j) (fun _=>0) hp hbk hB hg rfl hf (by omega)
 have e3:fJ z (csz c) (nbk c) (j+1)=z+csz c*(nbk c-1-j):=by
  unfold fJ;rw[if_neg (by omega),show nbk c-(j+1)=nbk c-1-j by omega]
 rw[e3];exact this
theorem zo8{t t1:TM}{S:SS}(hok:t.Ok)(hs:SlI t S){i c:Nat}(hi:i<t.a)(h0:S.cls i=0)(hc:1≤c∧c≤9)(h1k:t1.Ok)(h1:Lis t t1)(l1:LS t1 (up S.inn i (-1))):(((t1.kin (sla t i) c).pushN (sla t i) (csz c) (nbk c) (nbk c)).setL i c 0 (sla t i))=t1.carv i c∧LS (t1.carv i c) (up S.inn i (-1))∧∀u,u.Ok→Lis (t1.carv i c) u→LS u (up (up S.inn i (-1)) i c)→SlI u (S.set i c ((List.range (nbk c)).map (adr t i c)) [])∧Sla t u∧Out t u (sla t i) 1024:=by
 have es:sla t1 i=sla t i:=zmo h1.a h1.s i;have e:(((t1.kin (sla t i) c).pushN (sla t i) (csz c) (nbk c) (nbk c)).setL i c 0 (sla t i))=t1.carv i c:=by unfold TM.carv TM.kin;rw[es]
 refine⟨e,?_,fun u hu k l=>zov hok hs hi h0 hc h1k h1 u hu k ?_⟩
 ·rw[←e]
  obtain⟨e1,_,e3,e4,_⟩:=zok (t1.kin (sla t i) c) (sla t i) (csz c) (nbk c) (nbk c);refine l1.same e1 (fun f=>by show((t1.kin (sla t i) c).pushN (sla t i) (csz c) (nbk c) (nbk c)).rt f=t1.rt f;rw[e3];rfl) (fun y r hr=>by rw[zjx _ _ _ _ _ _ _ hr,e4];rfl)
 ·rw[zmq,if_neg (by omega),if_neg (by
   have:=(zmc c hc.1 hc.2).2.2.2.1;intro h;have:=congrArg List.length h;simp at this;omega),←zo5 S.inn i (-1)]
  exact l
def zo9(w:World)(q:MH)(t:TM)(S':SS)(B i c:Nat)(n p:Int)(e:Ending)(w':World):Prop:=
 e= .returned (.tuple #[])∧ ∃u,IsH w' q u∧SlI u S'∧Sla t u∧Out t u (sla t i) 1024∧Blk w' B 187 (prC q.m i (sla t i) c 0 (sla t i) n p)∧Fr (B::q.blocks) w w'
theorem zpa(h:IsH w q t)(hs:SlI t S)(i c:Nat)(n p:Int)(hi:i<t.a)(h0:S.cls i=0)(hc:1≤c∧c≤9)(hb:Blk w B 187 (prC q.m i (sla t i) 0 0 0 n p))(hB:B∉q.blocks)(hg:5≤B):Calls prog 125 #[.pointer (some ⟨B,0,none⟩),.int .i64 c] w (zo9 w q t (S.set i c ((List.range (nbk c)).map (adr t i c)) []) B i c n p):=by
 have hok:=h.ok
 obtain⟨b1,b2,b3,b4,b5⟩:=zmd hok i hi
 obtain⟨_,_,_,c4,c5,c6,c7⟩:=zmc c hc.1 hc.2
 have hini:S.inn i=0:=by unfold SS.inn;rw[if_pos h0]
 have HRm:=hid (fun W hW=>by
  have hE:remE t.a S.inn 0 i=0:=by
   unfold remE
   have:=zi7 (a:=t.a) (c:=0) (x:=i) (by decide) hi
   rw[show((0:Int))=((0:Nat):Int)from rfl,this,if_neg (by decide),Int.toNat_natCast,if_neg (fun h=>h hini)]
  have hI:remI t.a S.inn 0 i=up S.inn i (-1):=by unfold remI;rw[hE,if_pos rfl,Int.toNat_natCast]
  have:=hrem (w:=W) (q:=q) (t:=t) hW hs.ls 0 i
  rw[hE,hI]at this
  exact this)
 have HE1:=fun t' W' W'' (h1:IsH W' q t') (hf:Fr [B] W' W'')=>h1.fr1 hf hB hg
 have HPb:=hid (fun W (hW:TabM W)=>zns hW q.m i (sla t i) c 0 0 n p c hc.2 rfl)
 have HPd:=hid (fun W (hW:TabM W)=>by
  have:=znk hW c
  rw[znp c hc.2]at this
  exact this)
 have HALL:=hid (fun(t1:TM) (k1:t1.Ok) (e1:Lis t t1) (l1:LS t1 (up S.inn i (-1)))=>
  (show(∀W,IsH W q t1→Calls prog 132 #[.pointer (some ⟨q.m,0,none⟩),.int .i64 (sla t i),.int .i64 (csz c*nbk c:Nat),.int .i64 6] W (zR (.int .i64 0) fun w'=>IsH w' q (t1.setK (sla t i) (csz c*nbk c) 6)∧Fr q.blocks W w'))
   ∧(∀W,IsH W q (t1.setK (sla t i) (csz c*nbk c) 6)→Calls prog 132 #[.pointer (some ⟨q.m,0,none⟩),.int .i64 ((sla t i:Int)+(csz c*nbk c:Nat)),.int .i64 (cpad c),.int .i64 8] W (zR (.int .i64 0) fun w'=>IsH w' q (t1.kin (sla t i) c)∧Fr q.blocks W w'))
   ∧(∀W j,j<nbk c→IsH W q ((t1.kin (sla t i) c).pushN (sla t i) (csz c) (nbk c) j)→Blk W B 187 (prC q.m i (sla t i) c 0 (fJ (sla t i) (csz c) (nbk c) j) n p)→Calls prog 134 #[.pointer (some ⟨B,0,none⟩),.int .i64 (sla t i+csz c*(nbk c-1-j):Nat)] W (zR (.tuple #[]) fun w'=>IsH w' q ((t1.kin (sla t i) c).pushN (sla t i) (csz c) (nbk c) (j+1))∧Blk w' B 187 (prC q.m i (sla t i) c 0 (fJ (sla t i) (csz c) (nbk c) (j+1)) n p)∧Fr (B::q.blocks) W w'))
   ∧(∀W,IsH W q ((t1.kin (sla t i) c).pushN (sla t i) (csz c) (nbk c) (nbk c))→Calls prog 135 #[.agg (prC q.m i (sla t i) c 0 (sla t i) n p)] W (zR (.tuple #[]) fun w'=>IsH w' q (t1.carv i c)∧Fr q.blocks W w'))
   ∧(∀W,IsH W q (t1.carv i c)→Calls prog 133 #[.pointer (some ⟨q.m,0,none⟩),.int .i64 c,.int .i64 i] W fun e w'=> ∃r u,e= .returned (.int .i64 r)∧IsH w' q u∧SlI u (S.set i c ((List.range (nbk c)).map (adr t i c)) [])∧Sla t u∧Out t u (sla t i) 1024∧Fr q.blocks W w')from by
   obtain⟨f1,f2,f3⟩:=zo8 hok hs hi h0 hc k1 e1 l1
   obtain⟨q1,_⟩:=zok (t1.kin (sla t i) c) (sla t i) (csz c) (nbk c) (nbk c)
   have ea:(t1.carv i c).a=t.a:=by rw[←f1];exact q1.trans e1.a
   refine⟨fun W hW=>zn7 hW (sla t i) (csz c*nbk c) 6 (by rw[e1.a,e1.s];exact b1) (by omega) (by omega) (by rw[e1.a,e1.s];omega) (by decide) _ _ _ rfl rfl rfl,fun W hW=>zn7 hW (sla t i+csz c*nbk c) (cpad c) 8 (by show zdv t1.a t1.s≤_;rw[e1.a,e1.s];omega) (by omega) (by omega) (by show _≤zdw t1.a t1.s;rw[e1.a,e1.s];omega) (by decide) _ _ _ (Int.natCast_add _ _).symm rfl rfl,fun W j hj hW hbk=>zo7 k1 i c (sla t i) j n p hc (by rw[e1.a,e1.s];exact b1) b3 (by rw[e1.a,e1.s];exact b2) (by rw[e1.a,e1.s];exact b5) hj hW hbk hB hg,fun W hW=> ?_,fun W hW=> ?_⟩
   ·have:=zn9 hW i (sla t i) c 0 (sla t i) n p i c 0 (sla t i) (by rw[q1];show i<t1.a;rw[e1.a];exact hi) hc.2 (by decide) (by omega) rfl rfl rfl rfl
    rw[f1]at this
    exact this
   ·have hE:insE (t1.carv i c).a (up S.inn i (-1)) c i=0:=by
     unfold insE
     rw[ea,zi7 hc.2 hi,if_neg (by decide),Int.toNat_natCast,zf1,if_neg (by decide)]
    have hI:insI (t1.carv i c).a (up S.inn i (-1)) c i=up (up S.inn i (-1)) i c:=by unfold insI;rw[hE,if_pos rfl,Int.toNat_natCast]
    have:=hins hW f2 c i
    rw[hI]at this
    exact this.mono fun e w' ⟨he,u,u1,u2,u3,u4⟩=>by
     obtain⟨v1,v2,v3⟩:=f3 u u1.ok u3 u2
     exact⟨_,u,he,u1,v1,v2,v3,u4⟩))
 have hAd:=zou t i c
 have HFN:=hid (show fJ (sla t i) (csz c) (nbk c) (nbk c)=sla t i from by unfold fJ;rw[if_neg (by omega)];simp)
 have hEnter: ∀(args:Array Value) (w:World),(callFunc 234 args).run prog w= .ok (.enter 234 args) w:=zog func234 rfl rfl
 have HEa:=hid (fun W (hT:TabM W) G (Inv:Nat→World→Prop) h0 hT' hdo=>zoh (w:=W) q.m i (sla t i) c 0 0 n p c (sla t i) hc rfl rfl (by omega) 234 #[.pointer (some ⟨G,0,none⟩)] hEnter Inv h0 hT' hdo)
 have HCS:=hid (fun(Wc W:World) (t3:TM) (G j:Nat) h1 h2 h3 h4 h5 h6 h7 h8 h9 h10=>zo4 (w:=w) (Wc:=Wc) (W:=W) (q:=q) (t3:=t3) (B:=B) (G:=G) (P:=prC q.m i (sla t i) c 0 0 n p) (z:=sla t i) (s:=csz c) (j:=j) hB h1 h2 h3 h4 h5 h6 h7 h8 h9 h10)
 have w1:IntKind.i64.wrap (((sla t i:Nat):Int)+((csz c*nbk c:Nat):Int))=((sla t i:Nat):Int)+((csz c*nbk c:Nat):Int):=i64_in _ (by omega)
 unfold zo9
 have hmul: ∀k,k<nbk c→csz c*k+csz c≤csz c*nbk c:=fun k hk=>zos hk
 have HMUL:=hid hmul
 have HZK:=hid (Nat.mul_comm (csz c) (nbk c))
 clear hmul hs hEnter hAd hini h0
 generalize hS':S.set i c ((List.range (nbk c)).map (adr t i c)) [] =S' at*
 clear hS'
 generalize q.m=m at*
 generalize csz c*nbk c=r at*
 unfold prC at hb HPb
 go_in
 go_wp2_with fail
 have hY:=blk8 hb.drew
 refine wp_region_held_drew (S:=fun W'=>W'.cell? ⟨B,0,none⟩=some (some m:Value)∧W'.cell? ⟨B,1,none⟩=some (.int .i64 (i))∧W'.cell? ⟨B,2,none⟩=some (.int .i64 (sla t i))∧W'.cell? ⟨B,3,none⟩=some (.int .i64 (0))∧W'.cell? ⟨B,4,none⟩=some (.int .i64 (0))∧W'.cell? ⟨B,5,none⟩=some (.int .u32 (0))∧W'.cell? ⟨B,6,none⟩=some (.int .i64 (n))∧W'.cell? ⟨B,7,none⟩=some (.int .i64 (p))) (by kernel_rfl) (hY) (fun yH=> ?_)
 refine tkZ 0 ?_
 refine tkZ 1 ?_
 refine tkZ 2 ?_
 refine tkZ 3 ?_
 refine tkZ 4 ?_
 refine tkZ 5 ?_
 refine tkZ 6 ?_
 refine tkZ 7 ?_
 refine tkC 8 fun K hK=> ?_
 go_simp
 with_reducible refine(HRm.out _ h.drew).mono ?_
 rintro e w2 ⟨rfl,t1,h2,l2,k2,f2⟩
 have B2:=hb.drew.fr f2 hB
 have F2:=(Fr.refl q.blocks w).drew.trans f2
 have hY:=blk8 B2
 have HA:=hid (HALL.out t1 h2.ok k2 l2)
 clear f2 l2 k2 HALL HRm
 go_wp2_with fail
 refine hK.out _ _ _ hY fun yH=> ?_
 clear hK K
 refine wpAnyH_done (by kernel_rfl) ?_ _
 clear hY
 (have d0:=B2.cell 0;have z0:=B2.frozen 0;have d1:=B2.cell 1;have z1:=B2.frozen 1;have d2:=B2.cell 2;have z2:=B2.frozen 2;have d3:=B2.cell 3;have z3:=B2.frozen 3;have d4:=B2.cell 4;have z4:=B2.frozen 4;have d5:=B2.cell 5;have z5:=B2.frozen 5;have d6:=B2.cell 6;have z6:=B2.frozen 6;have d7:=B2.cell 7;have z7:=B2.frozen 7;simp at d0 d1 d2 d3 d4 d5 d6 d7)
 go_wp2
 have b3:=B2.set 3 (.int .i64 c)
 simp at b3
 have g3:Fr [B] w2 (w2.setCell ⟨B,3,none⟩ (.int .i64 c)):=(Fr.refl _ _).setCell (.inl (by simp)) _
 have H3:=HE1 _ _ _ h2 g3
 have F3:=show Fr (B::q.blocks) w (w2.setCell ⟨B,3,none⟩ (.int .i64 c))from(F2.mono (fun k hk=> .inl (List.mem_cons_of_mem _ hk))).setCell (.inl (by simp)) _
 clear g3
 clear d0 z0 d1 z1 d2 z2 d3 z3 d4 z4 d5 z5 d6 z6 d7 z7
 generalize w2.setCell ⟨B,3,none⟩ (.int .i64 c)=w3 at*
 have hY:=blk8 b3.drew
 refine wp_region_held_drew (S:=fun W'=>W'.cell? ⟨B,0,none⟩=some (some m:Value)∧W'.cell? ⟨B,1,none⟩=some (.int .i64 (i))∧W'.cell? ⟨B,2,none⟩=some (.int .i64 (sla t i))∧W'.cell? ⟨B,3,none⟩=some (.int .i64 (c))∧W'.cell? ⟨B,4,none⟩=some (.int .i64 (0))∧W'.cell? ⟨B,5,none⟩=some (.int .u32 (0))∧W'.cell? ⟨B,6,none⟩=some (.int .i64 (n))∧W'.cell? ⟨B,7,none⟩=some (.int .i64 (p))) (by kernel_rfl) (hY) (fun yH=> ?_)
 refine tkZ 0 ?_
 refine tkZ 1 ?_
 refine tkZ 2 ?_
 refine tkZ 3 ?_
 refine tkZ 4 ?_
 refine tkZ 5 ?_
 refine tkZ 6 ?_
 refine tkZ 7 ?_
 refine tkZ 8 ?_
 refine tkZ 9 ?_
 refine tkZ 10 ?_
 refine tkC 11 fun K hK=> ?_
 go_simp
 with_reducible refine(HPb.out _ H3.drew.m.tab).mono ?_
 rintro e w4 ⟨rfl,f4⟩
 have B4:=b3.drew.fr f4 (by simp)
 have H4:=H3.drew.fr0 f4
 have F4:=F3.drew.step f4 (by simp)
 have hY:=blk8 B4
 clear f4
 go_wp2_with fail
 refine hK.out _ _ _ hY fun yH=> ?_
 clear hK K
 refine tkC 12 fun K hK=> ?_
 go_simp
 with_reducible refine(HA.out.1 _ H4).mono ?_
 rintro e w5 ⟨rfl,h5,f5⟩
 have B5:=B4.fr f5 hB
 have F5:=F4.trans (f5.mono (S':=B::q.blocks) (fun k hk=> .inl (List.mem_cons_of_mem _ hk)))
 have hY:=blk8 B5
 clear f5
 go_wp2_with fail
 refine hK.out _ _ _ hY fun yH=> ?_
 clear hK K
 refine wpAnyH_done (by kernel_rfl) ?_ _
 clear hY
 go_wp2_with fail
 have hY:=blk8 B5.drew
 refine wp_region_held_drew (S:=fun W'=>W'.cell? ⟨B,0,none⟩=some (some m:Value)∧W'.cell? ⟨B,1,none⟩=some (.int .i64 (i))∧W'.cell? ⟨B,2,none⟩=some (.int .i64 (sla t i))∧W'.cell? ⟨B,3,none⟩=some (.int .i64 (c))∧W'.cell? ⟨B,4,none⟩=some (.int .i64 (0))∧W'.cell? ⟨B,5,none⟩=some (.int .u32 (0))∧W'.cell? ⟨B,6,none⟩=some (.int .i64 (n))∧W'.cell? ⟨B,7,none⟩=some (.int .i64 (p))) (by kernel_rfl) (hY) (fun yH=> ?_)
 refine tkZ 0 ?_
 refine tkZ 1 ?_
 refine tkZ 2 ?_
 refine tkZ 3 ?_
 refine tkZ 4 ?_
 refine tkZ 5 ?_
 refine tkZ 6 ?_
 refine tkZ 7 ?_
 refine tkZ 8 ?_
 refine tkZ 9 ?_
 refine tkZ 10 ?_
 refine tkZ 13 ?_
 refine tkC 11 fun K hK=> ?_
 go_simp
 with_reducible refine(HPb.out _ h5.drew.m.tab).mono ?_
 rintro e w6 ⟨rfl,f6⟩
 have B6:=B5.drew.fr f6 (by simp)
 have H6:=h5.drew.fr0 f6
 have F6:=F5.drew.step f6 (by simp)
 have hY:=blk8 B6
 clear f6
 go_wp2_with fail
 refine hK.out _ _ _ hY fun yH=> ?_
 clear hK K
 refine tkZ 12 ?_
 refine tkC 14 fun K hK=> ?_
 go_simp
 with_reducible refine(HPd.out _ H6.m.tab).mono ?_
 rintro e w7 ⟨rfl,rfl⟩
 go_wp2_with fail
 refine hK.out _ _ _ hY fun yH=> ?_
 clear hK K
 refine tkC 15 fun K hK=> ?_
 go_simp
 with_reducible refine(HA.out.2.1 _ H6).mono ?_
 rintro e w8 ⟨rfl,h8,f8⟩
 have B8:=B6.fr f8 hB
 have F8:=F6.trans (f8.mono (S':=B::q.blocks) (fun k hk=> .inl (List.mem_cons_of_mem _ hk)))
 have hY:=blk8 B8
 clear f8
 go_wp2_with fail
 refine hK.out _ _ _ hY fun yH=> ?_
 clear hK K
 refine wpAnyH_done (by kernel_rfl) ?_ _
 clear hY
 have B8a:=B8.alloc (.cells #[.slice none 0 0] 69)
 (have d0:=B8a.cell 0;have z0:=B8a.frozen 0;have d1:=B8a.cell 1;have z1:=B8a.frozen 1;have d2:=B8a.cell 2;have z2:=B8a.frozen 2;have d3:=B8a.cell 3;have z3:=B8a.frozen 3;have d4:=B8a.cell 4;have z4:=B8a.frozen 4;have d5:=B8a.cell 5;have z5:=B8a.frozen 5;have d6:=B8a.cell 6;have z6:=B8a.frozen 6;have d7:=B8a.cell 7;have z7:=B8a.frozen 7;simp at d0 d1 d2 d3 d4 d5 d6 d7)
 go_wp2_with fail
 clear d0 z0 d1 z1 d2 z2 d3 z3 d4 z4 d5 z5 d6 z6 d7 z7
 have H9:=h8.alloc (.cells #[.slice none 0 0] 69)
 have F9:=F8.alloc (.cells #[.slice none 0 0] 69)
 have BG:=Blk.new w8 69 #[.slice none 0 0]
 have hws:w.heap.size≤w8.heap.size:=F8.size
 have hwa:(w8.alloc (.cells #[.slice none 0 0] 69)).heap.size=w8.heap.size+1:=World.size_alloc _ _
 have hB8:B<w8.heap.size:=B8.lt
 have hq8: ∀k∈q.blocks,k<w8.heap.size:=fun k hk=>h8.m.lt k hk
 clear B8 h8 F8
 generalize w8.heap.size=G at*
 generalize w8.alloc (.cells #[.slice none 0 0] 69)=w9 at*
 have hGq:G∉q.blocks:=fun hm=>by have:=hq8 _ hm;omega
 have hP:prC m i (sla t i) c 0 0 n p= #[.pointer (some ⟨m,0,none⟩),.int .i64 (i),.int .i64 (sla t i),.int .i64 (c),.int .i64 (0),.int .u32 (0),.int .i64 (n),.int .i64 (p)] :=rfl
 have HE:=hid (HEa.out w9 H9.m.tab G (fun j W=>zo3 w w9 q (t1.kin (sla t i) c) B G (prC m i (sla t i) c 0 0 n p) (sla t i) (csz c) j W)
  ⟨H9.alloc _,B8a.alloc _,Blk.new _ _ _,F9.alloc _,by rw[World.size_alloc];omega,_,BG.alloc _,World.ownsRow_nil _ _ _ _⟩
  (fun j W hW=>⟨hW.1.m.tab,hW.2.2.1⟩)
  (fun j W hj hW=>HCS.out w9 W _ G j hGq (by omega) (by omega) (by omega) (by omega) (fun k hk=>by have:=hq8 k hk;omega) (by omega) (by omega) (by omega) hW))
 rw[hP]at HE
 clear HCS HEa hP
 with_reducible refine HE.out.mono ?_
 rintro e w10 ⟨rfl,h10,b10,_,f10,_,v,g10,o10⟩
 rw[zo0]at o10
 obtain⟨k0,hk0⟩: ∃k0,nbk c=k0+1:=⟨nbk c-1,by omega⟩
 have ho:=o10
 rw[hk0]at ho
 obtain⟨gr,cap,rfl⟩:=ownsRow_succ ho
 rw[←hk0]at g10 o10
 clear ho hk0
 have dg:=g10.cell 0
 simp at dg
 clear HE
 go_wp2
 obtain⟨hgr,hri⟩:w9.heap.size+1≤gr∧RowI w10 gr cap (zoo (sla t i) (csz c) 0 (nbk c)):=by
  have hl:(zoo (sla t i) (csz c) 0 (nbk c)).length=nbk c:=zo0 _ _ _ _
  have ho:w10.ownsRow (w9.heap.size+1) 3 1 (.slice (some ⟨gr,0,none⟩) (nbk c) cap) (zoo (sla t i) (csz c) 0 (nbk c)).length (intC (zoo (sla t i) (csz c) 0 (nbk c))):=by rw[hl];exact o10
  rcases zbi ho with⟨e,_⟩|⟨g',cap',e,hb',hr'⟩
  ·rw[e]at hl;simp at hl;omega
  ·injection e with e1 e2 e3
   injection e1 with e1
   injection e1 with e1
   subst e1 e3
   exact⟨hb',hr'⟩
 have hw9:w9.heap.size=G+1:=by omega
 clear o10 hwa dg
 generalize w9.heap.size=s9 at*
 go_loopw [56] (fun v W=> ∃j:Nat,j≤nbk c∧v= .int .i64 j∧IsH W q ((t1.kin (sla t i) c).pushN (sla t i) (csz c) (nbk c) j)∧Blk W B 187 (prC m i (sla t i) c 0 (fJ (sla t i) (csz c) (nbk c) j) n p)∧Fr (B::q.blocks) w W∧Blk W G 69 #[.slice (some ⟨gr,0,none⟩) (nbk c) cap] ∧RowI W gr cap (zoo (sla t i) (csz c) 0 (nbk c))) (fun v _=>nbk c-(intOf v).toNat)
 case atStart=>exact⟨0,by omega,rfl,h10,b10,f10,g10,hri⟩
 case round=>
  clear h10 b10 f10 g10 hri
  obtain⟨j,hj,rfl,h11,b11,f11,g11,r11⟩:=hrel
  have dg:=g11.cell 0
  simp at dg
  by_cases hlt:j<nbk c
  ·have hpu:=HA.out.2.2.1 _ j hlt h11 b11
   have hk1:nbk c-1-j<(zoo (sla t i) (csz c) 0 (nbk c)).length:=by rw[zo0];omega
   have cY:=r11.cell (nbk c-1-j) hk1
   rw[zo2,Nat.zero_add]at cY
   generalize sla t i+csz c*(nbk c-1-j)=x at*
   have b1':decide (j<nbk c)=true:=by simp;omega
   have w3:=i64_in ((j:Int)+1) (by omega)
   have w4:=i64_in ((nbk c:Int)-1) (by omega)
   have w5:=i64_in ((nbk c:Int)-1-j) (by omega)
   have g1:(0:Int)≤(nbk c:Int)-1-j:=by omega
   have g2:(nbk c:Int)-1-j<nbk c:=by omega
   have g3:((nbk c:Int)-1-j).toNat=nbk c-1-j:=by omega
   clear hk1
   generalize nbk c-1-j=kk at*
   go_wp2_with fail
   with_reducible refine hpu.mono ?_
   rintro e w12 ⟨rfl,h12,b12,f12⟩
   have F12:=f11.trans f12
   have G12:=g11.fr f12 (fun hm=>by rcases List.mem_cons.1 hm with e|e<;>first|omega|exact hGq e)
   have R12:=(r11.fr f12 (fun hm=>by
    rcases List.mem_cons.1 hm with e|e
    ·omega
    ·have:=hq8 _ e;omega))
   clear f12 hpu w4 w5 g1 g2 g3
   go_wp2
   go_roundw
   case rel=>exact⟨j+1,by omega,by go_num,h12,b12,F12,G12,R12⟩
   case measure=>simp[intOf];omega
  ·obtain rfl:j=nbk c:=by omega
   have b12:=b11
   rw[HFN.out]at b12
   unfold prC at b12
   have hse:=HA.out.2.2.2.1 _ h11
   unfold prC at hse
   have HIN:=hid HA.out.2.2.2.2
   clear HA r11 g11 dg b11
   (have d0:=b12.cell 0;have z0:=b12.frozen 0;have d1:=b12.cell 1;have z1:=b12.frozen 1;have d2:=b12.cell 2;have z2:=b12.frozen 2;have d3:=b12.cell 3;have z3:=b12.frozen 3;have d4:=b12.cell 4;have z4:=b12.frozen 4;have d5:=b12.cell 5;have z5:=b12.frozen 5;have d6:=b12.cell 6;have z6:=b12.frozen 6;have d7:=b12.cell 7;have z7:=b12.frozen 7;simp at d0 d1 d2 d3 d4 d5 d6 d7)
   go_wp2_with fail
   with_reducible refine hse.mono ?_
   rintro e w13 ⟨rfl,h13,f13⟩
   have B13:=b12.fr f13 hB
   have F13:=f11.trans (f13.mono (S':=B::q.blocks) (fun k hk=> .inl (List.mem_cons_of_mem _ hk)))
   clear f13 hse
   clear d0 z0 d1 z1 d2 z2 d3 z3 d4 z4 d5 z5 d6 z6 d7 z7
   go_wp2_with fail
   have hY:=blk8 B13.drew
   refine wp_region_held_drew (S:=fun W'=>W'.cell? ⟨B,0,none⟩=some (some m:Value)∧W'.cell? ⟨B,1,none⟩=some (.int .i64 (i))∧W'.cell? ⟨B,2,none⟩=some (.int .i64 (sla t i))∧W'.cell? ⟨B,3,none⟩=some (.int .i64 (c))∧W'.cell? ⟨B,4,none⟩=some (.int .i64 (0))∧W'.cell? ⟨B,5,none⟩=some (.int .u32 (sla t i))∧W'.cell? ⟨B,6,none⟩=some (.int .i64 (n))∧W'.cell? ⟨B,7,none⟩=some (.int .i64 (p))) (by kernel_rfl) (hY) (fun yH=> ?_)
   refine tkZ 0 ?_
   refine tkZ 1 ?_
   refine tkZ 2 ?_
   refine tkZ 3 ?_
   refine tkZ 4 ?_
   refine tkZ 5 ?_
   refine tkZ 6 ?_
   refine tkZ 7 ?_
   refine tkZ 8 ?_
   refine tkC 9 fun K hK=> ?_
   go_simp
   with_reducible refine(HIN.out _ h13.drew).mono ?_
   rintro e w14 ⟨r14,u,rfl,h14,s14,l14,o14,f14⟩
   have B14:=B13.drew.fr f14 hB
   have H14:=hid (And.intro h14 (And.intro s14 (And.intro l14 o14)))
   have F14:=F13.drew.trans (f14.mono (S':=B::q.blocks) (fun k hk=> .inl (List.mem_cons_of_mem _ hk)))
   have hY:=blk8 B14
   clear f14 h14 s14 l14 o14
   go_wp2_with fail
   refine hK.out _ _ _ hY fun yH=> ?_
   clear hK K
   refine wpAnyH_done (by kernel_rfl) ?_ _
   clear hY
   go_wp2
   go_end0
   exact⟨rfl,u,H14.out.1,H14.out.2.1,H14.out.2.2.1,H14.out.2.2.2,B14,F14⟩
end
section
variable{w:World}{q:MH}{t:TM}{S:SS}{B:Nat}
theorem zpb{α:Type}(f:Nat→α)(i:Nat)(v w:α):up (up f i v) i w=up f i w:=by
 funext j;by_cases e:j=i
 ·subst e;rw[zf1,zf1]
 ·rw[zf2 _ _ e,zf2 _ _ e,zf2 _ _ e]
def zpc(w:World)(q:MH)(t:TM)(S':SS)(B i:Nat)(e:Ending)(w':World):Prop:=
 e= .returned (.tuple #[])∧ ∃u,IsH w' q u∧SlI u S'∧Sla t u∧Out t u (sla t i) 1024∧Fr (B::q.blocks) w w'
theorem zpd(h:IsH w q t)(hs:SlI t S)(i:Nat)(l f n p:Int)(hi:i<t.a)(h0:S.cls i≠0)(hL:S.lv i= [])(hb:Blk w B 187 (prC q.m i (sla t i) (S.cls i) l f n p))(hB:B∉q.blocks)(hg:5≤B):Calls prog 136 #[some B] w (zpc w q t (S.set i 0 [] []) B i):=by
 have hok:=h.ok;obtain⟨b1,b2,b3,_⟩:=zmd hok i hi;have h1:=hs.each i hi;have hc9:=h1.c9;obtain⟨c1,c2,c3,c4,c5,c6,c7⟩:=zmc (S.cls i) (by omega) hc9;have hlen:=h1.len h0;rw[hL]at hlen;have hF:S.fr i≠ [] :=fun e=>by rw[e]at hlen;simp at hlen;omega
 have hini:S.inn i=S.cls i:=by unfold SS.inn;rw[if_neg h0,if_neg hF]
 have hkd:=zoy hok hs hi h0 hL;have HPb:=hid (fun W (hW:TabM W)=>zns hW q.m i (sla t i) (S.cls i) l f n p (S.cls i) hc9 rfl);have HZ:=hid (fun W (hW:IsH W q t)=>zn8 hW (sla t i) (csz (S.cls i)*nbk (S.cls i)) 6 b1 (by omega) hkd (by omega) (by omega) (by decide) _ _ 6 rfl rfl rfl);have k1:=zlf hok (sla t i) (csz (S.cls i)*nbk (S.cls i)) 0;have k2:=zlj k1 (sla t i) 1024 7 (by decide);have HMk:=hid (fun W (hW:IsH W q (t.setB (sla t i) (csz (S.cls i)*nbk (S.cls i)) 0))=>zn7 hW (sla t i) 1024 7 b1 (by omega) (by decide) b2 (by decide) (sla t i) 1024 7 rfl rfl rfl);have hls2:LS ((t.setB (sla t i) (csz (S.cls i)*nbk (S.cls i)) 0).setK (sla t i) 1024 7) S.inn:=hs.ls.same rfl (fun _=>rfl) (fun _ _ _=>rfl)
 have HRm:=hid (fun W hW=>by
  have hE:remE t.a S.inn (S.cls i) i=0:=by
   unfold remE;rw[zi7 hc9 hi,if_neg (by decide),Int.toNat_natCast,if_neg (fun h=>h hini)]
  have hI:remI t.a S.inn (S.cls i) i=up S.inn i (-1):=by unfold remI;rw[hE,if_pos rfl,Int.toNat_natCast]
  have:=hrem (w:=W) (q:=q) (t:=(t.setB (sla t i) (csz (S.cls i)*nbk (S.cls i)) 0).setK (sla t i) 1024 7) hW hls2 (S.cls i) i;rw[show((t.setB (sla t i) (csz (S.cls i)*nbk (S.cls i)) 0).setK (sla t i) 1024 7).a=t.a from rfl,hE,hI]at this;exact this)
 have HALL:=hid (fun(t3:TM) (k3:t3.Ok) (e3:Lis ((t.setB (sla t i) (csz (S.cls i)*nbk (S.cls i)) 0).setK (sla t i) 1024 7) t3) (l3:LS t3 (up S.inn i (-1)))=>
  (show(∀W,IsH W q t3→Calls prog 135 #[.agg (prC q.m i (sla t i) 0 0 0 0 0)] W (zR (.tuple #[]) fun w'=>IsH w' q (t3.setL i 0 0 0)∧Fr q.blocks W w'))
   ∧(∀W,IsH W q (t3.setL i 0 0 0)→Calls prog 133 #[q,(0:Int),i] W fun e w'=>∃r u,e= .returned (.int .i64 r)∧IsH w' q u∧SlI u (S.set i 0 [] [])∧Sla t u∧Out t u (sla t i) 1024∧Fr q.blocks W w')from by
   have ha3:t3.a=t.a:=e3.a;refine⟨fun W hW=>zn9 hW i (sla t i) 0 0 0 0 0 i 0 0 0 (by rw[ha3];exact hi) (by decide) (by decide) (by decide) rfl rfl rfl rfl,fun W hW=> ?_⟩;have hl3:LS (t3.setL i 0 0 0) (up S.inn i (-1)):=l3.same rfl (fun _=>rfl) (fun y r hr=>zjx _ _ _ _ _ _ _ hr)
   have hE:insE (t3.setL i 0 0 0).a (up S.inn i (-1)) 0 i=0:=by
    unfold insE;have:=zi7 (a:=t.a) (c:=0) (x:=i) (by decide) hi;rw[show(t3.setL i 0 0 0).a=t.a from ha3,show((0:Int))=((0:Nat):Int)from rfl,this,if_neg (by decide),Int.toNat_natCast,zf1,if_neg (by decide)]
   have hI:insI (t3.setL i 0 0 0).a (up S.inn i (-1)) 0 i=up (up S.inn i (-1)) i 0:=by unfold insI;rw[hE,if_pos rfl,Int.toNat_natCast]
   have:=hins hW hl3 0 i;rw[hI,zpb]at this
   exact this.mono fun e w' ⟨he,u,u1,u2,u3,u4⟩=>by
    obtain⟨v1,v2,v3⟩:=zoz hok hs hi h0 hL k3 e3 u u1.ok u3 (by rw[zmq,if_pos rfl];exact u2);exact⟨_,u,he,u1,v1,v2,v3,u4⟩))
 have HE1:=fun t' W' W'' (h1:IsH W' q t') (hf:Fr [B] W' W'')=>h1.fr1 hf hB hg;unfold zpc;generalize S.set i 0 [] [] =S' at*;generalize hm:q.m=m at*;generalize hr:csz (S.cls i)*nbk (S.cls i)=r at*;generalize hc:S.cls i=c at*;unfold prC at hb HPb HALL;clear hs h1 hls2 hkd hini hF hlen hL h0 hm hr hc;go_in;go_wp2_with fail;have hY:=blk8 hb.drew;refine wp_region_held_drew (S:=fun W'=>W'.cell? ⟨B,0,none⟩=some (some m:Value)∧W'.cell? ⟨B,1,none⟩=some (.int .i64 (i))∧W'.cell? ⟨B,2,none⟩=some (.int .i64 (sla t i))∧W'.cell? ⟨B,3,none⟩=some (.int .i64 (c))∧W'.cell? ⟨B,4,none⟩=some (.int .i64 (l))∧W'.cell? ⟨B,5,none⟩=some (.int .u32 (f))∧W'.cell? ⟨B,6,none⟩=some (.int .i64 (n))∧W'.cell? ⟨B,7,none⟩=some (.int .i64 (p))) (by kernel_rfl) (hY) (fun yH=> ?_);refine tkZ 0 ?_;refine tkZ 1 ?_;refine tkZ 2 ?_;refine tkZ 3 ?_;refine tkZ 4 ?_;refine tkZ 5 ?_;refine tkZ 6 ?_;refine tkZ 7 ?_;refine tkZ 8 ?_;refine tkZ 9 ?_;refine tkZ 10 ?_;refine tkC 11 fun K hK=> ?_;go_simp;go_call HPb.out _ h.drew.m.tab as e w2 ⟨rfl,f2⟩;have B2:=hb.drew.fr f2 (by simp);have H2:=h.drew.fr0 f2;have F2:=(Fr.refl (B::q.blocks) w).drew.step f2 (by simp);have hY:=blk8 B2;clear f2;go_wp2_with fail;refine hK.out _ _ _ hY fun yH=> ?_;clear hK K;refine tkC 12 fun K hK=> ?_;go_simp;go_call HZ.out _ H2 as e w3 ⟨rfl,h3,f3⟩;have B3:=B2.fr f3 hB;have F3:=F2.trans (f3.mono (S':=B::q.blocks) (fun k hk=> .inl (List.mem_cons_of_mem _ hk)));have hY:=blk8 B3;clear f3;go_wp2_with fail;refine hK.out _ _ _ hY fun yH=> ?_;clear hK K;refine wpAnyH_done (by kernel_rfl) ?_ _;clear hY;go_wp2_with fail;have hY:=blk8 B3.drew;refine wp_region_held_drew (S:=fun W'=>W'.cell? ⟨B,0,none⟩=some (some m:Value)∧W'.cell? ⟨B,1,none⟩=some (.int .i64 (i))∧W'.cell? ⟨B,2,none⟩=some (.int .i64 (sla t i))∧W'.cell? ⟨B,3,none⟩=some (.int .i64 (c))∧W'.cell? ⟨B,4,none⟩=some (.int .i64 (l))∧W'.cell? ⟨B,5,none⟩=some (.int .u32 (f))∧W'.cell? ⟨B,6,none⟩=some (.int .i64 (n))∧W'.cell? ⟨B,7,none⟩=some (.int .i64 (p))) (by kernel_rfl) (hY) (fun yH=> ?_);refine tkZ 0 ?_;refine tkZ 1 ?_;refine tkZ 2 ?_;refine tkZ 3 ?_;refine tkZ 4 ?_;refine tkZ 5 ?_;refine tkZ 6 ?_;refine tkZ 7 ?_;refine tkC 8 fun K hK=> ?_;go_simp;go_call HMk.out _ h3.drew as e w4 ⟨rfl,h4,f4⟩;have B4:=B3.drew.fr f4 hB;have F4:=F3.drew.trans (f4.mono (S':=B::q.blocks) (fun k hk=> .inl (List.mem_cons_of_mem _ hk)));have hY:=blk8 B4;clear f4;go_wp2_with fail;refine hK.out _ _ _ hY fun yH=> ?_;clear hK K;refine wpAnyH_done (by kernel_rfl) ?_ _;clear hY;go_wp2_with fail;have hY:=blk8 B4.drew;refine wp_region_held_drew (S:=fun W'=>W'.cell? ⟨B,0,none⟩=some (some m:Value)∧W'.cell? ⟨B,1,none⟩=some (.int .i64 (i))∧W'.cell? ⟨B,2,none⟩=some (.int .i64 (sla t i))∧W'.cell? ⟨B,3,none⟩=some (.int .i64 (c))∧W'.cell? ⟨B,4,none⟩=some (.int .i64 (l))∧W'.cell? ⟨B,5,none⟩=some (.int .u32 (f))∧W'.cell? ⟨B,6,none⟩=some (.int .i64 (n))∧W'.cell? ⟨B,7,none⟩=some (.int .i64 (p))) (by kernel_rfl) (hY) (fun yH=> ?_);refine tkZ 0 ?_;refine tkZ 1 ?_;refine tkZ 2 ?_;refine tkZ 3 ?_;refine tkZ 4 ?_;refine tkZ 5 ?_;refine tkZ 6 ?_;refine tkZ 7 ?_;refine tkZ 8 ?_;refine tkZ 9 ?_;refine tkZ 10 ?_;refine tkZ 11 ?_;refine tkZ 12 ?_;refine tkC 13 fun K hK=> ?_;go_simp;go_call HRm.out _ h4.drew as e w5 ⟨rfl,t3,h5,l5,k5,f5⟩;have B5:=B4.drew.fr f5 hB;have HA:=hid (HALL.out t3 h5.ok k5 l5);have F5:=F4.drew.trans (f5.mono (S':=B::q.blocks) (fun k hk=> .inl (List.mem_cons_of_mem _ hk)));have hY:=blk8 B5;clear f5 l5 k5 HALL HRm;go_wp2_with fail;refine hK.out _ _ _ hY fun yH=> ?_;clear hK K;refine wpAnyH_done (by kernel_rfl) ?_ _;clear hY;(have d0:=B5.cell 0;have z0:=B5.frozen 0;have d1:=B5.cell 1;have z1:=B5.frozen 1;have d2:=B5.cell 2;have z2:=B5.frozen 2;have d3:=B5.cell 3;have z3:=B5.frozen 3;have d4:=B5.cell 4;have z4:=B5.frozen 4;have d5:=B5.cell 5;have z5:=B5.frozen 5;have d6:=B5.cell 6;have z6:=B5.frozen 6;have d7:=B5.cell 7;have z7:=B5.frozen 7;simp at d0 d1 d2 d3 d4 d5 d6 d7);go_wp2_with fail;clear d0 z0 d1 z1 d2 z2 d3 z3 d4 z4 d5 z5 d6 z6 d7 z7
 have b6:Blk (w5.setCells B 3 [.int .i64 0,.int .i64 0,.int .u32 0,.int .i64 0,.int .i64 0]) B 187 #[.pointer (some ⟨m,0,none⟩),.int .i64 i,.int .i64 (sla t i),.int .i64 0,.int .i64 0,.int .u32 0,.int .i64 0,.int .i64 0] :=by
  have:=B5.setCells [.int .i64 0,.int .i64 0,.int .u32 0,.int .i64 0,.int .i64 0] 3;simpa[laid]using this
 have f6:Fr [B] w5 (w5.setCells B 3 [.int .i64 0,.int .i64 0,.int .u32 0,.int .i64 0,.int .i64 0]):=(Fr.refl [B] w5).setCells (.inl (by simp)) _ _;have H6:=HE1 _ _ _ h5 f6;have F6:=show Fr (B::q.blocks) w (w5.setCells B 3 [.int .i64 0,.int .i64 0,.int .u32 0,.int .i64 0,.int .i64 0])from F5.setCells (.inl (by simp)) _ _;clear f6;obtain⟨w6,hw6⟩:∃w6,w5.setCells B 3 [.int .i64 0,.int .i64 0,.int .u32 0,.int .i64 0,.int .i64 0] =w6:=⟨_,rfl⟩;rw[show(((((w5.setCell ⟨B,3,none⟩ (.int .i64 0)).setCell ⟨B,4,none⟩ (.int .i64 0)).setCell ⟨B,5,none⟩ (.int .u32 0)).setCell ⟨B,6,none⟩ (.int .i64 0)).setCell ⟨B,7,none⟩ (.int .i64 0))=w6 from hw6];rw[hw6]at b6 H6 F6;clear hw6;go_call HA.out.1 _ H6 as e w7 ⟨rfl,h7,f7⟩;have B7:=b6.fr f7 hB;have F7:=F6.trans (f7.mono (S':=B::q.blocks) (fun k hk=> .inl (List.mem_cons_of_mem _ hk)));clear f7;go_wp2_with fail;have hY:=blk8 B7.drew;refine wp_region_held_drew (S:=fun W'=>W'.cell? ⟨B,0,none⟩=some (some m:Value)∧W'.cell? ⟨B,1,none⟩=some (.int .i64 (i))∧W'.cell? ⟨B,2,none⟩=some (.int .i64 (sla t i))∧W'.cell? ⟨B,3,none⟩=some (.int .i64 (0))∧W'.cell? ⟨B,4,none⟩=some (.int .i64 (0))∧W'.cell? ⟨B,5,none⟩=some (.int .u32 (0))∧W'.cell? ⟨B,6,none⟩=some (.int .i64 (0))∧W'.cell? ⟨B,7,none⟩=some (.int .i64 (0))) (by kernel_rfl) (hY) (fun yH=> ?_);refine tkZ 0 ?_;refine tkZ 1 ?_;refine tkZ 2 ?_;refine tkZ 3 ?_;refine tkZ 4 ?_;refine tkZ 5 ?_;refine tkZ 6 ?_;refine tkZ 7 ?_;refine tkC 8 fun K hK=> ?_;go_simp;go_call HA.out.2 _ h7.drew as e w8 ⟨r8,u,rfl,h8,s8,l8,o8,f8⟩;have B8:=B7.drew.fr f8 hB;have H8:=hid (And.intro h8 (And.intro s8 (And.intro l8 o8)));have F8:=F7.drew.trans (f8.mono (S':=B::q.blocks) (fun k hk=> .inl (List.mem_cons_of_mem _ hk)));have hY:=blk8 B8;clear f8 h8 s8 l8 o8;go_wp2_with fail;refine hK.out _ _ _ hY fun yH=> ?_;clear hK K;refine wpAnyH_done (by kernel_rfl) ?_ _;clear hY;go_wp2;go_end0;exact⟨rfl,u,H8.1,H8.2.1,H8.2.2.1,H8.2.2.2,F8⟩
end
def adrB(b i c k:Nat):Nat:=b+1024*i+csz c*k
def popS(S:SS)(i:Nat):Nat×Nat×SS:=((S.fr i).headD 0,0,S.set i (S.cls i) (S.fr i).tail (insS ((S.fr i).headD 0) (S.lv i)))
def zpe(b:Nat)(S:SS)(i c:Nat):SS:=S.set i c ((List.range (nbk c)).map (adrB b i c)) []
def zpf(a b:Nat)(S:SS)(c:Int):Nat×Nat×SS:=
 if cszZ c=0 then(0,2,S)else if 0<hd1 (lst a S.inn c.toNat)then popS S (hd1 (lst a S.inn c.toNat)-1)
 else if 0<hd1 (lst a S.inn 0)then popS (zpe b S (hd1 (lst a S.inn 0)-1) c.toNat) (hd1 (lst a S.inn 0)-1)else(0,5,S)
def Keep(t u:TM)(S:SS)(P:Nat→Prop):Prop:= ∀j,j<t.a→ ∀y,y∈S.lv j→P y→ ∀k,k<csz (S.cls j)→zfz u (y+k)=zfz t (y+k)
theorem Keep.refl(t:TM)(S:SS)(P:Nat→Prop):Keep t t S P:=fun _ _ _ _ _ _ _=>rfl
theorem zpg(t:TM){i j:Nat}(h:i≠j):sla t i+1024≤sla t j∨sla t j+1024≤sla t i:=by unfold sla;omega
theorem zph{t u:TM}{S:SS}(hok:t.Ok)(hs:SlI t S){i x:Nat}(hi:i<t.a)(hx:x∈S.fr i∨x∈S.lv i)(o:Out t u x (csz (S.cls i))):Keep t u S (fun y=>y≠x):=fun j hj y hy hne k hk=>by
 obtain⟨a1,_,a3,_,a5,_⟩:=(hs.each i hi).at_ hok hi hx;obtain⟨d1,d2,d3,d4,d5,d6,_⟩:=(hs.each j hj).at_ hok hj (.inr hy);refine o.by_ _ (by omega) ?_;by_cases e:i=j
 ·subst e
  have:=(hs.each i hi).apart hx (.inr hy) (fun e=>hne e.symm);omega
 ·have:=zpg t e
  omega
theorem zpi{t u:TM}{S:SS}(hok:t.Ok)(hs:SlI t S){i:Nat}(hi:i<t.a)(hL:S.lv i= [])(o:Out t u (sla t i) 1024):Keep t u S (fun _=>True):=fun j hj y hy _ k hk=>by
 obtain⟨d1,d2,d3,d4,d5,d6,_⟩:=(hs.each j hj).at_ hok hj (.inr hy);refine o.by_ _ (by omega) ?_;by_cases e:i=j
 ·subst e
  rw[hL]at hy;cases hy
 ·have:=zpg t e
  omega
theorem zpj{S:SS}{i c:Nat}(h:S.inn i=(c:Int))(hc:1≤c):S.cls i=c∧S.cls i≠0∧S.fr i≠ [] :=by
 unfold SS.inn at h;by_cases h0:S.cls i=0
 ·rw[if_pos h0]at h;omega
 ·rw[if_neg h0]at h
  by_cases hf:S.fr i= []
  ·rw[if_pos hf]at h;omega
  ·rw[if_neg hf]at h
   exact⟨by omega,h0,hf⟩
theorem zpk{S:SS}{i:Nat}(h:S.inn i=((0:Nat):Int)):S.cls i=0:=by
 unfold SS.inn at h;by_cases h0:S.cls i=0
 ·exact h0
 ·rw[if_neg h0]at h
  by_cases hf:S.fr i= []
  ·rw[if_pos hf]at h;cases h
  ·rw[if_neg hf]at h;omega
theorem zpl{a:Nat}{inn:Nat→Int}{c:Nat}(h:0<hd1 (lst a inn c)):hd1 (lst a inn c)-1<a∧inn (hd1 (lst a inn c)-1)=(c:Int):=by
 obtain⟨y,l',e1,e2⟩:=zid h;have:=zim (a:=a) (inn:=inn) (c:=c) (y:=y) (by rw[e1];simp);rw[e2];exact this
def zpm(w:World)(q:MH)(t:TM)(S:SS)(c:Int)(R:Nat×Nat×SS)(e:Ending)(w':World):Prop:=
 e= .returned (.tuple #[R.1,R.2.1])∧ ∃u,IsH w' q u∧SlI u R.2.2∧Sla t u∧Keep t u S (fun y=>R.2.1=0→y≠R.1)∧(R.2.1=0→ByOn u R.1 (cszZ c) (fun _=>0))∧Fr q.blocks w w'
section
variable{w:World}{q:MH}{t:TM}{S:SS}{B:Nat}
theorem zpn(a s:Nat)(h:7≤a)(w:World):(Op.equalIn 10000 62 (.agg #[a,s]) (.agg #[(0:Int),(0:Int)])).run prog w= .ok false w:=by
 rw[zdq];have:((a:Int)==0)=false:=by simp;omega
 rw[this];rfl
theorem zpo(h:IsH w q t)(hs:SlI t S)(c:Nat)(hc:c≤9):Calls prog 122 #[q,c] w (zR (.int .i64 ((hd1 (lst t.a S.inn c):Int)-1)) fun w'=>IsH w' q t∧Fr q.blocks w w'):=by
 have:=zi4 h.m hs.ls c;unfold zi2 at this;rw[if_pos (by omega),Int.toNat_natCast]at this;exact this.mono fun e w' ⟨he,hm,hf⟩=>⟨he,h.step hm hf,hf⟩
theorem hsof(h:IsH w q t)(i:Nat)(hi:i<t.a):Calls prog 123 #[q,i] w (zR (.agg (prC q.m i (sla t i) (t.hd i 0) (t.hd i 1) (t.hd i 2) (t.hd i 3) (t.hd i 4))) fun w'=>IsH w' q t∧Fr q.blocks w w'):=
 (sof h.m i hi).mono fun e w' ⟨he,hm,hf⟩=>⟨he,h.step hm hf,hf⟩
theorem zpp(h:IsH w q t)(hs:SlI t S)(c:Int)(hc:cszZ c=0):Calls prog 56 #[q,c] w (zpm w q t S c (0,2,S)):=by
 have hcf:=tcfg h.m;have hz:=hid (fun W hW=>zni (w:=W) hW c);have hE:=fun w=>zpn t.a t.s h.m.ok.cfg.a1 w;rw[hc]at hz;unfold zpm;clear hc;go_in;go_wp2_with fail;go_call hcf as e w1 ⟨rfl,f1⟩;have H1:=h.fr0 f1;go_wp2_with fail;go_call hz.out _ H1.m.tab as e w2 ⟨rfl,rfl⟩;go_wp2;go_ret2;exact⟨rfl,t,H1,hs,Sla.refl t,Keep.refl t S _,fun e=>(by cases e),f1.nil⟩
theorem zpq(h:IsH w q t)(hs:SlI t S)(c:Nat)(hc:1≤c∧c≤9)(h1:0<hd1 (lst t.a S.inn c)):Calls prog 56 #[q,c] w (zpm w q t S c (popS S (hd1 (lst t.a S.inn c)-1))):=by
 obtain⟨hi,hin⟩:=zpl h1;have hF1:=hid (fun W hW=>zpo (w:=W) (q:=q) (t:=t) (S:=S) hW hs c hc.2);obtain⟨i,hii⟩:∃i,hd1 (lst t.a S.inn c)=i+1:=⟨_,(Nat.sub_add_cancel h1).symm⟩;rw[hii,Nat.add_sub_cancel]at hi hin⊢;rw[hii]at hF1;obtain⟨hcl,h0,hF⟩:=zpj hin hc.1;obtain⟨x,F,hxF⟩:∃x F,S.fr i=x::F:=List.exists_cons_of_ne_nil hF;have e1:=hs.each i hi;have hcf:=tcfg h.m;have hz:=hid (fun W hW=>zni (w:=W) hW c);obtain⟨c1,c2,c3,_⟩:=zmc c hc.1 hc.2;rw[znn c hc.2]at hz;have hE:=fun w=>zpn t.a t.s h.m.ok.cfg.a1 w;have hso:=hid (fun W hW=>hsof (w:=W) (q:=q) (t:=t) hW i hi);rw[e1.h0,e1.h1,e1.h2,hxF]at hso;have hpp:=hid (fun W B hW hb hB hg=>ppop (w:=W) (q:=q) (t:=t) (S:=S) (B:=B) hW hs i x F (t.hd i 3) (t.hd i 4) hi hxF hb hB hg);have hlt:=h.m.lt;have hgm:3≤w.heap.size:=h.m.tab.size;have hgh:5≤w.heap.size:=h.tabs.size;have hkp:=fun u (o:Out t u x (csz (S.cls i)))=>zph h.ok hs hi (.inl (by rw[hxF];simp)) o;have b1:((csz c:Int)==0)=false:=by simp<;>omega
 have w1:((i+1:Nat):Int)-1=i:=by omega
 rw[w1]at hF1;have b2:((i:Int) != -1)=true:=by simp<;>omega
 have HCL:=hid hcl;have HZ:=hid (znn c hc.2);unfold zpm popS;rw[hxF];simp only[List.headD_cons,List.tail_cons];unfold prC at hso;clear hs hc h1 hin hii hcl h0 hF hxF e1 c1 c2 c3;go_in;go_wp2_with fail;go_call hcf as e w1 ⟨rfl,f1⟩;have H1:=h.fr0 f1;go_wp2_with fail;go_call hz.out _ H1.m.tab as e w2 ⟨rfl,rfl⟩;go_wp2_with fail;go_call hF1.out _ H1 as e w3 ⟨rfl,h3,f3⟩;have F3:=f1.nil.trans f3;clear f1 f3 hcf;go_wp2_with fail;go_call hso.out _ h3 as e w4 ⟨rfl,h4,f4⟩;have F4:=F3.trans f4;clear f4;have hws:w.heap.size≤w4.heap.size:=F4.size;go_wp2_with fail;have BN:=Blk.new w4 187 (prC q.m i (sla t i) (S.cls i) (S.lv i).length x (t.hd i 3) (t.hd i 4));have HP:=hid (hpp.out _ _ (h4.alloc (.cells (prC q.m i (sla t i) (S.cls i) (S.lv i).length x (t.hd i 3) (t.hd i 4)) 187)) BN (fun hm=>by have:=hlt _ hm;omega) (by omega));clear hpp BN;unfold prC at HP;go_call HP.out as e w5 ⟨rfl,u,h5,s5,l5,o5,b5,f5⟩;have H5:=hid (And.intro h5 (And.intro s5 (And.intro l5 (And.intro o5 b5))))
 have F5:=((F4.alloc (.cells (prC q.m i (sla t i) (S.cls i) (S.lv i).length x (t.hd i 3) (t.hd i 4)) 187)).step f5 (fun k hk=>by
  rcases List.mem_cons.1 hk with rfl|hk
  ·exact .inr (by omega)
  ·exact .inl hk))
 clear HP h5 s5 l5 o5 b5 f5;go_wp2;go_ret2;obtain⟨k1,k2,k3,k4,k5⟩:=H5.out;refine⟨rfl,u,k1,k2,k3,fun j hj y hy hp=>hkp u k4 j hj y hy (by first|exact hp rfl|exact hp trivial|exact hp),fun _=> ?_,F5⟩;rw[HZ.out,←HCL.out];exact k5
theorem zpr(h:IsH w q t)(hs:SlI t S)(c:Nat)(hc:1≤c∧c≤9)(h1:hd1 (lst t.a S.inn c)=0)(h2:hd1 (lst t.a S.inn 0)=0):Calls prog 56 #[q,c] w (zpm w q t S c (0,5,S)):=by
 have hF1:=hid (fun W hW=>zpo (w:=W) (q:=q) (t:=t) (S:=S) hW hs c hc.2);have hF0:=hid (fun W hW=>zpo (w:=W) (q:=q) (t:=t) (S:=S) hW hs 0 (by decide));rw[h1,show(((0:Nat):Int)-1)= -1 from rfl]at hF1;rw[h2,show(((0:Nat):Int)-1)= -1 from rfl,show(((0:Nat):Int))=0 from rfl]at hF0;have hcf:=tcfg h.m;have hz:=hid (fun W hW=>zni (w:=W) hW c);obtain⟨c1,c2,c3,_⟩:=zmc c hc.1 hc.2;rw[znn c hc.2]at hz;have hE:=fun w=>zpn t.a t.s h.m.ok.cfg.a1 w;have b1:((csz c:Int)==0)=false:=by simp<;>omega
 unfold zpm;clear hc h1 h2 c1 c2 c3;go_in;go_wp2_with fail;go_call hcf as e w1 ⟨rfl,f1⟩;have H1:=h.fr0 f1;go_wp2_with fail;go_call hz.out _ H1.m.tab as e w2 ⟨rfl,rfl⟩;go_wp2_with fail;go_call hF1.out _ H1 as e w3 ⟨rfl,h3,f3⟩;have F3:=f1.nil.trans f3;clear f1 f3 hcf;go_wp2_with fail;go_call hF0.out _ h3 as e w4 ⟨rfl,h4,f4⟩;have F4:=F3.trans f4;clear f4;go_wp2;go_ret2;exact⟨rfl,t,h4,hs,Sla.refl t,Keep.refl t S _,fun e=>(by cases e),F4⟩
theorem zps(h:IsH w q t)(hs:SlI t S)(c:Nat)(hc:1≤c∧c≤9)(h1:hd1 (lst t.a S.inn c)=0)(h2:0<hd1 (lst t.a S.inn 0)):Calls prog 56 #[q,c] w (zpm w q t S c (popS (zpe (zdv t.a t.s) S (hd1 (lst t.a S.inn 0)-1) c) (hd1 (lst t.a S.inn 0)-1))):=by
 obtain⟨hi,hin⟩:=zpl h2;have hF1:=hid (fun W hW=>zpo (w:=W) (q:=q) (t:=t) (S:=S) hW hs c hc.2);have hF0:=hid (fun W hW=>zpo (w:=W) (q:=q) (t:=t) (S:=S) hW hs 0 (by decide));obtain⟨i,hii⟩:∃i,hd1 (lst t.a S.inn 0)=i+1:=⟨_,(Nat.sub_add_cancel h2).symm⟩;rw[hii,Nat.add_sub_cancel]at hi hin⊢;rw[h1,show(((0:Nat):Int)-1)= -1 from rfl]at hF1;have w1:((i+1:Nat):Int)-1=i:=by omega
 rw[hii,w1,show(((0:Nat):Int))=0 from rfl]at hF0;have h0:=zpk hin;have e1:=hs.each i hi;obtain⟨z1,z2,z3,z4⟩:=e1.z h0;have hcf:=tcfg h.m;have hz:=hid (fun W hW=>zni (w:=W) hW c);obtain⟨c1,c2,c3,c4,c5,c6,c7⟩:=zmc c hc.1 hc.2;rw[znn c hc.2]at hz;have hE:=fun w=>zpn t.a t.s h.m.ok.cfg.a1 w;have hso:=hid (fun W hW=>hsof (w:=W) (q:=q) (t:=t) hW i hi);rw[e1.h0,e1.h1,e1.h2,h0,z1,z2]at hso;have hcv:=hid (fun W B hW hb hB hg=>zpa (w:=W) (q:=q) (t:=t) (S:=S) (B:=B) hW hs i c (t.hd i 3) (t.hd i 4) hi h0 hc hb hB hg)
 have hne:(List.range (nbk c)).map (adr t i c)=sla t i::(List.range' 1 (nbk c-1)).map (adr t i c):=by
  obtain⟨m,hm⟩:∃m,nbk c=m+1:=⟨nbk c-1,by omega⟩;rw[hm,List.range_eq_range',List.range'_succ,List.map_cons,Nat.add_sub_cancel,Nat.zero_add];simp[adr]
 have hS':zpe (zdv t.a t.s) S i c=S.set i c ((List.range (nbk c)).map (adr t i c)) [] :=rfl
 have hpp:=hid (fun W B (u:TM) (hW:IsH W q u) (hu:SlI u (S.set i c ((List.range (nbk c)).map (adr t i c)) [])) (su:Sla t u) (hb:Blk W B 187 (prC q.m i (sla t i) c 0 (sla t i) (t.hd i 3) (t.hd i 4))) hB hg=>by
  have es:sla u i=sla t i:=zmo su.a su.s i;have ef:(S.set i c ((List.range (nbk c)).map (adr t i c)) []).fr i=sla t i::(List.range' 1 (nbk c-1)).map (adr t i c):=by rw[←hne];exact zf1 _ _ _
  have ec:(S.set i c ((List.range (nbk c)).map (adr t i c)) []).cls i=c:=zf1 _ _ _;have el:(S.set i c ((List.range (nbk c)).map (adr t i c)) []).lv i= [] :=zf1 _ _ _;exact ppop (w:=W) (q:=q) (t:=u) (S:=S.set i c ((List.range (nbk c)).map (adr t i c)) []) (B:=B) hW hu i (sla t i) ((List.range' 1 (nbk c-1)).map (adr t i c)) (t.hd i 3) (t.hd i 4) (by rw[su.a];exact hi) ef (by rw[es,ec,el];exact hb) hB hg)
 rw[hS']
 have hpS:popS (S.set i c ((List.range (nbk c)).map (adr t i c)) []) i=(sla t i,0,(S.set i c ((List.range (nbk c)).map (adr t i c)) []).set i ((S.set i c ((List.range (nbk c)).map (adr t i c)) []).cls i) ((List.range' 1 (nbk c-1)).map (adr t i c)) (insS (sla t i) ((S.set i c ((List.range (nbk c)).map (adr t i c)) []).lv i))):=by
  unfold popS;rw[show(S.set i c ((List.range (nbk c)).map (adr t i c)) []).fr i=sla t i::(List.range' 1 (nbk c-1)).map (adr t i c)by rw[←hne];exact zf1 _ _ _];rfl
 rw[hpS];have hcc:(S.set i c ((List.range (nbk c)).map (adr t i c)) []).cls i=c:=zf1 _ _ _;have hlt:=h.m.lt;have hgh:5≤w.heap.size:=h.tabs.size;have hkp:=fun u (o:Out t u (sla t i) 1024)=>zpi h.ok hs hi z2 o;have hoo:=fun(u v:TM) (su:Sla t u) (o1:Out t u (sla t i) 1024) (o2:Out u v (sla t i) (csz c))=>o1.trans (o2.wide (y:=sla t i) (m:=1024) (Nat.le_refl _) (by omega)) su.a su.s;have b1:((csz c:Int)==0)=false:=by simp<;>omega
 have b2:((i:Int)== -1)=false:=by simp<;>omega
 have HZ:=hid (znn c hc.2);have HCC:=hid hcc;unfold zpm;simp only[];generalize S.set i c ((List.range (nbk c)).map (adr t i c)) [] =S1 at*;generalize S1.set i (S1.cls i) ((List.range' 1 (nbk c-1)).map (adr t i c)) (insS (sla t i) (S1.lv i))=S2 at*;clear hs hc h1 h2 hin hii h0 z1 z2 z3 z4 e1 c1 c2 c3 c4 c5 c6 c7 hne hS' hpS hcc;unfold prC at hso;go_in;go_wp2_with fail;go_call hcf as e w1 ⟨rfl,f1⟩;have H1:=h.fr0 f1;go_wp2_with fail;go_call hz.out _ H1.m.tab as e w2 ⟨rfl,rfl⟩;go_wp2_with fail;go_call hF1.out _ H1 as e w3 ⟨rfl,h3,f3⟩;have F3:=f1.nil.trans f3;clear f1 f3 hcf;go_wp2_with fail;go_call hF0.out _ h3 as e w4 ⟨rfl,h4,f4⟩;have F4:=F3.trans f4;clear f4;go_wp2_with fail;go_call hso.out _ h4 as e w5 ⟨rfl,h5,f5⟩;have F5:=F4.trans f5;clear f5;have hws:w.heap.size≤w5.heap.size:=F5.size;have hBq:w5.heap.size∉q.blocks:=fun hm=>by have:=hlt _ hm;omega
 go_wp2_with fail;have BN:=Blk.new w5 187 (prC q.m i (sla t i) 0 0 0 (t.hd i 3) (t.hd i 4));have HC:=hid (hcv.out _ _ (h5.alloc (.cells (prC q.m i (sla t i) 0 0 0 (t.hd i 3) (t.hd i 4)) 187)) BN hBq (by omega));clear hcv BN;have F5a:=F5.alloc (.cells (prC q.m i (sla t i) 0 0 0 (t.hd i 3) (t.hd i 4)) 187);unfold prC at HC F5a;go_call HC.out as e w6 ⟨rfl,u,h6,s6,l6,o6,b6,f6⟩
 have F6:=(F5a.step f6 (fun k hk=>by
  rcases List.mem_cons.1 hk with rfl|hk
  ·exact .inr (by omega)
  ·exact .inl hk))
 have HP:=hid (hpp.out _ _ u h6 s6 l6 b6 hBq (by omega));have H6:=hid (And.intro l6 o6);clear hpp HC h6 s6 l6 o6 b6 f6;go_wp2_with fail;go_call HP.out as e w7 ⟨rfl,v,h7,s7,l7,o7,b7,f7⟩;have H7:=hid (And.intro h7 (And.intro s7 (And.intro l7 (And.intro o7 b7))))
 have F7:=(F6.step f7 (fun k hk=>by
  rcases List.mem_cons.1 hk with rfl|hk
  ·exact .inr (by omega)
  ·exact .inl hk))
 clear HP h7 s7 l7 o7 b7 f7;go_wp2;go_ret2;obtain⟨k1,k2,k3,k4,k5⟩:=H7.out;obtain⟨m1,m2⟩:=H6.out;rw[HCC.out]at k4 k5;refine⟨rfl,v,k1,k2,m1.trans k3,fun j hj y hy _=>hkp v (hoo u v m1 m2 k4) j hj y hy trivial,fun _=> ?_,F7⟩;rw[HZ.out];exact k5
theorem zpt(h:IsH w q t)(hs:SlI t S)(c:Int):Calls prog 56 #[q,c] w (zpm w q t S c (zpf t.a (zdv t.a t.s) S c)):=by
 unfold zpf;by_cases h0:cszZ c=0
 ·rw[if_pos h0];exact zpp h hs c h0
 ·rw[if_neg h0]
  have hc:1≤c∧c≤9:=by
   unfold cszZ at h0;split at h0
   ·assumption
   ·exact absurd rfl h0
  obtain⟨k,rfl⟩:∃k:Nat,c=k:=⟨c.toNat,by omega⟩;rw[Int.toNat_natCast];by_cases h1:0<hd1 (lst t.a S.inn k)
  ·rw[if_pos h1];exact zpq h hs k (by omega) h1
  ·rw[if_neg h1]
   by_cases h2:0<hd1 (lst t.a S.inn 0)
   ·rw[if_pos h2];exact zps h hs k (by omega) (by omega) h2
   ·rw[if_neg h2];exact zpr h hs k (by omega) (by omega) (by omega)
end
section
variable{w:World}{q:MH}{t:TM}{S:SS}{B:Nat}
theorem zpu(hM:TabM w)(a s:Nat)(hc:Cfg a s)(x:Int):Calls prog 235 #[cfgV a s,x] w (zR (.tuple (if(zdv a s:Int)≤x∧x<zdw a s then#[.int .i64 (((x.toNat-zdv a s)/1024:Nat)),.bool true]else#[.int .i64 0,.bool false])) fun w'=>Fr [] w w'):=by
 have hr:=hid (fun W (h:TabM W)=>zdt W h a s hc);have hb:=hid (fun W (h:TabM W)=>zd1 W h a s hc);have hz:=hid (fun W (h:TabM W)=>zd2 W h a s hc)
 have hls:zdw a s≤1048576:=by
  obtain⟨_,_,s1,s2,s3⟩:=hc;unfold zdw zdv;omega
 unfold cfgV at hr hb hz⊢;have B0:=Blk.new w 62 #[.int .i64 a,.int .i64 s];have F0:=(Fr.refl [] w).alloc;generalize hbv:zdv a s=b at*;generalize hzv:zdw a s=z at*;clear hbv hzv hc;by_cases h1:(b:Int)≤x
 ·by_cases h2:x<z
  ·rw[if_pos ⟨h1,h2⟩]
   obtain⟨X,rfl⟩:∃X:Nat,x=X:=⟨x.toNat,by omega⟩;rw[Int.toNat_natCast,show(((X-b)/1024:Nat):Int)=((X:Int)-b)/1024 by omega];have b1':=dF (X<b);have b2':=dF (z≤X);have w1:=i6 ((X:Int)-b);have g2:(X:Int)-b≤1048576:=by omega
   go_in;(have d0:=B0.cell 0;have d1:=B0.cell 1;simp at d0 d1);go_wp2_with fail;go_call hr.out _ (hM.fr (F0 _) (by simp)) as e w1 ⟨rfl,f⟩;have B1:=B0.fr f (by simp);have F1:=(F0 _).trans f;clear f;clear d0 d1;(have d0:=B1.cell 0;have d1:=B1.cell 1;simp at d0 d1);go_wp2_with fail;go_call hb.out _ (hM.fr F1 (by simp)) as e w2 ⟨rfl,f⟩;have B2:=B1.fr f (by simp);have F2:=F1.trans f;clear f;clear d0 d1;(have d0:=B2.cell 0;have d1:=B2.cell 1;simp at d0 d1);go_wp2_with fail;go_call hz.out _ (hM.fr F2 (by simp)) as e w3 ⟨rfl,f⟩;have B3:=B2.fr f (by simp);have F3:=F2.trans f;clear f;clear d0 d1;(have d0:=B3.cell 0;have d1:=B3.cell 1;simp at d0 d1);go_wp2_with fail;go_call hb.out _ (hM.fr F3 (by simp)) as e w4 ⟨rfl,f⟩;have F4:=F3.trans f;clear f;clear d0 d1;go_wp2;go_ret2;exact⟨rfl,F4⟩
  ·rw[if_neg (fun h=>h2 h.2)]
   have b1:=dF (x<(b:Int));have b2:=dT ((z:Int)≤x);clear h1 h2;go_in;(have d0:=B0.cell 0;have d1:=B0.cell 1;simp at d0 d1);go_wp2_with fail;go_call hr.out _ (hM.fr (F0 _) (by simp)) as e w1 ⟨rfl,f⟩;have B1:=B0.fr f (by simp);have F1:=(F0 _).trans f;clear f;clear d0 d1;(have d0:=B1.cell 0;have d1:=B1.cell 1;simp at d0 d1);go_wp2_with fail;go_call hb.out _ (hM.fr F1 (by simp)) as e w2 ⟨rfl,f⟩;have B2:=B1.fr f (by simp);have F2:=F1.trans f;clear f;clear d0 d1;(have d0:=B2.cell 0;have d1:=B2.cell 1;simp at d0 d1);go_wp2_with fail;go_call hz.out _ (hM.fr F2 (by simp)) as e w3 ⟨rfl,f⟩;have F3:=F2.trans f;clear f;clear d0 d1;go_wp2;go_ret2;exact⟨rfl,F3⟩
 ·rw[if_neg (fun h=>h1 h.1)]
  have b1:=dT (x<(b:Int));clear h1;go_in;(have d0:=B0.cell 0;have d1:=B0.cell 1;simp at d0 d1);go_wp2_with fail;go_call hr.out _ (hM.fr (F0 _) (by simp)) as e w1 ⟨rfl,f⟩;have B1:=B0.fr f (by simp);have F1:=(F0 _).trans f;clear f;clear d0 d1;(have d0:=B1.cell 0;have d1:=B1.cell 1;simp at d0 d1);go_wp2_with fail;go_call hb.out _ (hM.fr F1 (by simp)) as e w2 ⟨rfl,f⟩;have F2:=F1.trans f;clear f;clear d0 d1;go_wp2;go_ret2;exact⟨rfl,F2⟩
def blkS(a b:Nat)(S:SS)(x:Int):Nat×Nat×Bool:=
 if(b:Int)≤x∧x<(b+1024*a:Nat)then
  if S.cls ((x.toNat-b)/1024)=0∨csz (S.cls ((x.toNat-b)/1024))*nbk (S.cls ((x.toNat-b)/1024))≤(x.toNat-b) %1024 then(0,0,false)
  else((x.toNat-b)/1024,x.toNat-(x.toNat-b) %1024 %csz (S.cls ((x.toNat-b)/1024)),true)
 else(0,0,false)
theorem zpv(h:IsH w q t)(hs:SlI t S)(x:Int):Calls prog 129 #[.pointer (some ⟨q.m,0,none⟩),.int .i64 x] w (zR (.tuple #[.int .i64 (blkS t.a (zdv t.a t.s) S x).1,.int .i64 (blkS t.a (zdv t.a t.s) S x).2.1,.bool (blkS t.a (zdv t.a t.s) S x).2.2]) fun w'=>IsH w' q t∧Fr q.blocks w w'):=by
 have hcf:=tcfg h.m
 have hsl:=hid (fun W (hW:IsH W q t)=>by
  have:=zpu hW.m.tab t.a t.s hW.m.ok.cfg x;unfold cfgV at this;exact this)
 have H0:=h;have hls:zdw t.a t.s=zdv t.a t.s+1024*t.a:=rfl;have hlt:=h.m.lt;unfold blkS;rw[←hls];by_cases hx:(zdv t.a t.s:Int)≤x∧x<zdw t.a t.s
 ·rw[if_pos hx]
  rw[if_pos hx]at hsl;obtain⟨X,rfl⟩:∃X:Nat,x=X:=⟨x.toNat,by omega⟩;rw[Int.toNat_natCast]at hsl⊢;have hi:(X-zdv t.a t.s)/1024<t.a:=by omega
  have hX:X=sla t ((X-zdv t.a t.s)/1024)+(X-zdv t.a t.s) %1024:=by unfold sla;omega
  have hsl5:=(zmd h.ok _ hi).2.2.2.2;have ho:(X-zdv t.a t.s) %1024<1024:=Nat.mod_lt _ (by decide);generalize(X-zdv t.a t.s)/1024=i at*;generalize(X-zdv t.a t.s) %1024=o at*;have e1:=hs.each i hi;have hc9:=e1.c9;have hso:=hid (fun W hW=>hsof (w:=W) (q:=q) (t:=t) hW i hi);rw[e1.h0,e1.h1,e1.h2]at hso;have hpb:=hid (fun W (hW:TabM W)=>zns hW q.m i (sla t i) (S.cls i) (S.lv i).length ((S.fr i).headD 0) (t.hd i 3) (t.hd i 4) (S.cls i) hc9 rfl);have hpz:=hid (fun W (hW:TabM W)=>znr hW q.m i (sla t i) (S.cls i) (S.lv i).length ((S.fr i).headD 0) (t.hd i 3) (t.hd i 4) (S.cls i) hc9 rfl)
  have hcs:S.cls i≠0→0<csz (S.cls i)∧csz (S.cls i)≤512:=fun h0=>by
   obtain⟨c1,c2,c3,_⟩:=zmc (S.cls i) (by omega) hc9;omega
  have hz5:sla t i+1024≤1048576:=by have:=(zmd h.ok i hi).2.1;omega
  generalize q.m=m at*;generalize sla t i=z at*;generalize csz (S.cls i)*nbk (S.cls i)=r at*;generalize csz (S.cls i)=s at*;generalize hc:S.cls i=c at*;generalize(S.lv i).length=l at*;generalize(S.fr i).headD 0=f at*;generalize t.hd i 3=n at*;generalize t.hd i 4=p at*
  have w0:IntKind.i64.wrap ((X:Int)-(z:Int))=(o:Int):=by
   rw[i64_in _ (by omega)];omega
  have b0:(c=0∧((c:Int)==0)=true)∨(c≠0∧((c:Int)==0)=false):=by
   by_cases h0:c=0
   ·exact .inl ⟨h0,by simp[h0]⟩
   ·exact .inr ⟨h0,by simp;exact h0⟩
  unfold prC at hso hpb hpz;clear hs e1 hls hsl5 hi hx hc hc9;rcases b0 with⟨hc0,b0⟩|⟨hc0,b0⟩
  ·rw[if_pos (.inl hc0)]
   clear hc0 hcs hX ho;go_in;go_wp2_with fail;with_reducible refine hcf.mono ?_
   rintro e w1 ⟨rfl,f1⟩;have H1:=H0.fr0 f1;go_wp2_with fail;with_reducible refine(hsl.out _ H1).mono ?_
   rintro e w2 ⟨rfl,f2⟩;have H2:=H1.fr0 f2;have F2:=(f1.trans f2).nil (S:=q.blocks);clear f1 f2 hcf hsl;go_wp2_with fail;with_reducible refine(hso.out _ H2).mono ?_
   rintro e w3 ⟨rfl,h3,f3⟩;have H3:=h3.alloc (.cells #[.pointer (some ⟨m,0,none⟩),.int .i64 i,.int .i64 z,.int .i64 c,.int .i64 l,.int .u32 f,.int .i64 n,.int .i64 p] 187);have F3:=(F2.trans f3).alloc (.cells #[.pointer (some ⟨m,0,none⟩),.int .i64 i,.int .i64 z,.int .i64 c,.int .i64 l,.int .u32 f,.int .i64 n,.int .i64 p] 187);have B3:=Blk.new w3 187 #[.pointer (some ⟨m,0,none⟩),.int .i64 i,.int .i64 z,.int .i64 c,.int .i64 l,.int .u32 f,.int .i64 n,.int .i64 p];clear h3 f3 hso;go_wp2_with fail;generalize w3.heap.size=B at*;generalize w3.alloc (.cells #[.pointer (some ⟨m,0,none⟩),.int .i64 i,.int .i64 z,.int .i64 c,.int .i64 l,.int .u32 f,.int .i64 n,.int .i64 p] 187)=w4 at*;have hY:=blk8 B3.drew;refine wp_region_held_drew (S:=fun W'=>W'.cell? ⟨B,0,none⟩=some (some m:Value)∧W'.cell? ⟨B,1,none⟩=some (.int .i64 (i))∧W'.cell? ⟨B,2,none⟩=some (.int .i64 (z))∧W'.cell? ⟨B,3,none⟩=some (.int .i64 (c))∧W'.cell? ⟨B,4,none⟩=some (.int .i64 (l))∧W'.cell? ⟨B,5,none⟩=some (.int .u32 (f))∧W'.cell? ⟨B,6,none⟩=some (.int .i64 (n))∧W'.cell? ⟨B,7,none⟩=some (.int .i64 (p))) (by kernel_rfl) (hY) (fun yH=> ?_);refine tkZ 0 ?_;refine tkZ 1 ?_;refine tkZ 2 ?_;refine tkZ 3 ?_;refine tkZ 4 ?_;refine tkM 5 ?_;refine tkM 6 ?_;refine tkM 7 ?_;refine tkM 8 ?_;refine tkM 9 ?_;refine tkM 10 ?_;refine tkM 11 ?_;refine tkZ 12 ?_;refine wpAnyH_done (by kernel_rfl) ?_ _;clear hY;go_wp2;go_returns;exact⟨rfl,H3.drew,F3.drew⟩
  ·obtain⟨s0,s1⟩:=hcs hc0
   by_cases hr:r≤o
   ·rw[if_pos (.inr hr)]
    have b1':decide (r≤o)=true:=by simp;omega
    clear hc0 hcs hX ho hr;go_in;go_wp2_with fail;with_reducible refine hcf.mono ?_
    rintro e w1 ⟨rfl,f1⟩;have H1:=H0.fr0 f1;go_wp2_with fail;with_reducible refine(hsl.out _ H1).mono ?_
    rintro e w2 ⟨rfl,f2⟩;have H2:=H1.fr0 f2;have F2:=(f1.trans f2).nil (S:=q.blocks);clear f1 f2 hcf hsl;go_wp2_with fail;with_reducible refine(hso.out _ H2).mono ?_
    rintro e w3 ⟨rfl,h3,f3⟩;have H3:=h3.alloc (.cells #[.pointer (some ⟨m,0,none⟩),.int .i64 i,.int .i64 z,.int .i64 c,.int .i64 l,.int .u32 f,.int .i64 n,.int .i64 p] 187);have F3:=(F2.trans f3).alloc (.cells #[.pointer (some ⟨m,0,none⟩),.int .i64 i,.int .i64 z,.int .i64 c,.int .i64 l,.int .u32 f,.int .i64 n,.int .i64 p] 187);have B3:=Blk.new w3 187 #[.pointer (some ⟨m,0,none⟩),.int .i64 i,.int .i64 z,.int .i64 c,.int .i64 l,.int .u32 f,.int .i64 n,.int .i64 p];clear h3 f3 hso;go_wp2_with fail;generalize w3.heap.size=B at*;generalize w3.alloc (.cells #[.pointer (some ⟨m,0,none⟩),.int .i64 i,.int .i64 z,.int .i64 c,.int .i64 l,.int .u32 f,.int .i64 n,.int .i64 p] 187)=w4 at*;have hY:=blk8 B3.drew;refine wp_region_held_drew (S:=fun W'=>W'.cell? ⟨B,0,none⟩=some (some m:Value)∧W'.cell? ⟨B,1,none⟩=some (.int .i64 (i))∧W'.cell? ⟨B,2,none⟩=some (.int .i64 (z))∧W'.cell? ⟨B,3,none⟩=some (.int .i64 (c))∧W'.cell? ⟨B,4,none⟩=some (.int .i64 (l))∧W'.cell? ⟨B,5,none⟩=some (.int .u32 (f))∧W'.cell? ⟨B,6,none⟩=some (.int .i64 (n))∧W'.cell? ⟨B,7,none⟩=some (.int .i64 (p))) (by kernel_rfl) (hY) (fun yH=> ?_);refine tkZ 0 ?_;refine tkZ 1 ?_;refine tkZ 2 ?_;refine tkZ 3 ?_;refine tkZ 4 ?_;refine tkZ 5 ?_;refine tkZ 6 ?_;refine tkZ 7 ?_;refine tkZ 8 ?_;refine tkZ 9 ?_;refine tkC 10 fun K hK=> ?_;go_simp;with_reducible refine(hpb.out _ H3.drew.m.tab).mono ?_
    rintro e w5 ⟨rfl,f5⟩;have B5:=B3.drew.fr f5 (by simp);have H5:=H3.drew.fr0 f5;have F5:=F3.drew.step f5 (by simp);have hY:=blk8 B5;clear f5;go_wp2_with fail;refine hK.out _ _ _ hY fun yH=> ?_;clear hK K;refine tkZ 11 ?_;refine tkZ 12 ?_;refine wpAnyH_done (by kernel_rfl) ?_ _;clear hY;go_wp2;go_returns;exact⟨rfl,H5,F5⟩
   ·rw[if_neg (by rintro(h|h)<;>omega)]
    have b1':decide (r≤o)=false:=by simp;omega
    have hom:o %s<s:=Nat.mod_lt _ s0;have hom2:o %s≤o:=Nat.mod_le _ _;have b3:((s:Int)==0)=false:=by simp;omega
    have b4:(s=0)=False:=by simp;omega
    have r1:((o:Int)).tmod s=((o %s:Nat):Int):=by rw[Int.tmod_eq_emod_of_nonneg (by omega)];exact(Int.natCast_emod o s).symm
    have r2:((o:Int)) %s=((o %s:Nat):Int):=(Int.natCast_emod o s).symm;have w2:IntKind.i64.wrap ((o %s:Nat):Int)=((o %s:Nat):Int):=i64_in _ (by omega)
    have w3:IntKind.i64.wrap ((X:Int)-((o %s:Nat):Int))=((X-o %s:Nat):Int):=by
     rw[i64_in _ (by omega)];omega
    generalize X-o %s=Y at*;generalize o %s=v at*;clear hc0 hcs hX ho hr hom hom2;go_in;go_wp2_with fail;with_reducible refine hcf.mono ?_
    rintro e w1 ⟨rfl,f1⟩;have H1:=H0.fr0 f1;go_wp2_with fail;with_reducible refine(hsl.out _ H1).mono ?_
    rintro e w2 ⟨rfl,f2⟩;have H2:=H1.fr0 f2;have F2:=(f1.trans f2).nil (S:=q.blocks);clear f1 f2 hcf hsl;go_wp2_with fail;with_reducible refine(hso.out _ H2).mono ?_
    rintro e w3 ⟨rfl,h3,f3⟩;have H3:=h3.alloc (.cells #[.pointer (some ⟨m,0,none⟩),.int .i64 i,.int .i64 z,.int .i64 c,.int .i64 l,.int .u32 f,.int .i64 n,.int .i64 p] 187);have F3:=(F2.trans f3).alloc (.cells #[.pointer (some ⟨m,0,none⟩),.int .i64 i,.int .i64 z,.int .i64 c,.int .i64 l,.int .u32 f,.int .i64 n,.int .i64 p] 187);have B3:=Blk.new w3 187 #[.pointer (some ⟨m,0,none⟩),.int .i64 i,.int .i64 z,.int .i64 c,.int .i64 l,.int .u32 f,.int .i64 n,.int .i64 p];clear h3 f3 hso;go_wp2_with fail;generalize w3.heap.size=B at*;generalize w3.alloc (.cells #[.pointer (some ⟨m,0,none⟩),.int .i64 i,.int .i64 z,.int .i64 c,.int .i64 l,.int .u32 f,.int .i64 n,.int .i64 p] 187)=w4 at*;have hY:=blk8 B3.drew;refine wp_region_held_drew (S:=fun W'=>W'.cell? ⟨B,0,none⟩=some (some m:Value)∧W'.cell? ⟨B,1,none⟩=some (.int .i64 (i))∧W'.cell? ⟨B,2,none⟩=some (.int .i64 (z))∧W'.cell? ⟨B,3,none⟩=some (.int .i64 (c))∧W'.cell? ⟨B,4,none⟩=some (.int .i64 (l))∧W'.cell? ⟨B,5,none⟩=some (.int .u32 (f))∧W'.cell? ⟨B,6,none⟩=some (.int .i64 (n))∧W'.cell? ⟨B,7,none⟩=some (.int .i64 (p))) (by kernel_rfl) (hY) (fun yH=> ?_);refine tkZ 0 ?_;refine tkZ 1 ?_;refine tkZ 2 ?_;refine tkZ 3 ?_;refine tkZ 4 ?_;refine tkZ 5 ?_;refine tkZ 6 ?_;refine tkZ 7 ?_;refine tkZ 8 ?_;refine tkZ 9 ?_;refine tkC 10 fun K hK=> ?_;go_simp;with_reducible refine(hpb.out _ H3.drew.m.tab).mono ?_
    rintro e w5 ⟨rfl,f5⟩;have B5:=B3.drew.fr f5 (by simp);have H5:=H3.drew.fr0 f5;have F5:=F3.drew.step f5 (by simp);have hY:=blk8 B5;clear f5;go_wp2_with fail;refine hK.out _ _ _ hY fun yH=> ?_;clear hK K;refine tkZ 11 ?_;refine tkZ 12 ?_;refine wpAnyH_done (by kernel_rfl) ?_ _;clear hY;go_wp2_with fail;have hY:=blk8 B5.drew;refine wp_region_held_drew (S:=fun W'=>W'.cell? ⟨B,0,none⟩=some (some m:Value)∧W'.cell? ⟨B,1,none⟩=some (.int .i64 (i))∧W'.cell? ⟨B,2,none⟩=some (.int .i64 (z))∧W'.cell? ⟨B,3,none⟩=some (.int .i64 (c))∧W'.cell? ⟨B,4,none⟩=some (.int .i64 (l))∧W'.cell? ⟨B,5,none⟩=some (.int .u32 (f))∧W'.cell? ⟨B,6,none⟩=some (.int .i64 (n))∧W'.cell? ⟨B,7,none⟩=some (.int .i64 (p))) (by kernel_rfl) (hY) (fun yH=> ?_);refine tkZ 0 ?_;refine tkZ 1 ?_;refine tkZ 2 ?_;refine tkZ 3 ?_;refine tkZ 4 ?_;refine tkZ 5 ?_;refine tkZ 6 ?_;refine tkC 7 fun K hK=> ?_;go_simp;with_reducible refine(hpz.out _ H5.drew.m.tab).mono ?_
    rintro e w6 ⟨rfl,f6⟩;have B6:=B5.drew.fr f6 (by simp);have H6:=H5.drew.fr0 f6;have F6:=F5.drew.step f6 (by simp);have hY:=blk8 B6;clear f6;go_wp2_with fail;refine hK.out _ _ _ hY fun yH=> ?_;clear hK K;refine tkZ 8 ?_;refine tkZ 9 ?_;refine tkZ 10 ?_;refine tkZ 11 ?_;refine tkZ 12 ?_;refine wpAnyH_done (by kernel_rfl) ?_ _;clear hY;go_wp2;go_returns;exact⟨rfl,H6,F6⟩
 ·rw[if_neg hx]
  rw[if_neg hx]at hsl;clear h hs hx hls;generalize q.m=m at*;go_in;go_wp2_with fail;with_reducible refine hcf.mono ?_
  rintro e w1 ⟨rfl,f1⟩;have H1:=H0.fr0 f1;go_wp2_with fail;with_reducible refine(hsl.out _ H1).mono ?_
  rintro e w2 ⟨rfl,f2⟩;go_wp2;go_returns;exact⟨rfl,H1.fr0 f2,(f1.trans f2).nil⟩
end
theorem zpw{t:TM}{S:SS}(hok:t.Ok)(hs:SlI t S){x:Int}{i y:Nat}(h:blkS t.a (zdv t.a t.s) S x=(i,y,true))(he:(y:Int)=x):i<t.a∧(y∈S.fr i∨y∈S.lv i):=by
 unfold blkS at h;by_cases hx:(zdv t.a t.s:Int)≤x∧x<(zdv t.a t.s+1024*t.a:Nat)
 ·rw[if_pos hx]at h
  have hi:(x.toNat-zdv t.a t.s)/1024<t.a:=by omega
  have hX:x.toNat=sla t ((x.toNat-zdv t.a t.s)/1024)+(x.toNat-zdv t.a t.s) %1024:=by unfold sla;omega
  generalize(x.toNat-zdv t.a t.s)/1024=j at*;generalize(x.toNat-zdv t.a t.s) %1024=o at*;by_cases hb:S.cls j=0∨csz (S.cls j)*nbk (S.cls j)≤o
  ·rw[if_pos hb]at h;simp at h
  ·rw[if_neg hb]at h
   simp only[Prod.mk.injEq,and_true]at h;obtain⟨rfl,hy⟩:=h;have h0:S.cls j≠0:=fun e=>hb (.inl e);have h1:=hs.each j hi;have hc9:=h1.c9;obtain⟨c1,c2,c3,_⟩:=zmc (S.cls j) (by omega) hc9
   have hm:o %csz (S.cls j)=0:=by
    have:=Nat.mod_le o (csz (S.cls j));omega
   have hd:=Nat.div_add_mod o (csz (S.cls j));rw[hm,Nat.add_zero]at hd
   have hk:o/csz (S.cls j)<nbk (S.cls j):=by
    rw[Nat.div_lt_iff_lt_mul (by omega),Nat.mul_comm (nbk (S.cls j))];omega
   have:y=adr t j (S.cls j) (o/csz (S.cls j)):=by unfold adr;omega
   rw[this];exact⟨hi,h1.mem' h0 hk⟩
 ·rw[if_neg hx]at h;simp at h
def gvS(S:SS)(i x:Nat):SS:=if delS x (S.lv i)= []then S.set i 0 [] []else S.set i (S.cls i) (x::S.fr i) (delS x (S.lv i))
def zpx(a b:Nat)(S:SS)(x:Int):Nat×SS:=
 if(blkS a b S x).2.2=true∧((blkS a b S x).2.1:Int)=x∧(blkS a b S x).2.1∈S.lv (blkS a b S x).1 then(0,gvS S (blkS a b S x).1 (blkS a b S x).2.1)else(30,S)
def zpy(w:World)(q:MH)(t:TM)(S:SS)(x:Int)(R:Nat×SS)(e:Ending)(w':World):Prop:=
 e= .returned R.1∧ ∃u,IsH w' q u∧SlI u R.2∧Sla t u∧Keep t u S (fun y=>R.1=0→(y:Int)≠x)∧Fr q.blocks w w'
section
variable{w:World}{q:MH}{t:TM}{S:SS}{B:Nat}
theorem zpz(h:IsH w q t)(hs:SlI t S)(x:Int)(hb:(blkS t.a (zdv t.a t.s) S x).2.2=false∨((blkS t.a (zdv t.a t.s) S x).2.1:Int)≠x):Calls prog 58 #[q,x] w (zpy w q t S x (30,S)):=by
 have hcf:=tcfg h.m;have hE:=fun w=>zpn t.a t.s h.m.ok.cfg.a1 w;have hbl:=hid (fun W hW=>zpv (w:=W) (q:=q) (t:=t) (S:=S) hW hs x);unfold zpy;generalize(blkS t.a (zdv t.a t.s) S x).1=i at*;generalize(blkS t.a (zdv t.a t.s) S x).2.1=y at*;generalize(blkS t.a (zdv t.a t.s) S x).2.2=ok at*
 have hcc:ok=false∨(ok=true∧((y:Int) !=x)=true):=by
  rcases ok with _|_
  ·exact .inl rfl
  ·rcases hb with hb|hb
   ·cases hb
   ·exact .inr ⟨rfl,by simpa using hb⟩
 clear hb;rcases hcc with rfl|⟨rfl,b1⟩
 all_goals
  go_in;go_wp2_with fail;go_call hcf as e w1 ⟨rfl,f1⟩;have H1:=h.fr0 f1;go_wp2_with fail;go_call hbl.out _ H1 as e w2 ⟨rfl,h2,f2⟩;go_wp2;go_ret;exact⟨rfl,t,h2,hs,Sla.refl t,Keep.refl t S _,f1.nil.trans f2⟩
theorem zp0(h:IsH w q t)(hs:SlI t S)(i x:Nat)(hb:blkS t.a (zdv t.a t.s) S x=(i,x,true))(hx:x∈S.fr i):Calls prog 58 #[q,x] w (zpy w q t S x (30,S)):=by
 obtain⟨hi,_⟩:=zpw h.ok hs hb rfl;have hcf:=tcfg h.m;have hE:=fun w=>zpn t.a t.s h.m.ok.cfg.a1 w
 have hbl:=hid (fun W hW=>by
  have:=zpv (w:=W) (q:=q) (t:=t) (S:=S) hW hs x;rw[hb]at this;exact this)
 have e1:=hs.each i hi;have h0:=e1.none (.inl hx);obtain⟨a1,a2,a3,a4,a5,a6,a7⟩:=e1.at_ h.ok hi (.inl hx);have hc9:=e1.c9;have hso:=hid (fun W hW=>hsof (w:=W) (q:=q) (t:=t) hW i hi);rw[e1.h0,e1.h1,e1.h2]at hso;have hlv:=hid (fun W (hW:IsH W q t)=>znt hW.m i (sla t i) (S.cls i) (S.lv i).length ((S.fr i).headD 0) (t.hd i 3) (t.hd i 4) (S.cls i) x 6 ⟨by omega,hc9⟩ rfl (by omega) a6 (e1.free.kd x hx));have b1:((x:Int) !=x)=false:=by simp
 have b2:(((6:Nat):Int)==5)=false:=by decide
 rw[b2]at hlv;unfold zpy;generalize(S.fr i).headD 0=f at*;unfold prC at hso hlv;clear hb hx hi e1 h0 a1 a2 a3 a4 a5 a6 a7 hc9;go_in;go_wp2_with fail;go_call hcf as e w1 ⟨rfl,f1⟩;have H1:=h.fr0 f1;go_wp2_with fail;go_call hbl.out _ H1 as e w2 ⟨rfl,h2,f2⟩;have F2:=f1.nil.trans f2;clear f1 f2;go_wp2_with fail;go_call hso.out _ h2 as e w3 ⟨rfl,h3,f3⟩;have F3:=F2.trans f3;clear f3;go_wp2_with fail;go_call hlv.out _ (h3.alloc _) as e w4 ⟨rfl,f4⟩;go_wp2;go_ret;exact⟨rfl,t,(h3.alloc _).fr0 f4,hs,Sla.refl t,Keep.refl t S _,(F3.alloc _).step f4 (by simp)⟩
theorem zp1(h:IsH w q t)(hs:SlI t S)(i x:Nat)(hb:blkS t.a (zdv t.a t.s) S x=(i,x,true))(hx:x∈S.lv i):Calls prog 58 #[q,x] w (zpy w q t S x (0,gvS S i x)):=by
 obtain⟨hi,_⟩:=zpw h.ok hs hb rfl
 have hcf:=tcfg h.m
 have hE:=fun w=>zpn t.a t.s h.m.ok.cfg.a1 w
 have hbl:=hid (fun W hW=>by
  have:=zpv (w:=W) (q:=q) (t:=t) (S:=S) hW hs x
  rw[hb]at this
  exact this)
 have hok:=h.ok
 have e1:=hs.each i hi
 have h0:=e1.none (.inr hx)
 obtain⟨a1,a2,a3,a4,a5,a6,a7⟩:=e1.at_ h.ok hi (.inr hx)
 have hc9:=e1.c9
 obtain⟨c1,c2,c3,c4,c5,c6,c7⟩:=zmc (S.cls i) (by omega) hc9
 have hlen:=e1.len h0
 have hsl5:=(zmd hok i hi).2.2.2.2
 have hso:=hid (fun W hW=>hsof (w:=W) (q:=q) (t:=t) hW i hi)
 rw[e1.h0,e1.h1,e1.h2]at hso
 have hlv:=hid (fun W (hW:IsH W q t)=>znt hW.m i (sla t i) (S.cls i) (S.lv i).length ((S.fr i).headD 0) (t.hd i 3) (t.hd i 4) (S.cls i) x 5 ⟨by omega,hc9⟩ rfl (by omega) a6 (e1.live x hx))
 have b1:((x:Int) !=x)=false:=by simp
 have b2:(((5:Nat):Int)==5)=true:=by decide
 rw[b2]at hlv
 have hsz:=hid (fun W (hW:TabM W)=>znr hW q.m i (sla t i) (S.cls i) (S.lv i).length ((S.fr i).headD 0) (t.hd i 3) (t.hd i 4) (S.cls i) hc9 rfl)
 have k1:=zlf hok x (csz (S.cls i)) 0
 have k2:=zlj k1 x (csz (S.cls i)) 6 (by decide)
 have hze:=hid (fun W (hW:IsH W q t)=>zn8 hW x (csz (S.cls i)) 5 a4 a6 (e1.live x hx) (by omega) (by omega) (by decide) x (csz (S.cls i)) 5 rfl rfl rfl)
 have hmk:=hid (fun W (hW:IsH W q (t.setB x (csz (S.cls i)) 0))=>zn7 hW x (csz (S.cls i)) 6 a4 (by omega) (by omega) a6 (by decide) x (csz (S.cls i)) 6 rfl rfl rfl)
 have l2:LS ((t.setB x (csz (S.cls i)) 0).setK x (csz (S.cls i)) 6) S.inn:=hs.ls.same rfl (fun _=>rfl) (fun _ _ _=>rfl)
 have hS1:(S.set i (S.cls i) (x::S.fr i) (delS x (S.lv i))).inn=up S.inn i (S.cls i):=by rw[zmq,if_neg h0,if_neg (by simp)]
 have hinn:S.fr i≠ [] →up S.inn i (S.cls i)=S.inn:=fun hF=>by
  funext j
  by_cases e:j=i
  ·subst e;rw[zf1];unfold SS.inn;rw[if_neg h0,if_neg hF]
  ·rw[zf2 _ _ e]
 have hfa: ∀y∈S.fr i,0<y∧y<1048576:=fun y hy=>by
  obtain⟨_,_,b3,_,_,b6,b7⟩:=e1.at_ hok hi (x:=y) (.inl hy)
  omega
 have hfh:(S.fr i).headD 0<1048576:=by
  rcases hF:S.fr i with _|⟨y,F⟩
  ·exact(by decide:0<1048576)
  ·exact(hfa y (by rw[hF];simp)).2
 have hfz:S.fr i= [] ∧(S.fr i).headD 0=0∨S.fr i≠ [] ∧0<(S.fr i).headD 0:=by
  rcases hF:S.fr i with _|⟨y,F⟩
  ·exact .inl ⟨rfl,rfl⟩
  ·exact .inr ⟨by simp,(hfa y (by rw[hF];simp)).1⟩
 have hins':=hid (fun W hW (hF:S.fr i= [])=>by
  have hini:S.inn i= -1:=by unfold SS.inn;rw[if_neg h0,if_pos hF]
  have hE:insE t.a S.inn (S.cls i) i=0:=by unfold insE;rw[zi7 hc9 hi,if_neg (by decide),Int.toNat_natCast,hini,if_neg (by decide)]
  have hI:insI t.a S.inn (S.cls i) i=up S.inn i (S.cls i):=by unfold insI;rw[hE,if_pos rfl,Int.toNat_natCast]
  have:=hins (w:=W) (q:=q) (t:=(t.setB x (csz (S.cls i)) 0).setK x (csz (S.cls i)) 6) hW l2 (S.cls i) i
  rw[show((t.setB x (csz (S.cls i)) 0).setK x (csz (S.cls i)) 6).a=t.a from rfl,hI]at this
  exact this)
 have hdl:=zmz (zm0 e1.so) hx
 have hLpos:1≤(S.lv i).length:=by omega
 have hgv0:(S.lv i).length=1→delS x (S.lv i)= [] :=fun e=>List.length_eq_zero_iff.1 (by omega)
 have hgv1:(S.lv i).length≠1→delS x (S.lv i)≠ [] :=fun e e2=>by rw[e2]at hdl;simp at hdl;omega
 have HALL:=hid (fun(t3:TM) (k3:t3.Ok) (e3:Lis ((t.setB x (csz (S.cls i)) 0).setK x (csz (S.cls i)) 6) t3) (l3:LS t3 (up S.inn i (S.cls i)))=>
  (show(∀W B,(∀(_:World),IsH W q t3→Blk W B 187 (prC q.m i (sla t i) (S.cls i) (S.lv i).length ((S.fr i).headD 0) (t.hd i 3) (t.hd i 4))→B∉q.blocks→5≤B→Calls prog 134 #[some B,x] W fun e w'=>e= .returned (.tuple #[])∧IsH w' q (t3.push x ((S.fr i).headD 0))∧Blk w' B 187 (prC q.m i (sla t i) (S.cls i) (S.lv i).length x (t.hd i 3) (t.hd i 4))∧Fr (B::q.blocks) W w'))
   ∧(∀W,IsH W q (t3.push x ((S.fr i).headD 0))→Calls prog 135 #[.agg (prC q.m i (sla t i) (S.cls i) (((S.lv i).length:Int)-1) x (t.hd i 3) (t.hd i 4))] W fun e w'=>e= .returned (.tuple #[])∧IsH w' q ((t3.push x ((S.fr i).headD 0)).setL i (S.cls i) ((S.lv i).length-1) x)∧Fr q.blocks W w')
   ∧((S.lv i).length=1→ ∀W B,IsH W q ((t3.push x ((S.fr i).headD 0)).setL i (S.cls i) ((S.lv i).length-1) x)→Blk W B 187 (prC q.m i (sla t i) (S.cls i) (((S.lv i).length:Int)-1) x (t.hd i 3) (t.hd i 4))→B∉q.blocks→5≤B→Calls prog 136 #[some B] W fun e w'=>e= .returned (.tuple #[])∧ ∃u,IsH w' q u∧SlI u (gvS S i x)∧Sla t u∧Keep t u S (fun y=>y≠x)∧Fr (B::q.blocks) W w')
   ∧((S.lv i).length≠1→SlI ((t3.push x ((S.fr i).headD 0)).setL i (S.cls i) ((S.lv i).length-1) x) (gvS S i x)∧Sla t ((t3.push x ((S.fr i).headD 0)).setL i (S.cls i) ((S.lv i).length-1) x)∧Keep t ((t3.push x ((S.fr i).headD 0)).setL i (S.cls i) ((S.lv i).length-1) x) S (fun y=>y≠x))from by
   obtain⟨g1,g2,g3⟩:=zox hok hs hi hx k3 e3 (by rw[hS1];exact l3)
   have hkd:KdOn t3 x (csz (S.cls i)) 6:=fun g g1 g2=>by
    rw[(e3.out k2 k3 0 0).kd_ g (by show zdv t.a t.s≤4*g;omega) (by omega)]
    exact zmg k1 x _ 6 (by decide) a4 g g1 g2
   have hp:=zm5 hkd (by omega) (by omega) (by rw[e3.a,e3.s];exact a4) (by rw[e3.a,e3.s];exact a6) (fun _=>0)
   obtain⟨p1,_⟩:=zoj t3 x ((S.fr i).headD 0)
   have hS1c:(S.set i (S.cls i) (x::S.fr i) (delS x (S.lv i))).cls i=S.cls i:=zf1 _ _ _
   have hS1l:(S.set i (S.cls i) (x::S.fr i) (delS x (S.lv i))).lv i=delS x (S.lv i):=zf1 _ _ _
   refine⟨fun W B _ hW hbk hB hg=>zoa hW i (sla t i) (S.cls i) (S.lv i).length ((S.fr i).headD 0) (t.hd i 3) (t.hd i 4) x ((S.fr i).headD 0) (fun _=>0) hp hbk hB hg rfl (by omega) (by omega),fun W hW=>zn9 hW i (sla t i) (S.cls i) (((S.lv i).length:Int)-1) x (t.hd i 3) (t.hd i 4) i (S.cls i) ((S.lv i).length-1) x (by rw[p1,e3.a];exact hi) hc9 (by omega) (by omega) rfl rfl (by omega) rfl,fun hL W B hW hbk hB hg=> ?_,fun hL=> ?_⟩
   ·have es:=zmo (u:=(t3.push x ((S.fr i).headD 0)).setL i (S.cls i) ((S.lv i).length-1) x) g2.a g2.s i
    have:=zpd hW g1 i (((S.lv i).length:Int)-1) x (t.hd i 3) (t.hd i 4) (by rw[g2.a];exact hi) (by rw[hS1c];exact h0) (by rw[hS1l];exact hgv0 hL) (by rw[es,hS1c];exact hbk) hB hg
    refine this.mono fun e w' ⟨he,u,u1,u2,u3,u4,u5⟩=>⟨he,u,u1,?_,g2.trans u3,fun j hj y hy hne k hk=> ?_,u5⟩
    ·unfold gvS
     rw[if_pos (hgv0 hL)]
     rw[zow]at u2
     exact u2
    ·rw[es]at u4
     have o2:Out t u (sla t i) 1024:=(g3.wide a1 (by omega)).trans u4 g2.a g2.s
     obtain⟨d1,d2,d3,d4,d5,d6,_⟩:=(hs.each j hj).at_ hok hj (.inr hy)
     refine o2.by_ _ (by omega) ?_
     by_cases e:i=j
     ·subst e
      have hmem:y∈delS x (S.lv i):=(zmv x y _).2 ⟨hy,hne⟩
      rw[hgv0 hL]at hmem;cases hmem
     ·have:=zpg t e
      omega
   ·unfold gvS
    rw[if_neg (hgv1 hL)]
    exact⟨g1,g2,zph hok hs hi (.inr hx) g3⟩))
 have hgh:5≤w.heap.size:=h.tabs.size
 have hlt:=h.m.lt
 have H0:=hid h
 have HSI:=hid (fun hF=>hinn hF)
 have HL2:=hid l2
 have K2:=hid k2
 unfold zpy
 have HKX:=hid (fun(u:TM) (hk:Keep t u S (fun y=>y≠x))=>(show Keep t u S (fun y=>(0:Nat)=0→(y:Int)≠(x:Int))from fun j hj y hy hp=>hk j hj y hy (fun e=>hp rfl (by rw[e]))))
 generalize gvS S i x=S' at*
 generalize sla t i=z at*
 generalize(t.setB x (csz (S.cls i)) 0).setK x (csz (S.cls i)) 6=t2 at*
 generalize csz (S.cls i)=s at*
 generalize(S.fr i).headD 0=f at*
 generalize(S.lv i).length=l at*
 have hfc:(f=0∧S.fr i= [])∨(0<f∧S.fr i≠ []):=by
  rcases hfz with⟨a,b⟩|⟨a,b⟩
  ·exact .inl ⟨b,a⟩
  ·exact .inr ⟨b,a⟩
 generalize S.cls i=c at*
 generalize t.hd i 3=n at*
 generalize t.hd i 4=p at*
 have w4:=i6 ((l:Int)-1)
 have HFC:=hid hfc
 clear h hs hb hx hi e1 h0 a1 a2 a3 a4 a5 a6 a7 hS1 hinn hfa hfh hfz hdl hgv0 hgv1 k1 k2 l2 hlen hsl5 hok hfc c1 c2 c3 c4 c5 c6 c7
 unfold prC at hso hlv hsz HALL
 go_enter func58,ntmps58
 go_wp2_with fail
 go_call hcf as e w1 ⟨rfl,f1⟩
 have H1:=hid (H0.fr0 f1)
 go_wp2_with fail
 go_call hbl.out _ H1.out as e w2 ⟨rfl,h2,f2⟩
 have H2:=hid h2
 have F2:=hid (f1.nil.trans f2)
 clear h2 f1 f2 hbl hcf
 go_wp2_with fail
 go_call hso.out _ H2.out as e w3 ⟨rfl,h3,f3⟩
 have H3:=hid h3
 have F3:=hid (F2.trans f3)
 clear h3 f3 hso
 go_wp2_with fail
 have hws:w.heap.size≤w3.heap.size:=F3.size
 have hBq:w3.heap.size∉q.blocks:=fun hm=>by have:=hlt _ hm;omega
 have hBg:5≤w3.heap.size:=by omega
 have B3:=hid (Blk.new w3 187 #[.pointer (some ⟨q.m,0,none⟩),.int .i64 (i),.int .i64 (z),.int .i64 (c),.int .i64 (l),.int .u32 (f),.int .i64 (n),.int .i64 (p)])
 have H3a:=hid (H3.alloc (.cells #[q,.int .i64 (i),.int .i64 (z),.int .i64 (c),.int .i64 (l),.int .u32 (f),.int .i64 (n),.int .i64 (p)] 187))
 have F3a:=hid (F3.alloc (.cells #[q,.int .i64 (i),.int .i64 (z),.int .i64 (c),.int .i64 (l),.int .u32 (f),.int .i64 (n),.int .i64 (p)] 187))
 generalize w3.heap.size=B at*
 obtain⟨w4,hw4⟩: ∃w4,w3.alloc (.cells #[q,.int .i64 (i),.int .i64 (z),.int .i64 (c),.int .i64 (l),.int .u32 (f),.int .i64 (n),.int .i64 (p)] 187)=w4:=⟨_,rfl⟩
 rw[hw4]at B3 H3a F3a⊢
 clear hw4 H3 F3
 go_call hlv.out _ H3a.out as e w5 ⟨rfl,f5⟩
 have B5:=hid (B3.fr f5 (by simp))
 have H5:=hid (H3a.fr0 f5)
 have F5:=hid (F3a.step f5 (by simp))
 clear f5 hlv
 (have d0:=B5.cell 0;have z0:=B5.frozen 0;have d1:=B5.cell 1;have z1:=B5.frozen 1;have d2:=B5.cell 2;have z2:=B5.frozen 2;have d3:=B5.cell 3;have z3:=B5.frozen 3;have d4:=B5.cell 4;have z4:=B5.frozen 4;have d5:=B5.cell 5;have z5:=B5.frozen 5;have d6:=B5.cell 6;have z6:=B5.frozen 6;have d7:=B5.cell 7;have z7:=B5.frozen 7;simp at d0 d1 d2 d3 d4 d5 d6 d7)
 go_wp2_with fail
 go_call hsz.out _ H5.out.m.tab as e w6 ⟨rfl,f6⟩
 have B6:=hid (B5.fr f6 (by simp))
 have H6:=hid (H5.fr0 f6)
 have F6:=hid (F5.step f6 (by simp))
 clear f6
 clear d0 z0 d1 z1 d2 z2 d3 z3 d4 z4 d5 z5 d6 z6 d7 z7
 go_wp2_with fail
 go_call hze.out _ H6.out as e w7 ⟨rfl,h7,f7⟩
 have B7:=hid (B6.fr f7 hBq)
 have H7:=hid h7
 have F7:=hid (F6.trans f7)
 clear f7 h7
 (have d0:=B7.cell 0;have z0:=B7.frozen 0;have d1:=B7.cell 1;have z1:=B7.frozen 1;have d2:=B7.cell 2;have z2:=B7.frozen 2;have d3:=B7.cell 3;have z3:=B7.frozen 3;have d4:=B7.cell 4;have z4:=B7.frozen 4;have d5:=B7.cell 5;have z5:=B7.frozen 5;have d6:=B7.cell 6;have z6:=B7.frozen 6;have d7:=B7.cell 7;have z7:=B7.frozen 7;simp at d0 d1 d2 d3 d4 d5 d6 d7)
 go_wp2_with fail
 go_call hsz.out _ H7.out.m.tab as e w8 ⟨rfl,f8⟩
 have B8:=hid (B7.fr f8 (by simp))
 have H8:=hid (H7.fr0 f8)
 have F8:=hid (F7.step f8 (by simp))
 clear f8
 clear d0 z0 d1 z1 d2 z2 d3 z3 d4 z4 d5 z5 d6 z6 d7 z7
 go_wp2_with fail
 go_call hmk.out _ H8.out as e w9 ⟨rfl,h9,f9⟩
 have B9:=hid (B8.fr f9 hBq)
 have H9:=hid h9
 have F9:=hid (F8.trans f9)
 clear f9 h9
 have h1fr: ∀(t':TM) (W' W'':World),IsH W' q t'→Fr [B] W' W''→IsH W'' q t':=fun t' W' W'' h1 hf=>h1.fr1 hf hBq hBg
 have hwB:w.heap.size≤B:=hws
 have HFF:=hid (fun W' (hf:Fr (B::q.blocks) w W')=>hf.mono (S':=q.blocks) (fun k hk=>by
  rcases List.mem_cons.1 hk with rfl|hk
  ·exact .inr hwB
  ·exact .inl hk))
 (have d0:=B9.cell 0;have z0:=B9.frozen 0;have d1:=B9.cell 1;have z1:=B9.frozen 1;have d2:=B9.cell 2;have z2:=B9.frozen 2;have d3:=B9.cell 3;have z3:=B9.frozen 3;have d4:=B9.cell 4;have z4:=B9.frozen 4;have d5:=B9.cell 5;have z5:=B9.frozen 5;have d6:=B9.cell 6;have z6:=B9.frozen 6;have d7:=B9.cell 7;have z7:=B9.frozen 7;simp at d0 d1 d2 d3 d4 d5 d6 d7)
 rcases HFC.out with⟨hf0,hF⟩|⟨hf0,hF⟩
 ·have b3:((f:Int)==0)=true:=by simp[hf0]
  have hin:=hid (fun W hW=>hins'.out W hW hF)
  clear hf0 hF hins' HSI
  go_wp2_with fail
  go_call hin.out _ H9.out as e w10 ⟨rfl,t3,h10,l10,k10,f10⟩
  have B10:=hid (B9.fr f10 hBq)
  have H10:=hid h10
  have FB10:=hid ((F9.trans f10).mono (S':=B::q.blocks) (fun k hk=> .inl (List.mem_cons_of_mem _ hk)))
  have HA:=hid (HALL.out t3 h10.ok k10 l10)
  clear h10 f10 l10 k10 HALL
  clear d0 z0 d1 z1 d2 z2 d3 z3 d4 z4 d5 z5 d6 z6 d7 z7
  go_wp2_with fail
  go_call HA.out.1 _ B w10 H10.out B10.out hBq hBg as e x1 ⟨rfl,h21,b21,f21⟩
  have H21:=hid h21
  have B21:=hid b21
  have F21:=hid (FB10.trans f21)
  clear h21 b21 f21
  (have d0:=B21.cell 0;have z0:=B21.frozen 0;have d1:=B21.cell 1;have z1:=B21.frozen 1;have d2:=B21.cell 2;have z2:=B21.frozen 2;have d3:=B21.cell 3;have z3:=B21.frozen 3;have d4:=B21.cell 4;have z4:=B21.frozen 4;have d5:=B21.cell 5;have z5:=B21.frozen 5;have d6:=B21.cell 6;have z6:=B21.frozen 6;have d7:=B21.cell 7;have z7:=B21.frozen 7;simp at d0 d1 d2 d3 d4 d5 d6 d7)
  go_wp2_with fail
  have b22:=B21.set 4 (.int .i64 ((l:Int)-1))
  simp at b22
  have B22:=hid b22
  have g22:Fr [B] x1 (x1.setCell ⟨B,4,none⟩ (.int .i64 ((l:Int)-1))):=(Fr.refl _ _).setCell (.inl (by simp)) _
  have H22:=hid (h1fr _ _ _ H21.out g22)
  have F22:=hid (show Fr (B::q.blocks) w (x1.setCell ⟨B,4,none⟩ (.int .i64 ((l:Int)-1)))from F21.setCell (.inl (by simp)) _)
  clear b22 g22
  clear d0 z0 d1 z1 d2 z2 d3 z3 d4 z4 d5 z5 d6 z6 d7 z7
  generalize x1.setCell ⟨B,4,none⟩ (.int .i64 ((l:Int)-1))=x2 at*
  have hse:=HA.2.1 x2 H22.out
  go_call hse as e x3 ⟨rfl,h23,f23⟩
  have H23:=hid h23
  have B23:=hid (B22.fr f23 hBq)
  have F23:=hid (F22.trans (f23.mono (S':=B::q.blocks) (fun k hk=> .inl (List.mem_cons_of_mem _ hk))))
  clear h23 f23 hse
  (have d0:=B23.cell 0;have z0:=B23.frozen 0;have d1:=B23.cell 1;have z1:=B23.frozen 1;have d2:=B23.cell 2;have z2:=B23.frozen 2;have d3:=B23.cell 3;have z3:=B23.frozen 3;have d4:=B23.cell 4;have z4:=B23.frozen 4;have d5:=B23.cell 5;have z5:=B23.frozen 5;have d6:=B23.cell 6;have z6:=B23.frozen 6;have d7:=B23.cell 7;have z7:=B23.frozen 7;simp at d0 d1 d2 d3 d4 d5 d6 d7)
  by_cases hL1:l=1
  ·have e1:(((l:Int)-1)==0)=true:=by simp;omega
   have HM:=hid (HA.2.2.1 hL1 x3 B H23.out B23.out hBq hBg)
   clear hL1
   go_wp2_with fail
   go_call HM.out as e x4 ⟨rfl,u,h24,s24,l24,o24,f24⟩
   have H24:=hid (And.intro h24 (And.intro s24 (And.intro l24 o24)))
   have F24:=hid (F23.trans f24)
   clear h24 s24 l24 o24 f24
   clear d0 z0 d1 z1 d2 z2 d3 z3 d4 z4 d5 z5 d6 z6 d7 z7
   go_wp2_with fail
   go_ret
   obtain⟨k1,k2,k3,k4⟩:=H24.out
   exact⟨rfl,u,k1,k2,k3,HKX.out u k4,HFF.out _ F24.out⟩
  ·have e1:(((l:Int)-1)==0)=false:=by simp;omega
   have HM:=hid (HA.2.2.2 hL1)
   clear hL1
   go_wp2_with fail
   clear d0 z0 d1 z1 d2 z2 d3 z3 d4 z4 d5 z5 d6 z6 d7 z7
   go_ret
   obtain⟨k2,k3,k4⟩:=HM.out
   exact⟨rfl,_,H23.out,k2,k3,HKX.out _ k4,HFF.out _ F23.out⟩
 ·have b3:((f:Int)==0)=false:=by simp;omega
  have HA:=hid (HALL.out _ K2.out (Lis.refl _) (by rw[HSI.out hF];exact HL2.out))
  have FB9:=hid (F9.mono (S':=B::q.blocks) (fun k hk=> .inl (List.mem_cons_of_mem _ hk)))
  clear hf0 hF hins' HSI HALL
  go_wp2_with fail
  clear d0 z0 d1 z1 d2 z2 d3 z3 d4 z4 d5 z5 d6 z6 d7 z7
  go_call HA.out.1 _ B w9 H9.out B9.out hBq hBg as e x1 ⟨rfl,h21,b21,f21⟩
  have H21:=hid h21
  have B21:=hid b21
  have F21:=hid (FB9.trans f21)
  clear h21 b21 f21
  (have d0:=B21.cell 0;have z0:=B21.frozen 0;have d1:=B21.cell 1;have z1:=B21.frozen 1;have d2:=B21.cell 2;have z2:=B21.frozen 2;have d3:=B21.cell 3;have z3:=B21.frozen 3;have d4:=B21.cell 4;have z4:=B21.frozen 4;have d5:=B21.cell 5;have z5:=B21.frozen 5;have d6:=B21.cell 6;have z6:=B21.frozen 6;have d7:=B21.cell 7;have z7:=B21.frozen 7;simp at d0 d1 d2 d3 d4 d5 d6 d7)
  go_wp2_with fail
  have b22:=B21.set 4 (.int .i64 ((l:Int)-1))
  simp at b22
  have B22:=hid b22
  have g22:Fr [B] x1 (x1.setCell ⟨B,4,none⟩ (.int .i64 ((l:Int)-1))):=(Fr.refl _ _).setCell (.inl (by simp)) _
  have H22:=hid (h1fr _ _ _ H21.out g22)
  have F22:=hid (show Fr (B::q.blocks) w (x1.setCell ⟨B,4,none⟩ (.int .i64 ((l:Int)-1)))from F21.setCell (.inl (by simp)) _)
  clear b22 g22
  clear d0 z0 d1 z1 d2 z2 d3 z3 d4 z4 d5 z5 d6 z6 d7 z7
  generalize x1.setCell ⟨B,4,none⟩ (.int .i64 ((l:Int)-1))=x2 at*
  have hse:=HA.2.1 x2 H22.out
  go_call hse as e x3 ⟨rfl,h23,f23⟩
  have H23:=hid h23
  have B23:=hid (B22.fr f23 hBq)
  have F23:=hid (F22.trans (f23.mono (S':=B::q.blocks) (fun k hk=> .inl (List.mem_cons_of_mem _ hk))))
  clear h23 f23 hse
  (have d0:=B23.cell 0;have z0:=B23.frozen 0;have d1:=B23.cell 1;have z1:=B23.frozen 1;have d2:=B23.cell 2;have z2:=B23.frozen 2;have d3:=B23.cell 3;have z3:=B23.frozen 3;have d4:=B23.cell 4;have z4:=B23.frozen 4;have d5:=B23.cell 5;have z5:=B23.frozen 5;have d6:=B23.cell 6;have z6:=B23.frozen 6;have d7:=B23.cell 7;have z7:=B23.frozen 7;simp at d0 d1 d2 d3 d4 d5 d6 d7)
  by_cases hL1:l=1
  ·have e1:(((l:Int)-1)==0)=true:=by simp;omega
   have HM:=hid (HA.2.2.1 hL1 x3 B H23.out B23.out hBq hBg)
   clear hL1
   go_wp2_with fail
   go_call HM.out as e x4 ⟨rfl,u,h24,s24,l24,o24,f24⟩
   have H24:=hid (And.intro h24 (And.intro s24 (And.intro l24 o24)))
   have F24:=hid (F23.trans f24)
   clear h24 s24 l24 o24 f24
   clear d0 z0 d1 z1 d2 z2 d3 z3 d4 z4 d5 z5 d6 z6 d7 z7
   go_wp2_with fail
   go_ret
   obtain⟨k1,k2,k3,k4⟩:=H24.out
   exact⟨rfl,u,k1,k2,k3,HKX.out u k4,HFF.out _ F24.out⟩
  ·have e1:(((l:Int)-1)==0)=false:=by simp;omega
   have HM:=hid (HA.2.2.2 hL1)
   clear hL1
   go_wp2_with fail
   clear d0 z0 d1 z1 d2 z2 d3 z3 d4 z4 d5 z5 d6 z6 d7 z7
   go_ret
   obtain⟨k2,k3,k4⟩:=HM.out
   exact⟨rfl,_,H23.out,k2,k3,HKX.out _ k4,HFF.out _ F23.out⟩
theorem zp2(h:IsH w q t)(hs:SlI t S)(x:Int):Calls prog 58 #[q,x] w (zpy w q t S x (zpx t.a (zdv t.a t.s) S x)):=by
 unfold zpx;by_cases hb:(blkS t.a (zdv t.a t.s) S x).2.2=true
 ·by_cases he:((blkS t.a (zdv t.a t.s) S x).2.1:Int)=x
  ·obtain⟨⟨i,y,ok⟩,hbl⟩:∃R,blkS t.a (zdv t.a t.s) S x=R:=⟨_,rfl⟩
   rw[hbl]at hb he⊢;simp only at hb he;subst hb;subst he;obtain⟨_,hm⟩:=zpw h.ok hs hbl rfl;by_cases hl:y∈S.lv i
   ·rw[if_pos ⟨rfl,rfl,hl⟩]
    exact zp1 h hs i y hbl hl
   ·rw[if_neg (fun h=>hl h.2.2)]
    exact zp0 h hs i y hbl (hm.resolve_right hl)
  ·rw[if_neg (fun h=>he h.2.1)]
   exact zpz h hs x (.inr he)
 ·rw[if_neg (fun h=>hb h.1)]
  exact zpz h hs x (.inl (by simpa using hb))
end
def SS.zero:SS:=⟨fun _=>0,fun _=> [],fun _=> []⟩
section
variable{w:World}{q:MH}{t:TM}
theorem zp3 (a s : Nat) (hc : Cfg a s) (u : TM) (hu : u.Ok) (e : u = (newT a s).beg a) : SlI u SS.zero ∧ Lis (newT a s).zHd u := by
  have hl : Lis (newT a s).zHd u := by rw [e]; exact zjp (newT a s) a
  have ha : u.a = a := by rw [e]; exact zji _ _
  refine ⟨⟨?_, fun i hi => ?_⟩, hl⟩
  · rw [e]
    refine (zjj (newT a s) a (Nat.le_refl _)).congr (fun x hx => ?_)
    unfold innB
    rw [if_pos (show (newT a s).a - a ≤ x by show a - a ≤ x; omega)]
    rfl
  · have hi' : i < a := by rw [← ha]; exact hi
    have hh : ∀ r, r < 3 → u.hd i r = 0 := fun r hr => by
      rw [hl.hd i r (by omega) (by omega)]
      exact if_pos hi'
    obtain ⟨b1, _, b3, _⟩ := zmd hu i hi
    refine Sl1.melted (t := u) ⟨rfl, rfl, hh 0 (by decide), hh 1 (by decide), hh 2 (by decide)⟩ (fun g g1 g2 => ?_) (fun j hj => ?_)
    · rw [zlk u g (by omega) hu, hl.kd]
      rfl
    · rw [zle u _ (by omega) hu, hl.bt]
      rfl
def NewH(w:World)(a s:Nat)(e:Ending)(w':World):Prop:=
 ∃q:MH,e= .returned q∧IsH w' q (newT a s)∧(∀k∈q.blocks,w.heap.size≤k)∧Fr [] w w'
theorem hnew(w:World)(hM:TabM w)(hT:Tabs w)(a s:Nat)(h:Cfg a s):Calls prog 20 #[.agg #[a,s]] w (NewH w a s):=
 (show Calls prog 20 #[.agg #[a,s]] w (NewT w a s)from tnew w hM a s h).mono fun e w' ⟨q,he,h1,hq,hf⟩=>⟨q,he,⟨h1,hT.fr hf (by simp),fun k hk=>Nat.le_trans hT.size (hq k hk)⟩,hq,hf⟩
def x1:Nat×Nat×SS:=zpf 7 (zdv 7 224) SS.zero 1
def x2:Nat×Nat×SS:=zpf 7 (zdv 7 224) x1.2.2 1
def x3:Nat×Nat×SS:=zpf 7 (zdv 7 224) x2.2.2 9
def x4:Nat×SS:=zpx 7 (zdv 7 224) x3.2.2 1136
def x5:Nat×Nat×SS:=zpf 7 (zdv 7 224) x4.2 1
end
def Lv(a:Nat)(S:SS)(x n:Nat):Prop:= ∃i,i<a∧x∈S.lv i∧n=csz (S.cls i)
section
variable{t:TM}{S:SS}{x y n m:Nat}
theorem SlI.slab_eq(hs:SlI t S)(hok:t.Ok){i j:Nat}(hi:i<t.a)(hj:j<t.a)(h1:x∈S.fr i∨x∈S.lv i)(h2:x∈S.fr j∨x∈S.lv j):i=j:=by
 have e1:=hs.each i hi;have e2:=hs.each j hj;obtain⟨a1,_,a3,_,a5,_⟩:=e1.at_ hok hi h1;obtain⟨d1,_,_,_,d5,_⟩:=e2.at_ hok hj h2;have c1:=(zmc (S.cls i) (by have:=e1.none h1;omega) e1.c9).2.1;have c2:=(zmc (S.cls j) (by have:=e2.none h2;omega) e2.c9).2.1;by_cases e:i=j
 ·exact e
 ·have:=zpg t e
  omega
theorem zp4(hs:SlI t S)(hok:t.Ok)(h:Lv t.a S x n):zdv t.a t.s≤x∧x %16=0∧n %16=0∧32≤n∧n≤512∧x+n≤zdw t.a t.s∧KdOn t x n 5:=by
 obtain⟨i,hi,hx,rfl⟩:=h;have e1:=hs.each i hi;obtain⟨_,_,a3,a4,_,a6,_⟩:=e1.at_ hok hi (.inr hx);obtain⟨c1,c2,c3,_⟩:=zmc (S.cls i) (by have:=e1.none (.inr hx);omega) e1.c9;exact⟨a4,a3,c1,c2,c3,a6,e1.live x hx⟩
theorem zp5(hs:SlI t S)(hok:t.Ok)(h1:Lv t.a S x n)(h2:Lv t.a S y m)(hne:x≠y):x+n≤y∨y+m≤x:=by
 obtain⟨i,hi,hx,rfl⟩:=h1;obtain⟨j,hj,hy,rfl⟩:=h2;by_cases e:i=j
 ·subst e
  exact(hs.each i hi).apart (.inr hx) (.inr hy) hne
 ·obtain⟨a1,_,a3,_,a5,_⟩:=(hs.each i hi).at_ hok hi (.inr hx)
  obtain⟨d1,_,d3,_,d5,_⟩:=(hs.each j hj).at_ hok hj (.inr hy);have:=zpg t e;omega
theorem zp6{a i c':Nat}{F':List Nat}(hi:i<a)(hc:S.lv i≠ []→c'=S.cls i):Lv a (S.set i c' F' (insS x (S.lv i))) x (csz c')∧(∀y n,Lv a S y n→Lv a (S.set i c' F' (insS x (S.lv i))) y n)∧(∀y n,Lv a (S.set i c' F' (insS x (S.lv i))) y n→y=x∨Lv a S y n):=by
 refine⟨⟨i,hi,?_,?_⟩,fun y n ⟨j,hj,hy,hn⟩=>⟨j,hj,?_⟩,fun y n ⟨j,hj,hy,hn⟩=> ?_⟩
 ·show x∈up S.lv i _ i
  rw[zf1];exact(zms _ _ _).2 (.inl rfl)
 ·show csz c'=csz (up S.cls i c' i)
  rw[zf1]
 ·show y∈up S.lv i _ j∧n=csz (up S.cls i c' j)
  by_cases e:j=i
  ·subst e
   rw[zf1,zf1];refine⟨(zms _ _ _).2 (.inr hy),?_⟩;rw[hc (fun e=>by rw[e]at hy;cases hy)];exact hn
  ·rw[zf2 _ _ e,zf2 _ _ e];exact⟨hy,hn⟩
 ·replace hy:y∈up S.lv i (insS x (S.lv i)) j:=hy
  replace hn:n=csz (up S.cls i c' j):=hn;by_cases e:j=i
  ·subst e
   rw[zf1]at hy hn;rcases(zms _ _ _).1 hy with h|h
   ·exact .inl h
   ·exact .inr ⟨j,hj,h,by rw[←hc (fun e=>by rw[e]at h;cases h)];exact hn⟩
  ·rw[zf2 _ _ e]at hy hn
   exact .inr ⟨j,hj,hy,hn⟩
structure zp7(a:Nat)(S S':SS)(x n:Nat):Prop where
 new:Lv a S' x n
 old: ∀y m,Lv a S y m→Lv a S' y m∧y≠x
 all: ∀y m,Lv a S' y m→y=x∨Lv a S y m
theorem zp8(hs:SlI t S)(hok:t.Ok)(c:Int)(h0:(zpf t.a (zdv t.a t.s) S c).2.1=0):1≤c∧c≤9∧zp7 t.a S (zpf t.a (zdv t.a t.s) S c).2.2 (zpf t.a (zdv t.a t.s) S c).1 (cszZ c):=by
 unfold zpf at*;by_cases hc0:cszZ c=0
 ·rw[if_pos hc0]at h0;cases h0
 have hc:1≤c∧c≤9:=by
  unfold cszZ at hc0;by_cases h1:1≤c∧c≤9
  ·exact h1
  ·rw[if_neg h1]at hc0;exact absurd rfl hc0
 obtain⟨k,rfl⟩:∃k:Nat,c=k:=⟨c.toNat,by omega⟩;refine⟨hc.1,hc.2,?_⟩;rw[znn k (by omega)]at*;rw[if_neg hc0]at h0⊢;rw[Int.toNat_natCast]at*;by_cases h1:0<hd1 (lst t.a S.inn k)
 ·rw[if_pos h1]at h0⊢
  obtain⟨hi,hin⟩:=zpl h1;generalize hd1 (lst t.a S.inn k)-1=i at*;obtain⟨e1,e2,e3⟩:=zpj hin (by omega);obtain⟨x,F,hF⟩:=List.exists_cons_of_ne_nil e3;unfold popS;dsimp only;rw[hF,List.headD_cons,List.tail_cons];obtain⟨l1,l2,l3⟩:=zp6 (S:=S) (a:=t.a) (x:=x) (F':=F) hi (fun _=>rfl);rw[e1]at l1 l2 l3⊢;refine⟨l1,fun y m hy=>⟨l2 y m hy,?_⟩,l3⟩;rintro rfl;obtain⟨j,hj,hy,_⟩:=hy;have hxf:y∈S.fr i:=by rw[hF];simp
  obtain rfl:=hs.slab_eq hok hi hj (.inl hxf) (.inr hy);exact(List.nodup_append.1 ((hs.each i hi).nodup e2)).2.2 y hxf y hy rfl
 ·rw[if_neg h1]at h0⊢
  by_cases h2:0<hd1 (lst t.a S.inn 0)
  ·rw[if_pos h2]at h0⊢
   obtain⟨hi,hin⟩:=zpl h2;generalize hd1 (lst t.a S.inn 0)-1=i at*;have e0:=zpk hin;obtain⟨_,z2,_⟩:=(hs.each i hi).z e0;have hn:=(zmc k (by omega) (by omega)).2.2.2.1;obtain⟨N,hN⟩:∃N,nbk k=N+1:=⟨nbk k-1,by omega⟩
   have hl:(List.range (nbk k)).map (adrB (zdv t.a t.s) i k)=sla t i::((List.range N).map (fun q=>adrB (zdv t.a t.s) i k (q+1))):=by
    rw[hN,List.range_succ_eq_map];simp[adrB,sla]
   unfold popS zpe;dsimp only;have f1:(S.set i k ((List.range (nbk k)).map (adrB (zdv t.a t.s) i k)) []).fr i=(List.range (nbk k)).map (adrB (zdv t.a t.s) i k):=zf1 _ _ _;have f2:(S.set i k ((List.range (nbk k)).map (adrB (zdv t.a t.s) i k)) []).lv i= [] :=zf1 _ _ _;have f3:(S.set i k ((List.range (nbk k)).map (adrB (zdv t.a t.s) i k)) []).cls i=k:=zf1 _ _ _;rw[f1,f2,f3,hl,List.headD_cons,List.tail_cons]
   have f4:∀F,(S.set i k (sla t i::((List.range N).map (fun q=>adrB (zdv t.a t.s) i k (q+1)))) []).set i k F (insS (sla t i) [])=S.set i k F (insS (sla t i) (S.lv i)):=fun F=>by
    rw[zow,z2]
   rw[f4];obtain⟨l1,l2,l3⟩:=zp6 (S:=S) (a:=t.a) (x:=sla t i) (c':=k) (F':=(List.range N).map (fun q=>adrB (zdv t.a t.s) i k (q+1))) hi (fun h=>absurd z2 h);refine⟨l1,fun y m hy=>⟨l2 y m hy,?_⟩,l3⟩;rintro rfl;obtain⟨j,hj,hy,_⟩:=hy;have e1:=hs.each j hj;obtain⟨d1,d2,d3,_,d5,d6,_⟩:=e1.at_ hok hj (.inr hy);have c2:=(zmc (S.cls j) (by have:=e1.none (.inr hy);omega) e1.c9).2.1;by_cases e:i=j
   ·subst e
    rw[z2]at hy;cases hy
   ·have:=zpg t e
    omega
  ·rw[if_neg h2]at h0;cases h0
theorem zp9(a b:Nat)(S:SS)(c:Int)(h0:(zpf a b S c).2.1≠0):(zpf a b S c).2.2=S:=by
 unfold zpf at*;by_cases h1:cszZ c=0
 ·rw[if_pos h1]
 ·rw[if_neg h1]at h0⊢
  by_cases h2:0<hd1 (lst a S.inn c.toNat)
  ·rw[if_pos h2]at h0;exact absurd rfl h0
  ·rw[if_neg h2]at h0⊢
   by_cases h3:0<hd1 (lst a S.inn 0)
   ·rw[if_pos h3]at h0;exact absurd rfl h0
   ·rw[if_neg h3]
theorem zqa(hs:SlI t S)(hok:t.Ok){i:Nat}(hi:i<t.a)(hx:x∈S.fr i∨x∈S.lv i):blkS t.a (zdv t.a t.s) S x=(i,x,true):=by
 have e1:=hs.each i hi;have h0:=e1.none hx;obtain⟨k,hk,hxe⟩:=e1.mem h0 hx;obtain⟨c1,c2,c3,_,_,c6,c7⟩:=zmc (S.cls i) (by omega) e1.c9;have hke:csz (S.cls i)*k+csz (S.cls i)≤csz (S.cls i)*nbk (S.cls i):=by rw[←Nat.mul_succ];exact Nat.mul_le_mul_left _ hk
 have hX:x=zdv t.a t.s+1024*i+csz (S.cls i)*k:=hxe;have hd:(x-zdv t.a t.s)/1024=i:=by omega
 have hm:(x-zdv t.a t.s) %1024=csz (S.cls i)*k:=by omega
 unfold blkS;rw[if_pos (by constructor<;>omega),Int.toNat_natCast,hd,hm,if_neg (by rintro(h|h)<;>omega),Nat.mul_mod_right,Nat.sub_zero]
theorem zqb(hs:SlI t S)(hok:t.Ok)(h:Lv t.a S x n):∃S',zpx t.a (zdv t.a t.s) S x=(0,S')∧∀y m,Lv t.a S' y m↔Lv t.a S y m∧y≠x:=by
 have h':=h;obtain⟨i,hi,hx,rfl⟩:=h;have hb:=zqa hs hok hi (.inr hx);refine⟨gvS S i x,?_,fun y m=>⟨fun⟨j,hj,hy,hm⟩=> ?_,fun⟨⟨j,hj,hy,hm⟩,hne⟩=>⟨j,hj,?_⟩⟩⟩
 ·unfold zpx
  rw[hb];dsimp only;rw[if_pos ⟨rfl,rfl,hx⟩]
 ·have key:y∈S.lv j∧m=csz (S.cls j)∧(j=i→y≠x):=by
   unfold gvS at hy hm;by_cases hd:delS x (S.lv i)= []
   ·rw[if_pos hd]at hy hm
    replace hy:y∈up S.lv i [] j:=hy;replace hm:m=csz (up S.cls i 0 j):=hm;by_cases e:j=i
    ·subst e;rw[zf1]at hy;cases hy
    ·rw[zf2 _ _ e]at hy hm;exact⟨hy,hm,fun e'=>absurd e' e⟩
   ·rw[if_neg hd]at hy hm
    replace hy:y∈up S.lv i (delS x (S.lv i)) j:=hy;replace hm:m=csz (up S.cls i (S.cls i) j):=hm;by_cases e:j=i
    ·subst e;rw[zf1]at hy hm
     obtain⟨g1,g2⟩:=(zmv _ _ _).1 hy;exact⟨g1,hm,fun _=>g2⟩
    ·rw[zf2 _ _ e]at hy hm;exact⟨hy,hm,fun e'=>absurd e' e⟩
  obtain⟨k1,k2,k3⟩:=key;refine⟨⟨j,hj,k1,k2⟩,?_⟩;rintro rfl;exact k3 (hs.slab_eq hok hj hi (.inr k1) (.inr hx)) rfl
 ·unfold gvS
  by_cases hd:delS x (S.lv i)= []
  ·rw[if_pos hd]
   show y∈up S.lv i [] j∧m=csz (up S.cls i 0 j);by_cases e:j=i
   ·subst e
    have:y∈delS x (S.lv j):=(zmv _ _ _).2 ⟨hy,hne⟩;rw[hd]at this;cases this
   ·rw[zf2 _ _ e,zf2 _ _ e];exact⟨hy,hm⟩
  ·rw[if_neg hd]
   show y∈up S.lv i (delS x (S.lv i)) j∧m=csz (up S.cls i (S.cls i) j);by_cases e:j=i
   ·subst e
    rw[zf1,zf1];exact⟨(zmv _ _ _).2 ⟨hy,hne⟩,hm⟩
   ·rw[zf2 _ _ e,zf2 _ _ e];exact⟨hy,hm⟩
def SS.full(a:Nat)(S:SS):Prop:= ∀i,i<a→S.cls i≠0→S.lv i≠ []
theorem zqc{a i c:Nat}{F L:List Nat}(h:S.full a)(hc:c≠0→L≠ []):(S.set i c F L).full a:=fun j hj=>by
 show up S.cls i c j≠0→up S.lv i L j≠ [];by_cases e:j=i
 ·subst e;rw[zf1,zf1];exact hc
 ·rw[zf2 _ _ e,zf2 _ _ e];exact h j hj
theorem zqd(x:Nat)(l:List Nat):insS x l≠ [] :=fun e=>by have:=zmt x l;rw[e]at this;simp at this
theorem zqe{a b:Nat}(h:S.full a)(c:Int):(zpf a b S c).2.2.full a:=by
 unfold zpf;split
 ·exact h
 ·split
  ·exact zqc h (fun _=>zqd _ _)
  ·split
   ·unfold popS zpe
    dsimp only;intro j hj;show up (up S.cls _ _) _ _ j≠0→up (up S.lv _ _) _ _ j≠ [];by_cases e:j=hd1 (lst a S.inn 0)-1
    ·subst e;rw[zf1,zf1];exact fun _=>zqd _ _
    ·rw[zf2 _ _ e,zf2 _ _ e,zf2 _ _ e,zf2 _ _ e];exact h j hj
   ·exact h
theorem zqf{a b:Nat}(h:S.full a)(x:Int):(zpx a b S x).2.full a:=by
 unfold zpx;split
 ·unfold gvS
  split
  ·exact zqc h (fun h=>absurd rfl h)
  ·next hd=>exact zqc h (fun _=>hd)
 ·exact h
theorem zqg{a:Nat}(h:S.full a)(hn:∀x n,¬Lv a S x n):∀i,i<a→S.cls i=0:=fun i hi=>by
 by_cases h0:S.cls i=0
 ·exact h0
 ·obtain⟨x,L,e⟩:=List.exists_cons_of_ne_nil (h i hi h0)
  exact absurd ⟨i,hi,by rw[e];simp,rfl⟩ (hn x (csz (S.cls i)))
theorem zqh{a:Nat}(h:∀i,i<a→S.cls i=0):(lst a S.inn 0).length=a:=by
 unfold lst
 rw[List.filter_eq_self.2 (fun k hk=>by
  have:=h k (List.mem_range.1 hk);simp[SS.inn,this])]
 simp
end
section
end
def Rw(W:World)(base:Nat)(v:Value)(L:List Nat):Prop:=W.ownsRow base 3 1 v L.length (intC L)
def Dj(v v':Value):Prop:= ∀g,v.ownBlock=some g→v'.ownBlock≠some g
theorem Rw.fr{W W':World}{base:Nat}{v:Value}{L S:List Nat}(h:Rw W base v L)(hf:Fr S W W')(hS:∀k∈S,v.ownBlock≠some k):Rw W' base v L:=by
 obtain⟨h1,⟨h2,h3⟩|⟨g,cap,cur,rfl,hb,hg,r1,r2,r3,r4⟩⟩:=h
 ·exact⟨h1,.inl ⟨h2,h3⟩⟩
 ·exact⟨h1,.inr ⟨g,cap,cur,rfl,hb,(hf.block g (Array.getElem?_eq_some_iff.1 hg).1 (fun hm=>hS g hm rfl)).trans hg,r1,r2,r3,r4⟩⟩
theorem Rw.fr0{W W':World}{base:Nat}{v:Value}{L:List Nat}(h:Rw W base v L)(hf:Fr [] W W'):Rw W' base v L:=h.fr hf (by simp)
structure R3(base:Nat)(v1 v2 v3:Value)(T:List (Nat×Nat×Nat))(W:World):Prop where
 a:Rw W base v1 (T.map (·.1))
 s:Rw W base v2 (T.map (·.2.1))
 m:Rw W base v3 (T.map (·.2.2))
 d12:Dj v1 v2
 d13:Dj v1 v3
 d23:Dj v2 v3
theorem Rw.nil(W:World)(base:Nat):Rw W base (.slice none 0 0) [] :=⟨rfl,.inl ⟨rfl,rfl⟩⟩
section
end
end Go.Proofs.YtghllbkjghnmhaaGreatDoor
