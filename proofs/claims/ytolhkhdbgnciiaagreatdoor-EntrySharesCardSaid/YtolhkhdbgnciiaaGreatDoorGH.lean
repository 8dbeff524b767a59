/- Several texts in one. -/
import Derived.Test.YtolhkhdbgnciiaaGreatDoorGG
import Derived.Test.YtolhkhdbgnciiaaGreatDoorGD
import Derived.Test.YtolhkhdbgnciiaaGreatDoorKT
namespace Go.Proofs.YtolhkhdbgnciiaaGreatDoor
open _root_.Go.Proofs.Tryz
open Go.Lib (hid)
open Go.IntWalk (i64_in)
set_option linter.unusedVariables false
set_option linter.unusedSimpArgs false
open Go.RowKit
set_option maxRecDepth 100000
set_option maxHeartbeats 4000000
def csz(c:Nat):Nat:=if c=1 then 32 else if c=2 then 48 else if c=3 then 64 else if c=4 then 96 else if c=5 then 128 else if c=6 then 192 else if c=7 then 256 else if c=8 then 384 else if c=9 then 512 else 0
def nbk(c:Nat):Nat:=if csz c=0 then 0 else 1024/csz c
def cpad(c:Nat):Nat:=if csz c=0 then 0 else 1024 %csz c
theorem zai(c:Nat)(h1:1≤c)(h9:c≤9):csz c %16=0∧32≤csz c∧csz c≤512∧2≤nbk c∧nbk c≤32∧csz c*nbk c+cpad c=1024∧cpad c %16=0:=by
 have:∀c,c<10→1≤c→csz c %16=0∧32≤csz c∧csz c≤512∧2≤nbk c∧nbk c≤32∧csz c*nbk c+cpad c=1024∧cpad c %16=0:=by decide
 exact this c (by omega) h1
def sla(t:TM)(i:Nat):Nat:=zab t.a t.s+1024*i
theorem zbc{t:TM}(h:t.Ok)(i:Nat)(hi:i<t.a):zab t.a t.s≤sla t i∧sla t i+1024≤zae t.a t.s∧sla t i %16=0∧240≤sla t i∧zae t.a t.s≤1048576:=by
 obtain⟨a1,a2,s1,s2,s3⟩:=h.cfg;unfold sla zae zab;omega
def KdOn(t:TM)(x n k:Nat):Prop:= ∀g,x/4≤g→g<(x+n)/4→zan t g=k
def ByOn(t:TM)(x n:Nat)(f:Nat→Nat):Prop:= ∀j,j<n→zah t (x+j)=f j
structure Out(t u:TM)(x n:Nat):Prop where
 by_: ∀i,zab t.a t.s≤i→(i<x∨x+n≤i)→zah u i=zah t i
 kd_: ∀g,zab t.a t.s≤4*g→(g<x/4∨(x+n)/4≤g)→zan u g=zan t g
theorem Out.refl(t:TM)(x n:Nat):Out t t x n:=⟨fun _ _ _=>rfl,fun _ _ _=>rfl⟩
theorem Out.trans{t u v:TM}{x n:Nat}(h:Out t u x n)(k:Out u v x n)(ha:u.a=t.a)(hs:u.s=t.s):Out t v x n:=
 ⟨fun i h1 h2=>(k.by_ i (by rw[ha,hs];exact h1) h2).trans (h.by_ i h1 h2),fun g h1 h2=>(k.kd_ g (by rw[ha,hs];exact h1) h2).trans (h.kd_ g h1 h2)⟩
theorem Out.wide{t u:TM}{x n y m:Nat}(h:Out t u x n)(h1:y≤x)(h2:x+n≤y+m):Out t u y m:=
 ⟨fun i hi hn=>h.by_ i hi (by omega),fun g hg hn=>h.kd_ g hg (by omega)⟩
theorem KdOn.out{t u:TM}{x n k y m:Nat}(h:KdOn t y m k)(o:Out t u x n)(hb:zab t.a t.s≤y)(hd:y+m≤x∨x+n≤y)(h4:y %4=0):KdOn u y m k:=fun g h1 h2=>by
 rw[o.kd_ g (by omega) (by omega)];exact h g h1 h2
theorem ByOn.out{t u:TM}{x n y m:Nat}{f:Nat→Nat}(h:ByOn t y m f)(o:Out t u x n)(hb:zab t.a t.s≤y)(hd:y+m≤x∨x+n≤y):ByOn u y m f:=fun j hj=>by
 rw[o.by_ (y+j) (by omega) (by omega)];exact h j hj
theorem zay{t:TM}(h:t.Ok)(x k v:Nat)(hx:zab t.a t.s≤x):Out t (t.setB x k v) x k:=
 ⟨fun i _ hn=>by rw[zaq h x k v hx,if_neg (by omega)],fun _ _ _=>rfl⟩
theorem zdn{t:TM}(h:t.Ok)(x n k:Nat)(hk:k≤8)(hx:zab t.a t.s≤x):Out t (t.setK x n k) x n:=
 ⟨fun i _ _=>zcm t x n k i,fun g _ hn=>by rw[zbk h x n k hk hx,if_neg (by omega)]⟩
theorem zgz{t:TM}(h:t.Ok)(x n k:Nat)(hk:k≤8)(hx:zab t.a t.s≤x):KdOn (t.setK x n k) x n k:=fun g h1 h2=>by
 rw[zbk h x n k hk hx,if_pos ⟨h1,h2⟩]
theorem zmu{t:TM}(h:t.Ok)(x n:Nat)(hx:zab t.a t.s≤x):ByOn (t.setB x n 0) x n (fun _=>0):=fun j hj=>by
 rw[zaq h x n 0 hx,if_pos (by omega),nb_0]
theorem Lis.out{t u:TM}(h:Lis t u)(hk:t.Ok)(hu:u.Ok)(x n:Nat):Out t u x n:=by
 refine⟨fun i hi _=> ?_,fun g hg _=> ?_⟩
 ·rw[zam t i hi hk,zam u i (by rw[h.a,h.s];exact hi) hu,h.a,h.s,h.bt]
 ·rw[zb0 t g hg hk,zb0 u g (by rw[h.a,h.s];exact hg) hu,h.a,h.s,h.kd]
theorem zfu{t:TM}(h:t.Ok)(i p v:Nat)(hv:v<256^hdW p)(x n:Nat):Out t (t.setHd i p v) x n:=by
 refine⟨fun j hj _=> ?_,fun g hg _=>rfl⟩;rw[zam t j hj h,zam (t.setHd i p v) j hj (zcf h i p v hv)];rfl
theorem zcu{t:TM}(h:t.Ok)(f v:Nat)(hv:v<256^fldW f)(x n:Nat):Out t (t.setRt f v) x n:=by
 refine⟨fun j hj _=> ?_,fun g hg _=>rfl⟩;rw[zam t j hj h,zam (t.setRt f v) j hj (za5 h f v hv)];rfl
def adr(t:TM)(i c k:Nat):Nat:=sla t i+csz c*k
theorem zs8{t:TM}(h:t.Ok){i c k:Nat}(hi:i<t.a)(hc:1≤c∧c≤9)(hk:k<nbk c):sla t i≤adr t i c k∧adr t i c k+csz c≤sla t i+csz c*nbk c∧adr t i c k %16=0:=by
 obtain⟨h1,h2,h3,h4,h5,h6,h7⟩:=zai c hc.1 hc.2;obtain⟨b1,b2,b3,b4,b5⟩:=zbc h i hi;have:csz c*k+csz c≤csz c*nbk c:=by rw[←Nat.mul_succ];exact Nat.mul_le_mul_left _ hk
 refine⟨Nat.le_add_right _ _,by unfold adr;omega,?_⟩;unfold adr;obtain⟨d,hd⟩:∃d,csz c=16*d:=⟨csz c/16,by omega⟩;rw[hd,Nat.mul_assoc];omega
theorem zih{t:TM}{i c k m:Nat}(h:k≠m):adr t i c k+csz c≤adr t i c m∨adr t i c m+csz c≤adr t i c k:=by
 unfold adr;rcases Nat.lt_or_gt_of_ne h with h|h
 ·have:csz c*k+csz c≤csz c*m:=by rw[←Nat.mul_succ];exact Nat.mul_le_mul_left _ h
  omega
 ·have:csz c*m+csz c≤csz c*k:=by rw[←Nat.mul_succ];exact Nat.mul_le_mul_left _ h
  omega
theorem zvh{t:TM}{i c k m:Nat}(hc:1≤c∧c≤9)(h:adr t i c k=adr t i c m):k=m:=by
 obtain⟨h1,h2,_⟩:=zai c hc.1 hc.2;rcases Nat.decEq k m with e|e
 ·rcases zih (t:=t) (i:=i) (c:=c) e with h|h<;>omega
 ·exact e
def lnkB(n j:Nat):Nat:=if 4≤j∧j<8 then nb n (j-4)else 0
def FrL(t:TM)(s:Nat):List Nat→Prop
 | [] =>True
 |x::l=>KdOn t x s 6∧ByOn t x s (lnkB (l.headD 0))∧FrL t s l
theorem FrL.out{t u:TM}{s x n:Nat}(o:Out t u x n):∀{l:List Nat},FrL t s l→(∀y∈l,zab t.a t.s≤y∧y %4=0∧(y+s≤x∨x+n≤y))→FrL u s l
 | [],_,_=>trivial
 |y::l,⟨h1,h2,h3⟩,hd=>by
  obtain⟨d1,d2,d3⟩:=hd y (by simp);exact⟨h1.out o d1 d3 d2,h2.out o d1 d3,h3.out o (fun z hz=>hd z (by simp[hz]))⟩
theorem FrL.kd{t:TM}{s:Nat}:∀{l:List Nat},FrL t s l→∀x∈l,KdOn t x s 6
 |y::l,⟨h1,_,h3⟩,x,hx=>by
  rcases List.mem_cons.1 hx with rfl|hx
  ·exact h1
  ·exact h3.kd x hx
structure Sl1(t:TM)(i c:Nat)(F L:List Nat):Prop where
 h0:t.hd i 0=c
 h1:t.hd i 1=L.length
 h2:t.hd i 2=F.headD 0
 c9:c≤9
 z:c=0→F= [] ∧L= [] ∧KdOn t (sla t i) 1024 7∧ByOn t (sla t i) 1024 (fun _=>0)
 perm:c≠0→(F++L).Perm ((List.range (nbk c)).map (adr t i c))
 so:L.Pairwise (· < ·)
 live: ∀x∈L,KdOn t x (csz c) 5
 free:FrL t (csz c) F
 pk:c≠0→KdOn t (sla t i+csz c*nbk c) (cpad c) 8
 pb:c≠0→ByOn t (sla t i+csz c*nbk c) (cpad c) (fun _=>0)
section
variable {t u : TM} {i c : Nat} {F L : List Nat}
theorem zm5(t:TM)(i:Nat){c:Nat}(hc:1≤c∧c≤9)(n:Nat):((List.range n).map (adr t i c)).Nodup:=by
 refine List.pairwise_map.2 ((List.nodup_range (n:=n)).imp (fun{a b} h e=>h (zvh hc e)))
theorem Sl1.nodup(h:Sl1 t i c F L)(h0:c≠0):(F++L).Nodup:=(h.perm h0).nodup_iff.2 (zm5 t i ⟨by omega,h.c9⟩ _)
theorem Sl1.mem(h:Sl1 t i c F L)(h0:c≠0){x:Nat}(hx:x∈F∨x∈L):∃k,k<nbk c∧x=adr t i c k:=by
 have:=(h.perm h0).mem_iff.1 (List.mem_append.2 hx);obtain⟨k,hk,e⟩:=List.mem_map.1 this;exact⟨k,List.mem_range.1 hk,e.symm⟩
theorem Sl1.mem'(h:Sl1 t i c F L)(h0:c≠0){k:Nat}(hk:k<nbk c):adr t i c k∈F∨adr t i c k∈L:=
 List.mem_append.1 ((h.perm h0).mem_iff.2 (List.mem_map.2 ⟨k,List.mem_range.2 hk,rfl⟩))
theorem Sl1.len(h:Sl1 t i c F L)(h0:c≠0):F.length+L.length=nbk c:=by
 have:=(h.perm h0).length_eq;simpa using this
theorem Sl1.none(h:Sl1 t i c F L){x:Nat}(hx:x∈F∨x∈L):c≠0:=fun e=>by
 obtain⟨rfl,rfl,_⟩:=h.z e;simp at hx
theorem Sl1.at_(h:Sl1 t i c F L)(hok:t.Ok)(hi:i<t.a){x:Nat}(hx:x∈F∨x∈L):sla t i≤x∧x+csz c≤sla t i+csz c*nbk c∧x %16=0∧zab t.a t.s≤x∧x+csz c≤sla t i+1024∧x+csz c≤zae t.a t.s∧240≤x:=by
 have h0:=h.none hx;obtain⟨k,hk,rfl⟩:=h.mem h0 hx;have hc9:=h.c9;obtain⟨a1,a2,a3⟩:=zs8 hok hi (c:=c) ⟨by omega,hc9⟩ hk;obtain⟨b1,b2,b3,b4,b5⟩:=zbc hok i hi;obtain⟨c1,c2,c3,c4,c5,c6,c7⟩:=zai c (by omega) hc9;exact⟨a1,a2,a3,by omega,by omega,by omega,by omega⟩
theorem Sl1.apart(h:Sl1 t i c F L){x y:Nat}(hx:x∈F∨x∈L)(hy:y∈F∨y∈L)(hne:x≠y):x+csz c≤y∨y+csz c≤x:=by
 have h0:=h.none hx;obtain⟨k,hk,rfl⟩:=h.mem h0 hx;obtain⟨m,hm,rfl⟩:=h.mem h0 hy;exact zih (fun e=>hne (by rw[e]))
theorem zbl(ha:u.a=t.a)(hs:u.s=t.s)(i:Nat):sla u i=sla t i:=by unfold sla;rw[ha,hs]
theorem zie(ha:u.a=t.a)(hs:u.s=t.s)(i c k:Nat):adr u i c k=adr t i c k:=by unfold adr;rw[zbl ha hs]
theorem Sl1.other(h:Sl1 t i c F L)(hok:t.Ok)(hi:i<t.a)(ha:u.a=t.a)(hs:u.s=t.s)(hh:∀r,r<3→u.hd i r=t.hd i r){x n:Nat}(o:Out t u x n)(hd:sla t i+1024≤x∨x+n≤sla t i):Sl1 u i c F L:=by
 obtain⟨b1,b2,b3,b4,b5⟩:=zbc hok i hi;have hc9:=h.c9;refine⟨(hh 0 (by decide)).trans h.h0,(hh 1 (by decide)).trans h.h1,(hh 2 (by decide)).trans h.h2,h.c9,fun h0=> ?_,fun h0=> ?_,h.so,fun x hx=> ?_,?_,fun h0=> ?_,fun h0=> ?_⟩
 ·obtain⟨z1,z2,z3,z4⟩:=h.z h0
  rw[zbl ha hs];exact⟨z1,z2,z3.out o b1 (by omega) (by omega),z4.out o b1 (by omega)⟩
 ·have:=h.perm h0
  rwa[show adr u i c=adr t i c from funext fun k=>zie ha hs i c k]
 ·obtain⟨a1,a2,a3,a4,a5,a6,a7⟩:=h.at_ hok hi (.inr hx)
  exact(h.live x hx).out o a4 (by omega) (by omega)
 ·refine h.free.out o (fun y hy=> ?_)
  obtain⟨a1,a2,a3,a4,a5,a6,a7⟩:=h.at_ hok hi (.inl hy);exact⟨a4,by omega,by omega⟩
 ·obtain⟨c1,c2,c3,c4,c5,c6,c7⟩:=zai c (by omega) hc9
  have:csz c*nbk c %16=0:=by omega
  rw[zbl ha hs];exact(h.pk h0).out o (by omega) (by omega) (by omega)
 ·obtain⟨c1,c2,c3,c4,c5,c6,c7⟩:=zai c (by omega) hc9
  rw[zbl ha hs];exact(h.pb h0).out o (by omega) (by omega)
end
structure SS where
 cls:Nat→Nat
 fr:Nat→List Nat
 lv:Nat→List Nat
def SS.inn(S:SS)(i:Nat):Int:=if S.cls i=0 then 0 else if S.fr i= []then-1 else S.cls i
def SS.set(S:SS)(i c:Nat)(F L:List Nat):SS:=⟨up S.cls i c,up S.fr i F,up S.lv i L⟩
structure SlI(t:TM)(S:SS):Prop where
 ls:LS t S.inn
 each: ∀i,i<t.a→Sl1 t i (S.cls i) (S.fr i) (S.lv i)
theorem SlI.upd{t u:TM}{S:SS}(h:SlI t S)(hok:t.Ok){i c:Nat}{F L:List Nat}(hi:i<t.a)(ha:u.a=t.a)(hs:u.s=t.s)(hl:LS u (S.set i c F L).inn)(o:Out t u (sla t i) 1024)(hh:∀j r,j≠i→r<3→u.hd j r=t.hd j r)(h1:Sl1 u i c F L):SlI u (S.set i c F L):=by
 refine⟨hl,fun j hj=> ?_⟩;by_cases e:j=i
 ·subst e
  unfold SS.set;dsimp only;rw[zaa,zaa,zaa];exact h1
 ·rw[ha]at hj
  unfold SS.set;dsimp only;rw[zac _ _ e,zac _ _ e,zac _ _ e];refine(h.each j hj).other hok hj ha hs (fun r hr=>hh j r e hr) o ?_;unfold sla;omega
theorem zg0(S:SS)(i c:Nat)(F L:List Nat):(S.set i c F L).inn=up S.inn i (if c=0 then 0 else if F= []then-1 else(c:Int)):=by
 funext j;unfold SS.inn SS.set;dsimp only;by_cases e:j=i
 ·subst e;simp only[zaa]
 ·simp only[zac _ _ e]
def insS(x:Nat):List Nat→List Nat
 | [] => [x]
 |y::l=>if x<y then x::y::l else y::insS x l
theorem zdw(x:Nat):∀l:List Nat,(insS x l).Perm (x::l)
 | [] =>List.Perm.refl _
 |y::l=>by
  unfold insS;split
  ·exact List.Perm.refl _
  ·exact((zdw x l).cons y).trans (List.Perm.swap x y l)
theorem zdv(x:Nat)(l:List Nat)(y:Nat):y∈insS x l↔y=x∨y∈l:=by rw[(zdw x l).mem_iff,List.mem_cons]
theorem zkz(x:Nat)(l:List Nat):(insS x l).length=l.length+1:=by rw[(zdw x l).length_eq,List.length_cons]
theorem zmx(x:Nat):∀{l:List Nat},l.Pairwise (·<·)→x∉l→(insS x l).Pairwise (·<·)
 | [],_,_=>by simp[insS]
 |y::l,h,hx=>by
  obtain⟨h1,h2⟩:=List.pairwise_cons.1 h;unfold insS;split
  ·next hlt=>
   refine List.pairwise_cons.2 ⟨fun z hz=> ?_,h⟩;rcases List.mem_cons.1 hz with rfl|hz
   ·exact hlt
   ·have:=h1 z hz;omega
  ·next hlt=>
   have hne:x≠y:=fun e=>hx (by simp[e]);refine List.pairwise_cons.2 ⟨fun z hz=> ?_,zmx x h2 (fun hm=>hx (by simp[hm]))⟩;rcases(zdv x l z).1 hz with rfl|hz
   ·omega
   ·exact h1 z hz
def delS(x:Nat)(l:List Nat):List Nat:=l.filter fun y=>y !=x
theorem zdr(x y:Nat)(l:List Nat):y∈delS x l↔y∈l∧y≠x:=by simp[delS]
theorem zuf{x:Nat}{l:List Nat}(h:l.Pairwise (·<·)):(delS x l).Pairwise (·<·):=h.filter _
theorem zqq{x:Nat}{l:List Nat}(h:x∉l):delS x l=l:=List.filter_eq_self.2 (fun y hy=>by simp;rintro rfl;exact h hy)
theorem zfs{x:Nat}:∀{l:List Nat},l.Nodup→x∈l→(x::delS x l).Perm l
 |y::l,h,hx=>by
  obtain⟨h1,h2⟩:=List.nodup_cons.1 h;by_cases e:y=x
  ·subst e
   have:delS y (y::l)=l:=by
    unfold delS;rw[List.filter_cons_of_neg (by simp)];exact zqq h1
   rw[this]
  ·have hx':x∈l:=(List.mem_cons.1 hx).resolve_left (fun k=>e k.symm)
   have:delS x (y::l)=y::delS x l:=by unfold delS;rw[List.filter_cons_of_pos (by simpa using e)]
   rw[this];exact(List.Perm.swap y x _).trans ((zfs h2 hx').cons y)
theorem zkq{x:Nat}{l:List Nat}(h:l.Nodup)(hx:x∈l):(delS x l).length+1=l.length:=by
 rw[←(zfs h hx).length_eq,List.length_cons]
theorem zgr{l:List Nat}(h:l.Pairwise (·<·)):l.Nodup:=h.imp (fun h=>Nat.ne_of_lt h)
section
variable {t u : TM} {i c x : Nat} {F L : List Nat}
structure Hd1(t u:TM)(i c n f:Nat):Prop where
 a:u.a=t.a
 s:u.s=t.s
 h0:u.hd i 0=c
 h1:u.hd i 1=n
 h2:u.hd i 2=f
theorem Sl1.pop(h:Sl1 t i c (x::F) L)(hok:t.Ok)(hi:i<t.a)(hh:Hd1 t u i c (L.length+1) (F.headD 0))(o:Out t u x (csz c))(hk:KdOn u x (csz c) 5):Sl1 u i c F (insS x L):=by
 have h0:=h.none (x:=x) (.inl (by simp));have hnd:=h.nodup h0;have hxF:x∉F:=by rw[List.cons_append]at hnd;exact fun hm=>(List.nodup_cons.1 hnd).1 (by simp[hm])
 have hxL:x∉L:=by rw[List.cons_append]at hnd;exact fun hm=>(List.nodup_cons.1 hnd).1 (by simp[hm])
 obtain⟨p1,p2,p3,p4,p5,p6,p7⟩:=h.at_ hok hi (x:=x) (.inl (by simp));have hc9:=h.c9;obtain⟨b1,b2,b3,b4,b5⟩:=zbc hok i hi;obtain⟨c1,c2,c3,c4,c5,c6,c7⟩:=zai c (by omega) hc9;refine⟨hh.h0,hh.h1.trans (zkz x L).symm,hh.h2,h.c9,fun e=>absurd e h0,fun _=> ?_,zmx x h.so hxL,fun y hy=> ?_,?_,fun _=> ?_,fun _=> ?_⟩
 ·rw[show adr u i c=adr t i c from funext fun k=>zie hh.a hh.s i c k]
  refine List.Perm.trans ?_ (h.perm h0);refine((zdw x L).append_left F).trans ?_;exact List.perm_middle
 ·rcases(zdv x L y).1 hy with rfl|hy
  ·exact hk
  ·obtain⟨q1,q2,q3,q4,q5,q6,q7⟩:=h.at_ hok hi (x:=y) (.inr hy)
   have:=h.apart (x:=x) (y:=y) (.inl (by simp)) (.inr hy) (fun e=>hxL (e▸hy));exact(h.live y hy).out o q4 (by omega) (by omega)
 ·refine h.free.2.2.out o (fun y hy=> ?_)
  obtain⟨q1,q2,q3,q4,q5,q6,q7⟩:=h.at_ hok hi (x:=y) (.inl (by simp[hy]));have:=h.apart (x:=x) (y:=y) (.inl (by simp)) (.inl (by simp[hy])) (fun e=>hxF (e▸hy));exact⟨q4,by omega,by omega⟩
 ·rw[zbl hh.a hh.s]
  exact(h.pk h0).out o (by omega) (by omega) (by omega)
 ·rw[zbl hh.a hh.s]
  exact(h.pb h0).out o (by omega) (by omega)
theorem Sl1.give(h:Sl1 t i c F L)(hok:t.Ok)(hi:i<t.a)(hx:x∈L)(hh:Hd1 t u i c (L.length-1) x)(o:Out t u x (csz c))(hk:KdOn u x (csz c) 6)(hb:ByOn u x (csz c) (lnkB (F.headD 0))):Sl1 u i c (x::F) (delS x L):=by
 have h0:=h.none (x:=x) (.inr hx);have hnd:=h.nodup h0;have hxF:x∉F:=fun hm=>(List.nodup_append.1 hnd).2.2 x hm x hx rfl;obtain⟨p1,p2,p3,p4,p5,p6,p7⟩:=h.at_ hok hi (x:=x) (.inr hx);have hc9:=h.c9;obtain⟨b1,b2,b3,b4,b5⟩:=zbc hok i hi;obtain⟨c1,c2,c3,c4,c5,c6,c7⟩:=zai c (by omega) hc9;have hlen:=zkq (zgr h.so) hx;refine⟨hh.h0,by rw[hh.h1];omega,hh.h2,h.c9,fun e=>absurd e h0,fun _=> ?_,zuf h.so,fun y hy=> ?_,⟨hk,hb,?_⟩,fun _=> ?_,fun _=> ?_⟩
 ·rw[show adr u i c=adr t i c from funext fun k=>zie hh.a hh.s i c k]
  refine List.Perm.trans ?_ (h.perm h0);refine List.Perm.trans ?_ ((zfs (zgr h.so) hx).append_left F);exact List.perm_middle.symm
 ·obtain⟨hy,hne⟩:=(zdr x y L).1 hy
  obtain⟨q1,q2,q3,q4,q5,q6,q7⟩:=h.at_ hok hi (x:=y) (.inr hy);have:=h.apart (x:=x) (y:=y) (.inr hx) (.inr hy) (fun e=>hne e.symm);exact(h.live y hy).out o q4 (by omega) (by omega)
 ·refine h.free.out o (fun y hy=> ?_)
  obtain⟨q1,q2,q3,q4,q5,q6,q7⟩:=h.at_ hok hi (x:=y) (.inl hy);have:=h.apart (x:=x) (y:=y) (.inr hx) (.inl hy) (fun e=>hxF (e▸hy));exact⟨q4,by omega,by omega⟩
 ·rw[zbl hh.a hh.s]
  exact(h.pk h0).out o (by omega) (by omega) (by omega)
 ·rw[zbl hh.a hh.s]
  exact(h.pb h0).out o (by omega) (by omega)
theorem Sl1.carved(hc:1≤c∧c≤9)(hh:Hd1 t u i c 0 (sla t i))(hf:FrL u (csz c) ((List.range (nbk c)).map (adr t i c)))(hk:KdOn u (sla t i+csz c*nbk c) (cpad c) 8)(hb:ByOn u (sla t i+csz c*nbk c) (cpad c) (fun _=>0)):Sl1 u i c ((List.range (nbk c)).map (adr t i c)) [] :=by
 have hn:=(zai c hc.1 hc.2).2.2.2.1
 have hd:((List.range (nbk c)).map (adr t i c)).headD 0=sla t i:=by
  obtain⟨m,hm⟩:∃m,nbk c=m+1:=⟨nbk c-1,by omega⟩;rw[hm,List.range_succ_eq_map];simp[adr]
 refine⟨hh.h0,hh.h1,by rw[hh.h2,hd],hc.2,fun e=>by omega,fun _=> ?_,List.Pairwise.nil,fun x hx=>by simp at hx,hf,fun _=> ?_,fun _=> ?_⟩
 ·rw[show adr u i c=adr t i c from funext fun k=>zie hh.a hh.s i c k,List.append_nil]
 ·rw[zbl hh.a hh.s];exact hk
 ·rw[zbl hh.a hh.s];exact hb
theorem Sl1.melted(hh:Hd1 t u i 0 0 0)(hk:KdOn u (sla t i) 1024 7)(hb:ByOn u (sla t i) 1024 (fun _=>0)):Sl1 u i 0 [] [] :=
 ⟨hh.h0,hh.h1,hh.h2,by decide,fun _=>⟨rfl,rfl,by rw[zbl hh.a hh.s];exact hk,by rw[zbl hh.a hh.s];exact hb⟩,fun e=>absurd rfl e,List.Pairwise.nil,fun x hx=>by simp at hx,trivial,fun e=>absurd rfl e,fun e=>absurd rfl e⟩
end
def HB.lnk(n:Nat):HB:={HB.zero with name:=n}
theorem zz8(n:Nat)(h:n<4294967296):(HB.lnk n).Ok:=by
 constructor<;>simp[HB.lnk,HB.zero,h]
def lkN(n f:Nat):Nat:=if f=4 then n else 0
theorem zuk(n f:Nat)(hf:f<12):(HB.lnk n).num f=lkN n f:=by
 have:f=0∨f=1∨f=2∨f=3∨f=4∨f=5∨f=6∨f=7∨f=8∨f=9∨f=10∨f=11:=by omega
 rcases this with rfl|rfl|rfl|rfl|rfl|rfl|rfl|rfl|rfl|rfl|rfl|rfl<;>rfl
theorem wh0:wh 0 0=(0,1)∧wh 0 1=(1,1)∧wh 0 2=(2,1)∧wh 0 3=(3,1)∧wh 0 4=(4,4)∧(∀f,f<12→5≤f→(wh 0 f).2=0):=by decide
theorem zxq(n f:Nat)(h:n<4294967296)(hf:f<12)(h0:(wh 0 f).2≠0):lkN n f<256^(wh 0 f).2:=by
 obtain⟨w0,w1,w2,w3,w4,w5⟩:=wh0
 have:f=0∨f=1∨f=2∨f=3∨f=4:=by
  rcases Nat.lt_or_ge f 5 with k|k
  ·omega
  ·exact absurd (w5 f hf k) h0
 rcases this with rfl|rfl|rfl|rfl|rfl
 ·rw[w0];show 0<_;decide
 ·rw[w1];show 0<_;decide
 ·rw[w2];show 0<_;decide
 ·rw[w3];show 0<_;decide
 ·rw[w4];exact h
theorem zyh(n f j:Nat)(hf:f<12)(h0:(wh 0 f).2≠0)(hj:j<(wh 0 f).2):(wh 0 f).1+j<8∧lnkB n ((wh 0 f).1+j)=nb (lkN n f) j:=by
 obtain⟨w0,w1,w2,w3,w4,w5⟩:=wh0
 have:f=0∨f=1∨f=2∨f=3∨f=4:=by
  rcases Nat.lt_or_ge f 5 with k|k
  ·omega
  ·exact absurd (w5 f hf k) h0
 unfold lnkB;rcases this with rfl|rfl|rfl|rfl|rfl
 ·rw[w0]at hj⊢;dsimp only at*;rw[if_neg (by omega)];exact⟨by omega,(nb_0 j).symm⟩
 ·rw[w1]at hj⊢;dsimp only at*;rw[if_neg (by omega)];exact⟨by omega,(nb_0 j).symm⟩
 ·rw[w2]at hj⊢;dsimp only at*;rw[if_neg (by omega)];exact⟨by omega,(nb_0 j).symm⟩
 ·rw[w3]at hj⊢;dsimp only at*;rw[if_neg (by omega)];exact⟨by omega,(nb_0 j).symm⟩
 ·rw[w4]at hj⊢;dsimp only at*;rw[if_pos (by omega),Nat.add_sub_cancel_left];exact⟨by omega,rfl⟩
theorem zgc{t:TM}{x s:Nat}(hk:KdOn t x s 6)(hs:8≤s)(hx:x %8=0)(hb:zab t.a t.s≤x)(hl:x+s≤zae t.a t.s)(n:Nat→Nat):HeadTo t x 0 6 n 0:=
 ⟨by decide,hb,hx,by show x+8≤_;omega,by decide,fun g h1 h2=>hk g h1 (by rw[show sz 0=8 from rfl]at h2;omega),fun f hf=>by omega,fun f hf=>by omega⟩
theorem zo0{t:TM}{x s n:Nat}(hk:KdOn t x s 6)(hy:ByOn t x s (lnkB n))(hs:8≤s)(hx:x %8=0)(hb:zab t.a t.s≤x)(hl:x+s≤zae t.a t.s)(hn:n<4294967296):HeadTo t x 0 6 (lkN n) 12:=
 ⟨by decide,hb,hx,by show x+8≤_;omega,by decide,fun g h1 h2=>hk g h1 (by rw[show sz 0=8 from rfl]at h2;omega),fun f hf h0 j hj=>by
  obtain⟨h1,h2⟩:=zyh n f j hf h0 hj;rw[Nat.add_assoc,hy _ (by omega),h2],fun f hf h0=>zxq n f hn hf h0⟩
theorem znn(t:TM)(x n:Nat):t.putH x 0 (HB.lnk n).num 12=((((t.setB x 1 0).setB (x+1) 1 0).setB (x+2) 1 0).setB (x+3) 1 0).setB (x+4) 4 n:=by
 obtain⟨w0,w1,w2,w3,w4,w5⟩:=wh0
 have hz:∀k,5≤k→k<12→t.putH x 0 (HB.lnk n).num (k+1)=t.putH x 0 (HB.lnk n).num k:=fun k h1 h2=>by
  rw[TM.putH,if_pos (w5 k h2 h1)]
 rw[hz 11 (by decide) (by decide),hz 10 (by decide) (by decide),hz 9 (by decide) (by decide),hz 8 (by decide) (by decide),hz 7 (by decide) (by decide),hz 6 (by decide) (by decide),hz 5 (by decide) (by decide)];rw[TM.putH,if_neg (by rw[w4];decide),TM.putH,if_neg (by rw[w3];decide),TM.putH,if_neg (by rw[w2];decide),TM.putH,if_neg (by rw[w1];decide),TM.putH,if_neg (by rw[w0];decide),TM.putH,w0,w1,w2,w3,w4];rfl
def TM.push(t:TM)(x n:Nat):TM:=((((t.setB x 1 0).setB (x+1) 1 0).setB (x+2) 1 0).setB (x+3) 1 0).setB (x+4) 4 n
theorem zpw{t:TM}(h:t.Ok)(x n:Nat):(t.push x n).Ok:=zal (zal (zal (zal (zal h _ _ _) _ _ _) _ _ _) _ _ _) _ _ _
theorem zgp{t:TM}(h:t.Ok)(x n:Nat)(hx:zab t.a t.s≤x):Out t (t.push x n) x 8:=by
 have h1:=zal h x 1 0;have h2:=zal h1 (x+1) 1 0;have h3:=zal h2 (x+2) 1 0;have h4:=zal h3 (x+3) 1 0;exact(((((zay h x 1 0 hx).wide (y:=x) (m:=8) (by omega) (by omega)).trans ((zay h1 (x+1) 1 0 (show zab t.a t.s≤_ by omega)).wide (by omega) (by omega)) rfl rfl).trans ((zay h2 (x+2) 1 0 (show zab t.a t.s≤_ by omega)).wide (by omega) (by omega)) rfl rfl).trans ((zay h3 (x+3) 1 0 (show zab t.a t.s≤_ by omega)).wide (by omega) (by omega)) rfl rfl).trans ((zay h4 (x+4) 4 n (show zab t.a t.s≤_ by omega)).wide (by omega) (by omega)) rfl rfl
theorem zpb{t:TM}(h:t.Ok){x s:Nat}(n:Nat)(hx:zab t.a t.s≤x)(hz:ByOn t x s (fun _=>0)):ByOn (t.push x n) x s (lnkB n):=fun j hj=>by
 have h1:=zal h x 1 0;have h2:=zal h1 (x+1) 1 0;have h3:=zal h2 (x+2) 1 0;have h4:=zal h3 (x+3) 1 0;unfold TM.push lnkB;rw[zaq h4 _ _ _ (show zab t.a t.s≤_ by omega),zaq h3 _ _ _ (show zab t.a t.s≤_ by omega),zaq h2 _ _ _ (show zab t.a t.s≤_ by omega),zaq h1 _ _ _ (show zab t.a t.s≤_ by omega),zaq h _ _ _ hx,hz j hj];by_cases e:4≤j∧j<8
 ·rw[if_pos (by omega),if_pos e]
  congr 1;omega
 ·rw[if_neg (by omega),if_neg e]
  simp only[nb_0,ite_self]
theorem zfq(t:TM)(x n g:Nat):zan (t.push x n) g=zan t g:=by
 unfold TM.push;rw[zco,zco,zco,zco,zco]
theorem zr3(t:TM)(x n:Nat):t.putH x 0 (HB.lnk n).num 12=t.push x n:=znn t x n
theorem z1n{w:World}{q:MH}{t:TM}(h:IsT w q t)(x n k:Nat)(hx:zab t.a t.s≤x)(hl:x+n≤zae t.a t.s)(hk:KdOn t x n k)(h4:x %4=0)(hn:n %4=0)(k0:k≠0)(x' n' k':Int)(ex:x'=x)(en:n'=n)(ek:k'=k):Calls prog 79 #[.pointer (some ⟨q.m,0,none⟩),.int .i64 x',.int .i64 n',.int .i64 k'] w fun e w'=>e= .returned (.bool true)∧IsT w' q (t.setB x n 0)∧Fr q.blocks w w':=by
 subst ex en ek;have hz:=zak h.ok.cfg;have h4':=zcn t.a t.s;have hl':t.ms.l.length=zae t.a t.s:=TM.bytes_len t;have hE:x+n≤t.ms.l.length:=by rw[hl'];omega
 have:=ze9 w q t.ms h.m x n k hE (fun i hi=>zh3 _ (x+i) 1 k (.inl rfl) (Nat.mod_one _) k0 (by show _≤4*t.kinds.length;rw[TM.kinds_len];omega) (fun g h1 h2=>(TM.kinds_get t g (by omega)).trans (hk g (by omega) (by omega))));refine this.mono fun e w' ⟨he,hm,hf⟩=>⟨he,⟨zal h.ok x n 0,?_,h.tab.fr hf.pwga h.hi,h.hi⟩,hf.pwga⟩
 have e1:spl t.ms.l x (List.replicate n 0)=(t.setB x n 0).bytes:=by
  apply List.ext_getElem?;intro i;have hle:(spl t.ms.l x (List.replicate n 0)).length=t.ms.l.length:=zb2 _ _ _ (by rw[List.length_replicate];exact hE);have hle2:(t.setB x n 0).bytes.length=zae t.a t.s:=TM.bytes_len _;rcases Nat.lt_or_ge i (zae t.a t.s)with hi|hi
  ·have g1:=zhg t.ms.l x (List.replicate n 0) (by rw[List.length_replicate];exact hE) i
   have g2:(t.setB x n 0).bytes[i]?.getD 0=zah (t.setB x n 0) i:=TM.bytes_get (t.setB x n 0) i hi;have g3:t.ms.l[i]?.getD 0=zah t i:=TM.bytes_get t i hi;rw[zaq h.ok x n 0 hx]at g2;rw[g3,List.length_replicate]at g1;have h1:i<(spl t.ms.l x (List.replicate n 0)).length:=by rw[hle,hl'];exact hi
   have h2:i<(t.setB x n 0).bytes.length:=by rw[hle2];exact hi
   have g4:(spl t.ms.l x (List.replicate n 0))[i]?.getD 0=(t.setB x n 0).bytes[i]?.getD 0:=by
    rw[g1,g2];by_cases hh:x≤i∧i<x+n
    ·rw[if_pos hh,if_pos hh,List.getElem?_replicate,if_pos (by omega),nb_0];rfl
    ·rw[if_neg hh,if_neg hh]
   rw[List.getElem?_eq_getElem h1,List.getElem?_eq_getElem h2]at g4⊢;simpa using g4
  ·rw[List.getElem?_eq_none (by rw[hle,hl'];exact hi),List.getElem?_eq_none (by rw[hle2];exact hi)]
 rw[e1]at hm;exact hm
theorem zzx{w:World}{q:MH}{t:TM}(h:IsT w q t)(x n k:Nat)(h4:x %4=0)(hn:n %4=0)(n0:0<n)(hl:x+n≤zae t.a t.s)(hk:KdOn t x n k)(x' n':Int)(ex:x'=x)(en:n'=n):Calls prog 61 #[.pointer (some ⟨q.m,0,none⟩),.int .i64 x',.int .i64 n'] w fun e w'=>e= .returned (.int .i64 k)∧w'=w:=by
 subst ex en;have h4':=zcn t.a t.s;have hlen:t.ms.ks.length=zae t.a t.s/4:=TM.kinds_len t
 have e:zbd t.ms.ks x n=k:=by
  unfold zbd
  rw[if_neg (by
   rw[hlen];rintro(h|h)
   ·omega
   ·simp[zc8]at h;omega)]
  have e1:((x:Int)/4).toNat=x/4:=by omega
  have e2:(((x:Int)+n+3)/4).toNat=(x+n)/4:=by omega
  rw[e1,e2];unfold zf3;have hkk:∀g,x/4≤g→g<(x+n)/4→t.ms.ks[g]?.getD 0=k:=fun g h1 h2=>(TM.kinds_get t g (by omega)).trans (hk g h1 h2);rw[zdl t.ms.ks (x/4) ((x+n)/4) (fun y hy=>by rw[hkk _ (by omega) (by omega),hkk _ (by omega) (by omega)]),if_pos rfl];exact hkk _ (by omega) (by omega)
 have:=zqj w q t.ms h.m x n;rw[e]at this;exact this
def cisB(c:Int):Bool:=decide (1≤c∧c≤9)
theorem zgv(w:World)(c:Int):Calls prog 196 #[.int .i64 c] w fun e w'=>e= .returned (.bool (cisB c))∧w'=w:=by
 unfold cisB;by_cases h1:1≤c
 ·have b1:decide (1≤c)=true:=by simpa using h1
  by_cases h2:c≤9
  ·have b2:decide (c≤9)=true:=by simpa using h2
   rw[decide_eq_true (show 1≤c∧c≤9 from⟨h1,h2⟩)];clear h1 h2;go_enter func196,ntmps196;go_wp2_with fail;go_ret;exact⟨rfl,rfl⟩
  ·have b2:decide (c≤9)=false:=by simpa using h2
   rw[decide_eq_false (fun h:1≤c∧c≤9=>h2 h.2)];clear h1 h2;go_enter func196,ntmps196;go_wp2_with fail;go_ret;exact⟨rfl,rfl⟩
 ·have b1:decide (1≤c)=false:=by simpa using h1
  rw[decide_eq_false (fun h:1≤c∧c≤9=>h1 h.1)];clear h1;go_enter func196,ntmps196;go_wp2_with fail;go_ret;exact⟨rfl,rfl⟩
def cszZ(c:Int):Nat:=if 1≤c∧c≤9 then csz c.toNat else 0
def nbkZ(c:Int):Nat:=if 1≤c∧c≤9 then nbk c.toNat else 0
def zsd(c:Int):Nat:=if 1≤c∧c≤9 then cpad c.toNat else 0
theorem zgx(c:Nat)(h:1≤c∧c≤9):clsT[c]?=some (.int .i64 (csz c)):=by
 have:c=1∨c=2∨c=3∨c=4∨c=5∨c=6∨c=7∨c=8∨c=9:=by omega
 rcases this with rfl|rfl|rfl|rfl|rfl|rfl|rfl|rfl|rfl<;>rfl
section
variable {w : World}
theorem zpq(hM:TabM w)(c:Int):Calls prog 99 #[.int .i64 c] w fun e w'=>e= .returned (.int .i64 (cszZ c))∧w'=w:=by
 have hi:=fun w=>zgv w c;unfold cszZ;unfold cisB at hi;by_cases h:1≤c∧c≤9
 ·rw[if_pos h]
  rw[decide_eq_true h]at hi;obtain⟨k,rfl⟩:∃k:Nat,c=k:=⟨c.toNat,by omega⟩;have hc:=(hM.cls k).trans (zgx k (by omega));rw[Int.toNat_natCast];have g1:(0:Int)≤k:=by omega
  have g2:(k:Int)<10:=by omega
  generalize csz k=s at*;clear h hM;go_enter func99,ntmps99;go_wp2_with fail;with_reducible refine(hi _).mono ?_
  rintro e w' ⟨rfl,rfl⟩;go_wp2_with fail;go_ret;exact⟨rfl,rfl⟩
 ·rw[if_neg h]
  rw[decide_eq_false h]at hi;clear h hM;go_enter func99,ntmps99;go_wp2_with fail;with_reducible refine(hi _).mono ?_
  rintro e w' ⟨rfl,rfl⟩;go_wp2_with fail;go_ret;exact⟨rfl,rfl⟩
theorem zir(hM:TabM w)(c:Int):Calls prog 156 #[.int .i64 c] w fun e w'=>e= .returned (.int .i64 (nbkZ c))∧w'=w:=by
 have hi:=fun w=>zgv w c;unfold nbkZ;unfold cisB at hi;by_cases h:1≤c∧c≤9
 ·rw[if_pos h]
  rw[decide_eq_true h]at hi;obtain⟨k,rfl⟩:∃k:Nat,c=k:=⟨c.toNat,by omega⟩;have hc:=(hM.cls k).trans (zgx k (by omega));rw[Int.toNat_natCast];have g1:(0:Int)≤k:=by omega
  have g2:(k:Int)<10:=by omega
  obtain⟨s1,s2,s3,_⟩:=zai k (by omega) (by omega);have e:((nbk k:Nat):Int)=1024/(csz k:Int):=by unfold nbk;rw[if_neg (by omega),Int.natCast_ediv];rfl
  rw[e];have z0:((csz k:Int)==0)=false:=by simp;omega
  have z1:(0:Int)<csz k:=by omega
  have z2:(csz k:Int)≤512:=by omega
  generalize csz k=s at*;clear h hM e s1;go_enter func156,ntmps156;go_wp2_with fail;with_reducible refine(hi _).mono ?_
  rintro e w' ⟨rfl,rfl⟩;go_wp2_with fail;go_ret;exact⟨rfl,rfl⟩
 ·rw[if_neg h]
  rw[decide_eq_false h]at hi;clear h hM;go_enter func156,ntmps156;go_wp2_with fail;with_reducible refine(hi _).mono ?_
  rintro e w' ⟨rfl,rfl⟩;go_wp2_with fail;go_ret;exact⟨rfl,rfl⟩
theorem zqw(hM:TabM w)(c:Int):Calls prog 203 #[.int .i64 c] w fun e w'=>e= .returned (.int .i64 (zsd c))∧w'=w:=by
 have hi:=fun w=>zgv w c;unfold zsd;unfold cisB at hi;by_cases h:1≤c∧c≤9
 ·rw[if_pos h]
  rw[decide_eq_true h]at hi;obtain⟨k,rfl⟩:∃k:Nat,c=k:=⟨c.toNat,by omega⟩;have hc:=(hM.cls k).trans (zgx k (by omega));rw[Int.toNat_natCast];have g1:(0:Int)≤k:=by omega
  have g2:(k:Int)<10:=by omega
  obtain⟨s1,s2,s3,_⟩:=zai k (by omega) (by omega);have e:((cpad k:Nat):Int)=1024 %(csz k:Int):=by unfold cpad;rw[if_neg (by omega),Int.natCast_emod];rfl
  rw[e];have z0:((csz k:Int)==0)=false:=by simp;omega
  have z1:(0:Int)<csz k:=by omega
  have z2:(csz k:Int)≤512:=by omega
  generalize csz k=s at*;clear h hM e s1;go_enter func203,ntmps203;go_wp2_with fail;with_reducible refine(hi _).mono ?_
  rintro e w' ⟨rfl,rfl⟩;go_wp2_with fail;go_ret;exact⟨rfl,rfl⟩
 ·rw[if_neg h]
  rw[decide_eq_false h]at hi;clear h hM;go_enter func203,ntmps203;go_wp2_with fail;with_reducible refine(hi _).mono ?_
  rintro e w' ⟨rfl,rfl⟩;go_wp2_with fail;go_ret;exact⟨rfl,rfl⟩
theorem zzg(hM:TabM w)(c k:Nat)(hc:1≤c∧c≤9)(hk:k<nbk c):Calls prog 267 #[.int .i64 c,.int .i64 k] w fun e w'=>e= .returned (.tuple #[.int .i64 (csz c*k:Nat),.int .i64 0])∧w'=w:=by
 have hi:=fun w=>zgv w c;have hb:=zir hM c;unfold cisB at hi;rw[decide_eq_true (show(1:Int)≤c∧(c:Int)≤9 by omega)]at hi;unfold nbkZ at hb;rw[if_pos (show(1:Int)≤c∧(c:Int)≤9 by omega),Int.toNat_natCast]at hb;have hcc:=(hM.cls c).trans (zgx c hc);have g1:(0:Int)≤c:=by omega
 have g2:(c:Int)<10:=by omega
 obtain⟨s1,s2,s3,s4,s5,s6,s7⟩:=zai c (by omega) (by omega);have b1:decide ((k:Int)<0)=false:=by simp
 have b2':decide (nbk c≤k)=false:=by simp;omega
 have hm:csz c*k≤512*32:=Nat.mul_le_mul s3 (by omega)
 have w1:IntKind.i64.wrap ((k:Int)*(csz c:Int))=((csz c*k:Nat):Int):=by
  rw[Nat.mul_comm,Int.natCast_mul];exact i64_in _ (by rw[←Int.natCast_mul,Nat.mul_comm];omega)
 generalize csz c*k=m at*;generalize csz c=s at*;generalize nbk c=n at*;clear hM hk hc;go_enter func267,ntmps267;go_wp2_with fail;with_reducible refine(hi _).mono ?_
 rintro e w' ⟨rfl,rfl⟩;go_wp2_with fail;with_reducible refine hb.mono ?_
 rintro e w' ⟨rfl,rfl⟩;go_wp2_with fail;go_ret2;exact⟨rfl,rfl⟩
theorem zwa(hM:TabM w)(a s:Nat)(hc:Cfg a s)(i:Nat)(hi:i<a):Calls prog 198 #[cfgV a s,.int .i64 i] w fun e w'=>e= .returned (.int .i64 (zab a s+1024*i:Nat))∧Fr [] w w':=by
 have h2:=hc.a2
 have hbs:zab a s≤1048576:=by
  obtain⟨a1,a2,s1,s2,s3⟩:=hc;unfold zab;omega
 have hb:∀W,TabM W→Calls prog 158 #[.agg #[.int .i64 a,.int .i64 s]] W fun e w'=>e= .returned (.int .i64 (zab a s))∧Fr [] W w':=fun W h=>zdz W h a s hc
 have hl:∀W,TabM W→Calls prog 168 #[.agg #[.int .i64 a,.int .i64 s],.int .i64 i,.int .i64 a,.int .i64 (zab a s),.int .i64 1024] W fun e w'=>e= .returned (.int .i64 (zab a s+1024*i:Nat))∧Fr [] W w':=fun W h=>by
  have:=zjx W h a s hc i a (zab a s) 1024 hi (by omega);refine this.mono fun e w' ⟨he,hf⟩=>⟨?_,hf⟩;rw[he,show((zab a s+1024*i:Nat):Int)=((zab a s:Nat):Int)+(i:Int)*((1024:Nat):Int)by omega]
 have hM1:=hid hM;generalize zab a s+1024*i=z at*;generalize zab a s=b at*;unfold cfgV;clear hc hM hbs;go_enter func198,ntmps198;go_wp2_with fail;have hB0:=(Blk.new w 66 #[.int .i64 a,.int .i64 s]).drew;have hF0:=((Fr.refl [] w).alloc (.cells #[.int .i64 a,.int .i64 s] 66)).drew;have HC:=hid (fun W' (hb:Blk W' w.heap.size 66 #[.int .i64 a,.int .i64 s])=>And.intro (show W'.cell? ⟨w.heap.size,0,none⟩=some (.int .i64 a)from hb.cell 0) (show W'.cell? ⟨w.heap.size,1,none⟩=some (.int .i64 s)from hb.cell 1));have HB0:=hid hB0;have HF0:=hid hF0;have hY:=HC.out _ hB0;clear hB0 hF0
 go_region_held3 (fun W'=>W'.cell? ⟨w.heap.size,0,none⟩=some (.int .i64 a)∧W'.cell? ⟨w.heap.size,1,none⟩=some (.int .i64 s)) (exact hY)
  (first|(go_at_call 158;with_reducible refine(hb _ (hM1.out.fr HF0.out (by simp))).mono ?_;rintro e W2 ⟨rfl,f2⟩;have HB2:=hid (HB0.out.fr f2 (by simp));have HF2:=hid (HF0.out.trans f2);have hY:=HC.out _ HB2.out;clear f2)|(go_at_call 168;with_reducible refine(hl _ (hM1.out.fr HF2.out (by simp))).mono ?_;rintro e W3 ⟨rfl,f3⟩;have HB3:=hid (HB2.out.fr f3 (by simp));have HF3:=hid (HF2.out.trans f3);have hY:=HC.out _ HB3.out;clear f3)|fail)
 go_wp2_with fail;go_ret;exact⟨rfl,HF3.out⟩
end
theorem LS.same{t u:TM}{inn:Nat→Int}(h:LS t inn)(ha:u.a=t.a)(hr:∀f,u.rt f=t.rt f)(hh:∀y r,r=3∨r=4→u.hd y r=t.hd y r):LS u inn:=by
 refine⟨fun c hc=> ?_,fun x hx hn=> ?_,fun x hx=>h.le x (by rw[←ha];exact hx)⟩
 ·rw[ha,hr]
  exact Lk.same (t:=t) (u:=u) ha (h.ln c hc) (fun y _=>⟨hh y 3 (.inl rfl),hh y 4 (.inr rfl)⟩)
 ·rw[hh x 3 (.inl rfl),hh x 4 (.inr rfl)]
  exact h.out x (by rw[←ha];exact hx) hn
structure Sla(t u:TM):Prop where
 a:u.a=t.a
 s:u.s=t.s
 sl:u.sl=t.sl
 ft:u.ft=t.ft
 rt: ∀f,f<3∨12<f→u.rt f=t.rt f
theorem Sla.refl(t:TM):Sla t t:=⟨rfl,rfl,rfl,rfl,fun _ _=>rfl⟩
theorem Sla.trans{t u v:TM}(h:Sla t u)(k:Sla u v):Sla t v:=⟨k.a.trans h.a,k.s.trans h.s,k.sl.trans h.sl,k.ft.trans h.ft,fun f hf=>(k.rt f hf).trans (h.rt f hf)⟩
theorem Lis.sla{t u:TM}(h:Lis t u):Sla t u:=⟨h.a,h.s,h.sl,h.ft,h.rt⟩
theorem zbj(c:Nat)(h:c≤9):cszZ c=csz c:=by
 unfold cszZ;by_cases h0:c=0
 ·subst h0;rfl
 ·rw[if_pos (by omega),Int.toNat_natCast]
theorem zk1(c:Nat)(h:c≤9):nbkZ c=nbk c:=by
 unfold nbkZ;by_cases h0:c=0
 ·subst h0;rfl
 ·rw[if_pos (by omega),Int.toNat_natCast]
theorem zne(c:Nat)(h:c≤9):zsd c=cpad c:=by
 unfold zsd;by_cases h0:c=0
 ·subst h0;rfl
 ·rw[if_pos (by omega),Int.toNat_natCast]
theorem zwf(c:Nat)(h:c≤9):csz c*nbk c≤1024∧csz c≤512∧nbk c≤32:=by
 by_cases h0:c=0
 ·subst h0;decide
 ·obtain⟨c1,c2,c3,c4,c5,c6,c7⟩:=zai c (by omega) h
  omega
theorem gen8{w:World}{g:Nat}{t:TypeId}{cs:Array Value}{v0 v1 v2 v3 v4 v5 v6 v7:Value}(C:World→Prop)(h:Blk w g t cs)(hs:cs.size=8)
  (K:∀w9,Blk w9 g t #[v0,v1,v2,v3,v4,v5,v6,v7]→Fr [g] w w9→C w9):C ((((((((w.setCell ⟨g,0,none⟩ v0).setCell ⟨g,1,none⟩ v1).setCell ⟨g,2,none⟩ v2).setCell ⟨g,3,none⟩ v3).setCell ⟨g,4,none⟩ v4).setCell ⟨g,5,none⟩ v5).setCell ⟨g,6,none⟩ v6).setCell ⟨g,7,none⟩ v7):=by
 have:=K (w.setCells g 0 [v0,v1,v2,v3,v4,v5,v6,v7]) (by
  have:=h.setCells [v0,v1,v2,v3,v4,v5,v6,v7] 0;rw[zdi _ _ (by rw[hs];rfl)]at this;exact this) ((Fr.refl [g] w).setCells (.inl (by simp)) _ _)
 exact this
def prC(m:Nat)(i z c l f n p:Int):Array Value:= #[.pointer (some ⟨m,0,none⟩),.int .i64 i,.int .i64 z,.int .i64 c,.int .i64 l,.int .u32 f,.int .i64 n,.int .i64 p]
theorem blk8{W:World}{B:Nat}{t:TypeId}{v0 v1 v2 v3 v4 v5 v6 v7:Value}(h:Blk W B t #[v0,v1,v2,v3,v4,v5,v6,v7]):W.cell? ⟨B,0,none⟩=some v0∧W.cell? ⟨B,1,none⟩=some v1∧W.cell? ⟨B,2,none⟩=some v2∧W.cell? ⟨B,3,none⟩=some v3∧W.cell? ⟨B,4,none⟩=some v4∧W.cell? ⟨B,5,none⟩=some v5∧W.cell? ⟨B,6,none⟩=some v6∧W.cell? ⟨B,7,none⟩=some v7:=
 ⟨h.cell 0,h.cell 1,h.cell 2,h.cell 3,h.cell 4,h.cell 5,h.cell 6,h.cell 7⟩
section
variable {w : World} {q : MH} {t : TM}
theorem sof(h:IsT w q t)(i:Nat)(hi:i<t.a):Calls prog 101 #[.pointer (some ⟨q.m,0,none⟩),.int .i64 i] w fun e w'=>e= .returned (.agg (prC q.m i (sla t i) (t.hd i 0) (t.hd i 1) (t.hd i 2) (t.hd i 3) (t.hd i 4)))∧IsT w' q t∧Fr q.blocks w w':=by
 have hg:=fun W hW=>zf0 (w:=W) (q:=q) (t:=t) hW i hi;have hlt:=h.lt;have hts:=h.tab.size;have H0:=hid h;have hc:=hid (fun W hW=>tcfg (w:=W) (q:=q) (t:=t) hW)
 have hs:=hid (fun W (hW:IsT W q t)=>by
  have:=zwa hW.tab t.a t.s hW.ok.cfg i hi;unfold cfgV at this;exact this)
 unfold prC;unfold sla;unfold zwb at hg;generalize zab t.a t.s+1024*i=z at*;generalize t.hd i 0=v0 at*;generalize t.hd i 1=v1 at*;generalize t.hd i 2=v2 at*;generalize t.hd i 3=v3 at*;generalize t.hd i 4=v4 at*;generalize t.a=a at*;generalize t.s=s at*;clear h hi;go_enter func101,ntmps101;go_wp2_with fail;with_reducible refine(hg _ (H0.out.alloc _)).mono ?_
 rintro e w1 ⟨rfl,h1,f1⟩;have H1:=hid (h1.alloc (.cells #[.int .i64 v0,.int .i64 v1,.int .u32 v2,.int .i64 v3,.int .i64 v4] 161));have B4:=hid (((Blk.new w 163 (#[.pointer none,.int .i64 0,.int .i64 0,.int .i64 0,.int .i64 0,.int .u32 0,.int .i64 0,.int .i64 0])).fr f1 (fun hm=>by have:=hlt _ hm;omega)).alloc (.cells #[.int .i64 v0,.int .i64 v1,.int .u32 v2,.int .i64 v3,.int .i64 v4] 161));have B5:=hid (Blk.new w1 161 #[.int .i64 v0,.int .i64 v1,.int .u32 v2,.int .i64 v3,.int .i64 v4]);have HF1s:w.heap.size<w1.heap.size:=by have:=f1.size;simp at this;omega
 have F1:=hid ((((Fr.refl q.blocks w).alloc _).trans f1).alloc (.cells #[.int .i64 v0,.int .i64 v1,.int .u32 v2,.int .i64 v3,.int .i64 v4] 161));clear hg h1 f1;go_wp2_with fail;have HC:=hid (fun W' (hb:Blk W' w1.heap.size 161 #[.int .i64 v0,.int .i64 v1,.int .u32 v2,.int .i64 v3,.int .i64 v4])=>And.intro (show W'.cell? ⟨w1.heap.size,0,none⟩=some (.int .i64 v0)from hb.cell 0) (And.intro (show W'.cell? ⟨w1.heap.size,1,none⟩=some (.int .i64 v1)from hb.cell 1) (And.intro (show W'.cell? ⟨w1.heap.size,2,none⟩=some (.int .u32 v2)from hb.cell 2) (And.intro (show W'.cell? ⟨w1.heap.size,3,none⟩=some (.int .i64 v3)from hb.cell 3) (show W'.cell? ⟨w1.heap.size,4,none⟩=some (.int .i64 v4)from hb.cell 4)))));have hY:=HC.out _ B5.out.drew;refine wp_region_held_drew (S:=fun W'=>W'.cell? ⟨w1.heap.size,0,none⟩=some (.int .i64 v0)∧W'.cell? ⟨w1.heap.size,1,none⟩=some (.int .i64 v1)∧W'.cell? ⟨w1.heap.size,2,none⟩=some (.int .u32 v2)∧W'.cell? ⟨w1.heap.size,3,none⟩=some (.int .i64 v3)∧W'.cell? ⟨w1.heap.size,4,none⟩=some (.int .i64 v4)) (by kernel_rfl) (hY) (fun yH=> ?_);refine tkY 0 yH ?_;refine tkY 1 yH ?_;refine tkY 2 yH ?_;refine tkY 4 yH ?_;refine tkY 6 yH ?_;refine tkC 3 fun K hK=> ?_;go_simp;with_reducible refine(hc.out _ H1.out.drew).mono ?_
 rintro e W2 ⟨rfl,f2⟩;have H2:=hid (H1.out.drew.fr0 f2);have HB2:=hid (B5.out.drew.fr f2 (by simp));have HF2:=hid (F1.out.drew.step f2 (by simp));have hA2:=hid (B4.out.drew.fr f2 (by simp));have hY:=HC.out _ HB2.out;clear f2;go_wp2_with fail;refine hK.out _ _ _ hY fun yH=> ?_;clear hK K;refine tkC 5 fun K hK=> ?_;go_simp;with_reducible refine(hs.out _ H2.out).mono ?_
 rintro e W3 ⟨rfl,f3⟩;have H3:=hid (H2.out.fr0 f3);have HB3:=hid (HB2.out.fr f3 (by simp));have HF3:=hid (HF2.out.step f3 (by simp));have hA3:=hid (hA2.out.fr f3 (by simp));have hY:=HC.out _ HB3.out;clear f3;go_wp2_with fail;refine hK.out _ _ _ hY fun yH=> ?_;clear hK K;refine tkY 7 yH ?_;refine wpAnyH_ready (rs:= [8]) (by kernel_rfl) (by simp) ?_;refine AllReadyH.cons (o:= ?oz) ?hiz (fun K hK=> ?hcz) AllReadyH.nil;case hiz=>(simp only[List.getElem?_toArray,List.getElem?_cons_zero,List.getElem?_cons_succ];rfl)
 have hA3':=hA3.out;(have d0:=hA3'.cell 0;have z0:=hA3'.frozen 0;have d1:=hA3'.cell 1;have z1:=hA3'.frozen 1;have d2:=hA3'.cell 2;have z2:=hA3'.frozen 2;have d3:=hA3'.cell 3;have z3:=hA3'.frozen 3;have d4:=hA3'.cell 4;have z4:=hA3'.frozen 4;have d5:=hA3'.cell 5;have z5:=hA3'.frozen 5;have d6:=hA3'.cell 6;have z6:=hA3'.frozen 6;have d7:=hA3'.cell 7;have z7:=hA3'.frozen 7;simp at d0 d1 d2 d3 d4 d5 d6 d7);go_simp;refine gen8 (fun w9=>K _ w9) hA3' rfl ?_;intro w9 hn9 hf9;clear d0 z0 d1 z1 d2 z2 d3 z3 d4 z4 d5 z5 d6 z6 d7 z7;refine hK.out _ _ (HC.out _ (HB3.out.fr hf9 (by simp;have:=HF1s;omega))) (fun hHeld=> ?_);clear hK K;try simp only[Act.put,List.setIfInBounds_toArray,List.set_cons_zero,List.set_cons_succ]
 refine wpAnyH_done (by kernel_rfl) ?_ _;go_wp2_with fail;have q0:=hn9.cell 0;have q1:=hn9.cell 1;have q2:=hn9.cell 2;have q3:=hn9.cell 3;have q4:=hn9.cell 4;have q5:=hn9.cell 5;have q6:=hn9.cell 6;have q7:=hn9.cell 7;simp at q0 q1 q2 q3 q4 q5 q6 q7;refine bodyPost_ret (by simp[results,results101,go_sem,q0,q1,q2,q3,q4,q5,q6,q7];try rfl) rfl ⟨rfl,H3.out.fr hf9 (fun k hk hm=>by simp at hm;have:=hlt k hk;omega) (fun k hk hm=>by simp at hm;have:=hts;omega),HF3.out.step hf9 (fun k hk=> .inr (by simp at hk;omega))⟩
theorem zmc(hM:TabM w)(m:Nat)(i z c l f n p:Int)(k:Nat)(hk:k≤9)(hc:c=k):Calls prog 109 #[.agg (prC m i z c l f n p)] w fun e w'=>e= .returned (.int .i64 (csz k))∧Fr [] w w':=by
 have hs:=fun W hW=>zpq (w:=W) hW c;rw[hc,zbj k hk,←hc]at hs;have HM:=hid hM;generalize csz k=s at*;unfold prC;clear hM hk hc;go_enter func109,ntmps109;go_wp2_with fail;with_reducible refine(hs _ (HM.out.alloc _)).mono ?_
 rintro e w1 ⟨rfl,rfl⟩;go_wp2_with fail;go_ret;exact⟨rfl,(Fr.refl [] w).alloc _⟩
theorem zi3(hM:TabM w)(m:Nat)(i z c l f n p:Int)(k:Nat)(hk:k≤9)(hc:c=k):Calls prog 202 #[.agg (prC m i z c l f n p)] w fun e w'=>e= .returned (.int .i64 (csz k*nbk k:Nat))∧Fr [] w w':=by
 have hs:=hid (fun W hW=>zmc (w:=W) hW m i z c l f n p k hk hc);have hb:=fun W hW=>zir (w:=W) hW c;rw[hc,zk1 k hk,←hc]at hb;obtain⟨m1,m2,m3⟩:=zwf k hk
 have w1:IntKind.i64.wrap ((csz k:Int)*(nbk k:Int))=((csz k*nbk k:Nat):Int):=by
  rw[Int.natCast_mul];exact i64_in _ (by rw[←Int.natCast_mul];omega)
 have HM:=hid hM;generalize csz k*nbk k=r at*;generalize csz k=s at*;generalize nbk k=b at*;unfold prC at hs⊢;clear hM hk hc m1 m2 m3;go_enter func202,ntmps202;go_wp2_with fail;have B0:=hid (Blk.new w 163 #[.pointer (some ⟨m,0,none⟩),.int .i64 i,.int .i64 z,.int .i64 c,.int .i64 l,.int .u32 f,.int .i64 n,.int .i64 p]).drew;have F0:=hid ((Fr.refl [] w).alloc (.cells #[.pointer (some ⟨m,0,none⟩),.int .i64 i,.int .i64 z,.int .i64 c,.int .i64 l,.int .u32 f,.int .i64 n,.int .i64 p] 163)).drew;have HC:=hid (fun W' (hb:Blk W' w.heap.size 163 #[.pointer (some ⟨m,0,none⟩),.int .i64 i,.int .i64 z,.int .i64 c,.int .i64 l,.int .u32 f,.int .i64 n,.int .i64 p])=>And.intro (show W'.cell? ⟨w.heap.size,0,none⟩=some (.pointer (some ⟨m,0,none⟩))from hb.cell 0) (And.intro (show W'.cell? ⟨w.heap.size,1,none⟩=some (.int .i64 i)from hb.cell 1) (And.intro (show W'.cell? ⟨w.heap.size,2,none⟩=some (.int .i64 z)from hb.cell 2) (And.intro (show W'.cell? ⟨w.heap.size,3,none⟩=some (.int .i64 c)from hb.cell 3) (And.intro (show W'.cell? ⟨w.heap.size,4,none⟩=some (.int .i64 l)from hb.cell 4) (And.intro (show W'.cell? ⟨w.heap.size,5,none⟩=some (.int .u32 f)from hb.cell 5) (And.intro (show W'.cell? ⟨w.heap.size,6,none⟩=some (.int .i64 n)from hb.cell 6) (show W'.cell? ⟨w.heap.size,7,none⟩=some (.int .i64 p)from hb.cell 7))))))));have hY:=HC.out _ B0.out;refine wp_region_held_drew (S:=fun W'=>W'.cell? ⟨w.heap.size,0,none⟩=some (.pointer (some ⟨m,0,none⟩))∧W'.cell? ⟨w.heap.size,1,none⟩=some (.int .i64 i)∧W'.cell? ⟨w.heap.size,2,none⟩=some (.int .i64 z)∧W'.cell? ⟨w.heap.size,3,none⟩=some (.int .i64 c)∧W'.cell? ⟨w.heap.size,4,none⟩=some (.int .i64 l)∧W'.cell? ⟨w.heap.size,5,none⟩=some (.int .u32 f)∧W'.cell? ⟨w.heap.size,6,none⟩=some (.int .i64 n)∧W'.cell? ⟨w.heap.size,7,none⟩=some (.int .i64 p)) (by kernel_rfl) (hY) (fun yH=> ?_);refine tkY 0 yH ?_;refine tkY 2 yH ?_;refine tkY 3 yH ?_;refine tkY 4 yH ?_;refine tkC 1 fun K hK=> ?_;go_simp;with_reducible refine(hs.out _ (HM.out.fr F0.out (by simp))).mono ?_
 rintro e W2 ⟨rfl,f2⟩;have B2:=hid (B0.out.fr f2 (by simp));have F2:=hid (F0.out.trans f2);have hY:=HC.out _ B2.out;clear f2;go_wp2_with fail;refine hK.out _ _ _ hY fun yH=> ?_;clear hK K;refine tkC 5 fun K hK=> ?_;go_simp;with_reducible refine(hb _ (HM.out.fr F2.out (by simp))).mono ?_
 rintro e W3 ⟨rfl,rfl⟩;go_wp2_with fail;refine hK.out _ _ _ hY fun yH=> ?_;clear hK K;refine tkY 6 yH ?_;refine tkY 7 yH ?_;refine wpAnyH_done (by kernel_rfl) ?_ _;go_wp2_with fail;go_ret;exact⟨rfl,F2.out⟩
theorem pset(h:IsT w q t)(i z c l f n p:Int)(x k b g:Nat)(hx:x<t.a)(hk:k≤9)(hb:b≤65535)(hg:g<4294967296)(hi:i=x)(hc:c=k)(hl:l=b)(hf:f=g):Calls prog 113 #[.agg (prC q.m i z c l f n p)] w fun e w'=>e= .returned (.tuple #[])∧IsT w' q (t.setL x k b g)∧Fr q.blocks w w':=by
 have hs:=hid (fun W hW=>zo5 (w:=W) (q:=q) (t:=t) hW x k b g hx hk hb hg);have H0:=hid h;rw[←hi,←hc,←hl,←hf]at hs;generalize t.setL x k b g=t' at*;unfold prC;clear h hx hk hb hg hi hc hl hf;go_enter func113,ntmps113;go_wp2_with fail;with_reducible refine(hs.out _ (H0.out.alloc _)).mono ?_
 rintro e w1 ⟨rfl,h1,f1⟩;have H1:=hid h1;clear h1;go_wp2_with fail;go_end0;exact⟨rfl,H1.out,((Fr.refl q.blocks w).alloc _).trans f1⟩
theorem zxr(h:IsT w q t)(i z c l f n p:Int)(k x kd:Nat)(hk:1≤k∧k≤9)(hc:c=k)(h4:x %4=0)(hl:x+csz k≤zae t.a t.s)(hkd:KdOn t x (csz k) kd):Calls prog 108 #[.agg (prC q.m i z c l f n p),.int .i64 x] w fun e w'=>e= .returned (.bool ((kd:Int)==5))∧Fr [] w w':=by
 have hs:=hid (fun W hW=>zmc (w:=W) hW q.m i z c l f n p k hk.2 hc);obtain⟨c1,c2,c3,_⟩:=zai k hk.1 hk.2;have hn:=hid (fun W (hW:IsT W q t)=>zzx hW x (csz k) kd h4 (by omega) (by omega) hl hkd x (csz k) rfl rfl);have H0:=hid h;generalize hm:q.m=m at*;generalize csz k=s at*;unfold prC at hs⊢;clear h hk hc h4 hl hkd c1 c2 c3 hm;go_enter func108,ntmps108;go_wp2_with fail;have B0:=hid (Blk.new w 163 #[.pointer (some ⟨m,0,none⟩),.int .i64 i,.int .i64 z,.int .i64 c,.int .i64 l,.int .u32 f,.int .i64 n,.int .i64 p]).drew;have F0:=hid ((Fr.refl [] w).alloc (.cells #[.pointer (some ⟨m,0,none⟩),.int .i64 i,.int .i64 z,.int .i64 c,.int .i64 l,.int .u32 f,.int .i64 n,.int .i64 p] 163)).drew;have HC:=hid (fun W' (hb:Blk W' w.heap.size 163 #[.pointer (some ⟨m,0,none⟩),.int .i64 i,.int .i64 z,.int .i64 c,.int .i64 l,.int .u32 f,.int .i64 n,.int .i64 p])=>And.intro (show W'.cell? ⟨w.heap.size,0,none⟩=some (.pointer (some ⟨m,0,none⟩))from hb.cell 0) (And.intro (show W'.cell? ⟨w.heap.size,1,none⟩=some (.int .i64 i)from hb.cell 1) (And.intro (show W'.cell? ⟨w.heap.size,2,none⟩=some (.int .i64 z)from hb.cell 2) (And.intro (show W'.cell? ⟨w.heap.size,3,none⟩=some (.int .i64 c)from hb.cell 3) (And.intro (show W'.cell? ⟨w.heap.size,4,none⟩=some (.int .i64 l)from hb.cell 4) (And.intro (show W'.cell? ⟨w.heap.size,5,none⟩=some (.int .u32 f)from hb.cell 5) (And.intro (show W'.cell? ⟨w.heap.size,6,none⟩=some (.int .i64 n)from hb.cell 6) (show W'.cell? ⟨w.heap.size,7,none⟩=some (.int .i64 p)from hb.cell 7))))))));have hY:=HC.out _ B0.out;refine wp_region_held_drew (S:=fun W'=>W'.cell? ⟨w.heap.size,0,none⟩=some (.pointer (some ⟨m,0,none⟩))∧W'.cell? ⟨w.heap.size,1,none⟩=some (.int .i64 i)∧W'.cell? ⟨w.heap.size,2,none⟩=some (.int .i64 z)∧W'.cell? ⟨w.heap.size,3,none⟩=some (.int .i64 c)∧W'.cell? ⟨w.heap.size,4,none⟩=some (.int .i64 l)∧W'.cell? ⟨w.heap.size,5,none⟩=some (.int .u32 f)∧W'.cell? ⟨w.heap.size,6,none⟩=some (.int .i64 n)∧W'.cell? ⟨w.heap.size,7,none⟩=some (.int .i64 p)) (by kernel_rfl) (hY) (fun yH=> ?_);refine tkY 0 yH ?_;refine tkY 1 yH ?_;refine tkY 2 yH ?_;refine tkY 3 yH ?_;refine tkC 4 fun K hK=> ?_;go_simp;with_reducible refine(hs.out _ (H0.out.fr0 F0.out).tab).mono ?_
 rintro e W2 ⟨rfl,f2⟩;have B2:=hid (B0.out.fr f2 (by simp));have F2:=hid (F0.out.trans f2);have hY:=HC.out _ B2.out;clear f2;go_wp2_with fail;refine hK.out _ _ _ hY fun yH=> ?_;clear hK K;refine tkC 5 fun K hK=> ?_;go_simp;with_reducible refine(hn.out _ (H0.out.fr0 F2.out)).mono ?_
 rintro e W3 ⟨rfl,rfl⟩;go_wp2_with fail;refine hK.out _ _ _ hY fun yH=> ?_;clear hK K;refine tkY 6 yH ?_;refine tkY 7 yH ?_;refine wpAnyH_done (by kernel_rfl) ?_ _;go_wp2_with fail;go_ret;exact⟨rfl,F2.out⟩
end
theorem z0x(w:World)(q:MH)(z:MS)(h:IsM w q z)(x n k:Nat)(hE:x+n≤z.l.length)(hm:∀i,i<n→mayL z.ks ((x+i:Nat):Int) 1 k=true):Calls prog 120 #[.pointer (some ⟨q.m,0,none⟩),.int .i64 x,.int .i64 n,.int .i64 k] w fun e w'=>∃v w1,e= .returned v∧IsM w1 q z∧Fr [q.pw] w w1∧zmw w1 ((z.l.drop x).take n) v w':=by
 have hr:=zeo w q z h x n k hE hm;have HZ:=hid (fun W (hM:IsM W q z)=>zpv W q.pa q.ga q.cap z.l hM.ar x n hE);generalize(z.l.drop x).take n=l at*;clear h;go_enter func120,ntmps120;go_wp2_with fail;with_reducible refine hr.mono ?_
 rintro e w1 ⟨rfl,h1,f1⟩;have c1:=h1.st.cell 1;simp at c1;have H1:=hid h1;clear h1 hr;go_wp2_with fail;with_reducible refine(HZ.out _ H1.out).mono ?_
 rintro e w2 ⟨v,rfl,h2⟩;have H2:=hid h2;clear h2;go_wp2_with fail;go_ret;exact⟨v,w1,rfl,H1.out,f1,H2.out⟩
theorem zzv(w:World)(q:MH)(z:MS)(h:IsM w q z)(x k c:Nat)(a:Option Addr)(m:List Nat)(hb:Byt w a m)(hg:∀g o,a=some ⟨g,o,none⟩→g≠q.pw)(hE:x+m.length≤z.l.length)(hm:∀i,i<m.length→mayL z.ks ((x+i:Nat):Int) 1 k=true):Calls prog 90 #[.pointer (some ⟨q.m,0,none⟩),.int .i64 x,.slice a m.length c,.int .i64 k] w fun e w'=>e= .returned (.bool true)∧IsM w' q {z with l:=spl z.l x m}∧Fr [q.pw,q.ga] w w':=by
 have hr:=zeo w q z h x m.length k hE hm
 have hbt:∀W,Fr [q.pw] w W→Byt W a m:=fun W hf=>⟨fun i hi=>by
  obtain⟨g,o,e,h1,h2⟩:=hb.at_ i hi;exact⟨g,o,e,(hf.cell (p:=⟨g,o+i,none⟩) h2 (by simpa using hg g o e)).trans h1,Nat.lt_of_lt_of_le h2 hf.size⟩,hb.byte,hb.len⟩
 have HZ:=hid (fun W (hM:IsM W q z) (hf:Fr [q.pw] w W)=>zl1 W q.pa q.ga q.cap z.l hM.ar x c a m (hbt W hf) hE);have hl2:(spl z.l x m).length=z.l.length:=zb2 _ _ _ hE
 have HIS:=hid (show∀W W',IsM W q z→Fr [q.ga] W W'→IsA W' q.pa q.ga q.cap (spl z.l x m)→IsM W' q {z with l:=spl z.l x m}from fun W W' hM hf hA=>by
  obtain⟨lk,hw⟩:=hM.wt;obtain⟨n1,n2,n3,n4,n5,n6,n7,n8,n9,n10⟩:=hM.nes;exact⟨hM.st.fr hf (by simp;omega),⟨lk,hw.fr hf (by simp;omega) (by simp;omega)⟩,hA,hM.ne,hM.cfg,hl2.trans hM.size,hl2.trans hM.grains⟩)
 have hml:=hb.len;generalize spl z.l x m=l' at*;generalize m.length=n at*;clear h hb hg hbt;go_enter func90,ntmps90;go_wp2_with fail;with_reducible refine hr.mono ?_
 rintro e w1 ⟨rfl,h1,f1⟩;have c1:=h1.st.cell 1;simp at c1;have H1:=hid h1;have hz:=hid (HZ.out _ h1 f1);clear h1 hr HZ;go_wp2_with fail;with_reducible refine hz.out.mono ?_
 rintro e w2 ⟨rfl,h2,f2⟩;have H2:=hid (HIS.out _ _ H1.out f2 h2);have F2:=hid ((f1.mono (S':= [q.pw,q.ga]) (fun k hk=> .inl (by simp at hk;simp[hk]))).trans (f2.mono (S':= [q.pw,q.ga]) (fun k hk=> .inl (by simp at hk;simp[hk]))));clear h2 f1 f2;go_wp2_with fail;go_ret;exact⟨rfl,H2.out,F2.out⟩
def TM.setF(t:TM)(x n:Nat)(f:Nat→Nat):TM:={t with bt:=fun i=>if x≤zab t.a t.s+i∧zab t.a t.s+i<x+n then f (zab t.a t.s+i-x)else t.bt i}
theorem zjh{t:TM}(h:t.Ok)(x n:Nat)(f:Nat→Nat)(hf:∀j,j<n→f j<256):(t.setF x n f).Ok:=
 ⟨h.cfg,h.rt,h.hd,h.sl,fun i=>by
  show(if _ then _ else _)<256;split
  ·exact hf _ (by omega)
  ·exact h.bt i,h.kd⟩
theorem zbm{t:TM}(h:t.Ok)(x n:Nat)(f:Nat→Nat)(hf:∀j,j<n→f j<256)(hx:zab t.a t.s≤x)(i:Nat):zah (t.setF x n f) i=if x≤i∧i<x+n then f (i-x)else zah t i:=by
 by_cases hi:zab t.a t.s≤i
 ·rw[zam (t.setF x n f) i hi (zjh h x n f hf),zam t i hi h]
  show(if x≤zab t.a t.s+(i-zab t.a t.s)∧zab t.a t.s+(i-zab t.a t.s)<x+n then f (zab t.a t.s+(i-zab t.a t.s)-x)else _)=_;rw[show zab t.a t.s+(i-zab t.a t.s)=i by omega];rfl
 ·rw[zgl t (t.setF x n f) rfl rfl rfl rfl rfl i (by omega) h,if_neg (by omega)]
theorem zka{t:TM}(h:t.Ok)(x n:Nat)(f:Nat→Nat)(hf:∀j,j<n→f j<256)(hx:zab t.a t.s≤x):Out t (t.setF x n f) x n:=
 ⟨fun i _ hn=>by rw[zbm h x n f hf hx,if_neg (by omega)],fun _ _ _=>rfl⟩
theorem zpa{t:TM}(h:t.Ok)(x n:Nat)(f:Nat→Nat)(hf:∀j,j<n→f j<256)(hx:zab t.a t.s≤x):ByOn (t.setF x n f) x n f:=fun j hj=>by
 rw[zbm h x n f hf hx,if_pos (by omega)];congr 1;omega
theorem ze0{t u:TM}(x:Nat)(m:List Nat)(hE:x+m.length≤zae t.a t.s)(ha:u.a=t.a)(hs:u.s=t.s)(hb:∀i,zah u i=if x≤i∧i<x+m.length then m[i-x]?.getD 0 else zah t i):spl t.ms.l x m=u.bytes:=by
 have hl':t.ms.l.length=zae t.a t.s:=TM.bytes_len t;apply List.ext_getElem?;intro i;have hle:(spl t.ms.l x m).length=t.ms.l.length:=zb2 _ _ _ (by rw[hl'];exact hE);have hle2:u.bytes.length=zae t.a t.s:=by rw[TM.bytes_len,ha,hs]
 rcases Nat.lt_or_ge i (zae t.a t.s)with hi|hi
 ·have g1:=zhg t.ms.l x m (by rw[hl'];exact hE) i
  have g2:u.bytes[i]?.getD 0=zah u i:=TM.bytes_get u i (by rw[ha,hs];exact hi);have g3:t.ms.l[i]?.getD 0=zah t i:=TM.bytes_get t i hi;rw[hb]at g2;rw[g3]at g1;have h1:i<(spl t.ms.l x m).length:=by rw[hle,hl'];exact hi
  have h2:i<u.bytes.length:=by rw[hle2];exact hi
  have g4:(spl t.ms.l x m)[i]?.getD 0=u.bytes[i]?.getD 0:=by rw[g1,g2]
  rw[List.getElem?_eq_getElem h1,List.getElem?_eq_getElem h2]at g4⊢;simpa using g4
 ·rw[List.getElem?_eq_none (by rw[hle,hl'];exact hi),List.getElem?_eq_none (by rw[hle2];exact hi)]
theorem zmg{t:TM}{x n k:Nat}(hl:x+n≤zae t.a t.s)(hk:KdOn t x n k)(h4:x %4=0)(k0:k≠0)(m:Nat)(hm:m≤n)(hn:n %4=0):∀i,i<m→mayL t.ms.ks ((x+i:Nat):Int) 1 k=true:=fun i hi=>by
 have h4':=zcn t.a t.s;exact zh3 _ (x+i) 1 k (.inl rfl) (Nat.mod_one _) k0 (by show _≤4*t.kinds.length;rw[TM.kinds_len];omega) (fun g h1 h2=>(TM.kinds_get t g (by omega)).trans (hk g (by omega) (by omega)))
def TM.part(t:TM)(x n:Nat):List Nat:=(List.range n).map fun j=>zah t (x+j)
theorem zjb(t:TM)(x n:Nat)(hE:x+n≤zae t.a t.s):(t.ms.l.drop x).take n=t.part x n:=by
 have hl':t.ms.l.length=zae t.a t.s:=TM.bytes_len t;apply List.ext_getElem?;intro i;by_cases hi:i<n
 ·have g3:t.ms.l[x+i]?.getD 0=zah t (x+i):=TM.bytes_get t (x+i) (by omega)
  rw[List.getElem?_take_of_lt hi,List.getElem?_drop];rw[List.getElem?_eq_getElem (by rw[hl'];omega)]at g3⊢;simp[TM.part,hi]at g3⊢;exact g3
 ·rw[List.getElem?_eq_none (by simp;omega),List.getElem?_eq_none (by simp[TM.part];omega)]
section
variable {w : World} {q : MH} {t : TM}
def z0z(w:World)(q:MH)(t:TM)(l:List Nat)(e:Ending)(w':World):Prop:= ∃v g cap,e= .returned v∧v= .slice (some ⟨g,0,none⟩) l.length cap∧w.heap.size≤g∧RowB w' g cap l∧IsT w' q t∧Fr q.blocks w w'
theorem zx3(h:IsT w q t)(x n N k:Nat)(hl:x+N≤zae t.a t.s)(hk:KdOn t x N k)(h4:x %4=0)(hN:N %4=0)(hn:n≤N)(k0:k≠0)(x' n' k':Int)(ex:x'=x)(en:n'=n)(ek:k'=k):Calls prog 120 #[.pointer (some ⟨q.m,0,none⟩),.int .i64 x',.int .i64 n',.int .i64 k'] w (z0z w q t (t.part x n)):=by
 subst ex en ek;have hl':t.ms.l.length=zae t.a t.s:=TM.bytes_len t;refine(z0x w q t.ms h.m x n k (by rw[hl'];omega) (zmg hl hk h4 k0 n hn hN)).mono fun e w' ⟨v,w1,he,h1,f1,g,cap,e1,hg,hr,f2⟩=> ?_;rw[zjb t x n (by omega)]at e1 hr;have f:Fr q.blocks w w':=f1.pw.trans f2.nil;exact⟨v,g,cap,he,e1,Nat.le_trans f1.size hg,hr,⟨h.ok,h1.fr f2 (by simp),h.tab.fr (f1.step f2 (by simp)).pw h.hi,h.hi⟩,f⟩
theorem zt6(h:IsT w q t)(x N k c:Nat)(a:Option Addr)(m:List Nat)(hb:Byt w a m)(hg:∀g o,a=some ⟨g,o,none⟩→g≠q.pw)(hx:zab t.a t.s≤x)(hl:x+N≤zae t.a t.s)(hk:KdOn t x N k)(h4:x %4=0)(hN:N %4=0)(hn:m.length≤N)(k0:k≠0)(x' k':Int)(ex:x'=x)(ek:k'=k):Calls prog 90 #[.pointer (some ⟨q.m,0,none⟩),.int .i64 x',.slice a m.length c,.int .i64 k'] w fun e w'=>e= .returned (.bool true)∧IsT w' q (t.setF x m.length (fun j=>m[j]?.getD 0))∧Fr q.blocks w w':=by
 subst ex ek;have hl':t.ms.l.length=zae t.a t.s:=TM.bytes_len t
 have hf:∀j,j<m.length→m[j]?.getD 0<256:=fun j hj=>by
  rw[List.getElem?_eq_getElem hj];exact hb.byte _ (List.getElem_mem hj)
 refine(zzv w q t.ms h.m x k c a m hb hg (by rw[hl'];omega) (zmg hl hk h4 k0 m.length hn hN)).mono fun e w' ⟨he,hm,hf'⟩=>⟨he,⟨zjh h.ok x m.length _ hf,?_,h.tab.fr hf'.pwga h.hi,h.hi⟩,hf'.pwga⟩;have e1:spl t.ms.l x m=(t.setF x m.length (fun j=>m[j]?.getD 0)).bytes:=ze0 x m (by omega) rfl rfl (zbm h.ok x m.length _ hf hx);rw[e1]at hm;exact hm
end
theorem IsH.fr1{w w':World}{q:MH}{t:TM}{B:Nat}(h:IsH w q t)(hf:Fr [B] w w')(hB:B∉q.blocks)(hg:5≤B):IsH w' q t:=
 ⟨h.m.fr hf (fun k hk hm=>by simp at hm;subst hm;exact hB hk) (fun k hk hm=>by simp at hm;omega),h.tabs.fr hf (fun k hk=>by simp at hk;omega),h.hi⟩
theorem IsH.drew{w:World}{q:MH}{t:TM}(h:IsH w q t):IsH w.drew q t:=h.fr0 (Fr.refl [] w).drew
theorem IsH.ok{w:World}{q:MH}{t:TM}(h:IsH w q t):t.Ok:=h.m.ok
theorem zpu(g:Nat):(HB.lnk g).right=true:=by
 have hl:∀k,k≤12→(HB.lnk g).lackTo k=false:=fun k hk=>by
  induction k with
  |zero=>rfl
  |succ k ih=>
   rw[HB.lackTo,ih (by omega)];unfold HB.lackAt;rw[zuk g k (by omega)];by_cases e:k=4
   ·subst e
    have:((whZ (HB.lnk g).tag ((4:Nat):Int)).2==0)=false:=by show((whZ 0 4).2==0)=false;decide
    rw[this];simp
   ·simp[lkN,e]
 unfold HB.right;rw[hl 12 (by decide)];rfl
section
variable {w : World} {q : MH} {t : TM} {B : Nat}
theorem zn3(h:IsH w q t)(x n k:Nat)(hx:zab t.a t.s≤x)(h4:x %4=0)(hn:n %4=0)(hl:x+n≤zae t.a t.s)(hk:k≤8)(x' n' k':Int)(ex:x'=x)(en:n'=n)(ek:k'=k):Calls prog 110 #[.pointer (some ⟨q.m,0,none⟩),.int .i64 x',.int .i64 n',.int .i64 k'] w fun e w'=>e= .returned (.int .i64 0)∧IsH w' q (t.setK x n k)∧Fr q.blocks w w':=
 (z1j h.m x n k hx h4 hn hl hk x' n' k' ex en ek).mono fun e w' ⟨he,hm,hf⟩=>⟨he,h.step hm hf,hf⟩
theorem zzj(h:IsH w q t)(x n k:Nat)(hx:zab t.a t.s≤x)(hl:x+n≤zae t.a t.s)(hk:KdOn t x n k)(h4:x %4=0)(hn:n %4=0)(k0:k≠0)(x' n' k':Int)(ex:x'=x)(en:n'=n)(ek:k'=k):Calls prog 79 #[.pointer (some ⟨q.m,0,none⟩),.int .i64 x',.int .i64 n',.int .i64 k'] w fun e w'=>e= .returned (.bool true)∧IsH w' q (t.setB x n 0)∧Fr q.blocks w w':=
 (z1n h.m x n k hx hl hk h4 hn k0 x' n' k' ex en ek).mono fun e w' ⟨he,hm,hf⟩=>⟨he,h.step hm hf,hf⟩
theorem zsk(h:IsH w q t)(i z c l f n p:Int)(x k b g:Nat)(hx:x<t.a)(hk:k≤9)(hb:b≤65535)(hg:g<4294967296)(hi:i=x)(hc:c=k)(hl:l=b)(hf:f=g):Calls prog 113 #[.agg (prC q.m i z c l f n p)] w fun e w'=>e= .returned (.tuple #[])∧IsH w' q (t.setL x k b g)∧Fr q.blocks w w':=
 (pset h.m i z c l f n p x k b g hx hk hb hg hi hc hl hf).mono fun e w' ⟨he,hm,hf⟩=>⟨he,h.step hm hf,hf⟩
def LisH(q:MH)(t:TM)(inn:Nat→Int)(w:World)(r:Int)(e:Ending)(w':World):Prop:=e= .returned (.int .i64 r)∧ ∃t',IsH w' q t'∧LS t' inn∧Lis t t'∧Fr q.blocks w w'
theorem hins{inn:Nat→Int}(h:IsH w q t)(hl:LS t inn)(c x:Int):Calls prog 111 #[.pointer (some ⟨q.m,0,none⟩),.int .i64 c,.int .i64 x] w (LisH q t (insI t.a inn c x) w (insE t.a inn c x)):=
 (z1o h.m hl c x).mono fun e w' ⟨he,t',h1,h2,h3,h4⟩=>⟨he,t',h.step h1 h4,h2,h3,h4⟩
theorem hrem{inn:Nat→Int}(h:IsH w q t)(hl:LS t inn)(c x:Int):Calls prog 201 #[.pointer (some ⟨q.m,0,none⟩),.int .i64 c,.int .i64 x] w (LisH q t (remI t.a inn c x) w (remE t.a inn c x)):=
 (z0e h.m hl c x).mono fun e w' ⟨he,t',h1,h2,h3,h4⟩=>⟨he,t',h.step h1 h4,h2,h3,h4⟩
theorem zzq(h:IsH w q t)(i z c l f n p:Int)(x g:Nat)(n':Nat→Nat)(hp:HeadTo t x 0 6 n' 0)(hb:Blk w B 163 (prC q.m i z c l f n p))(hB:B∉q.blocks)(hg:5≤B)(hf:f=g)(hg4:g<4294967296)(hx4:x<4294967296):Calls prog 112 #[.pointer (some ⟨B,0,none⟩),.int .i64 x] w fun e w'=>e= .returned (.tuple #[])∧IsH w' q (t.push x g)∧Blk w' B 163 (prC q.m i z c l x n p)∧Fr (B::q.blocks) w w':=by
 have hput:=fun W hW=>zlb W q t hW x 0 6 n' hp (HB.lnk g) (zz8 g hg4) (zpu g) rfl (.inl ⟨rfl,rfl⟩)
 have HP:=hid (fun W (hW:IsH W q t)=>(show Calls prog 89 #[.pointer (some ⟨q.m,0,none⟩),.int .i64 x,.agg #[.int .i64 0,.int .i64 0,.bool false,.int .i64 0,.int .u32 f,.int .u32 0,.int .u32 0,.int .u32 0,.int .u64 0,.int .u16 0,.int .i64 0,.int .u32 0]] W fun e w'=>e= .returned (.int .i64 0)∧IsH w' q (t.push x g)∧Fr q.blocks W w' from by
  rw[hf];have:=hput W hW;rw[zr3]at this;exact this))
 have u1:IntKind.u32.wrap (x:Int)=(x:Int):=by
  have:IntKind.u32.wrap (x:Int)=(x:Int) %4294967296:=rfl;omega
 have H0:=hid h;have HB:=hid hb;have HE:=hid (fun W' W'' (h1:IsH W' q (t.push x g)) (hf:Fr [B] W' W'')=>h1.fr1 hf hB hg);generalize t.push x g=t' at*;generalize hm:q.m=m at*;unfold prC at HB⊢;clear hput hp hf hg4 hx4 h hg hm hb;go_enter func112,ntmps112;go_wp2_with fail;have HC:=hid (fun W' (hb:Blk W' B 163 #[.pointer (some ⟨m,0,none⟩),.int .i64 i,.int .i64 z,.int .i64 c,.int .i64 l,.int .u32 f,.int .i64 n,.int .i64 p])=>And.intro (show W'.cell? ⟨B,0,none⟩=some (.pointer (some ⟨m,0,none⟩))from hb.cell 0) (And.intro (show W'.cell? ⟨B,1,none⟩=some (.int .i64 i)from hb.cell 1) (And.intro (show W'.cell? ⟨B,2,none⟩=some (.int .i64 z)from hb.cell 2) (And.intro (show W'.cell? ⟨B,3,none⟩=some (.int .i64 c)from hb.cell 3) (And.intro (show W'.cell? ⟨B,4,none⟩=some (.int .i64 l)from hb.cell 4) (And.intro (show W'.cell? ⟨B,5,none⟩=some (.int .u32 f)from hb.cell 5) (And.intro (show W'.cell? ⟨B,6,none⟩=some (.int .i64 n)from hb.cell 6) (show W'.cell? ⟨B,7,none⟩=some (.int .i64 p)from hb.cell 7))))))));have hY:=HC.out _ HB.out.drew;refine wp_region_held_drew (S:=fun W'=>W'.cell? ⟨B,0,none⟩=some (.pointer (some ⟨m,0,none⟩))∧W'.cell? ⟨B,1,none⟩=some (.int .i64 i)∧W'.cell? ⟨B,2,none⟩=some (.int .i64 z)∧W'.cell? ⟨B,3,none⟩=some (.int .i64 c)∧W'.cell? ⟨B,4,none⟩=some (.int .i64 l)∧W'.cell? ⟨B,5,none⟩=some (.int .u32 f)∧W'.cell? ⟨B,6,none⟩=some (.int .i64 n)∧W'.cell? ⟨B,7,none⟩=some (.int .i64 p)) (by kernel_rfl) (hY) (fun yH=> ?_);refine tkY 0 yH ?_;refine tkY 1 yH ?_;refine tkY 2 yH ?_;refine tkY 3 yH ?_;refine tkY 4 yH ?_;refine tkY 5 yH ?_;refine tkY 6 yH ?_;refine tkY 7 yH ?_;refine tkY 8 yH ?_;refine tkY 9 yH ?_;refine tkY 10 yH ?_;refine tkC 11 fun K hK=> ?_;go_simp;with_reducible refine(HP.out _ (H0.out.fr0 (Fr.refl [] w).drew)).mono ?_
 rintro e W2 ⟨rfl,h2,f2⟩;have H2:=hid h2;have B2:=hid (HB.out.drew.fr f2 hB);have F2:=hid ((Fr.refl q.blocks w).drew.trans f2);have hY:=HC.out _ B2.out;clear f2 h2;go_wp2_with fail;refine hK.out _ _ _ hY fun yH=> ?_;clear hK K;refine wpAnyH_done (by kernel_rfl) ?_ _;clear hY;(have d0:=B2.out.cell 0;have z0:=B2.out.frozen 0;have d1:=B2.out.cell 1;have z1:=B2.out.frozen 1;have d2:=B2.out.cell 2;have z2:=B2.out.frozen 2;have d3:=B2.out.cell 3;have z3:=B2.out.frozen 3;have d4:=B2.out.cell 4;have z4:=B2.out.frozen 4;have d5:=B2.out.cell 5;have z5:=B2.out.frozen 5;have d6:=B2.out.cell 6;have z6:=B2.out.frozen 6;have d7:=B2.out.cell 7;have z7:=B2.out.frozen 7;simp at d0 d1 d2 d3 d4 d5 d6 d7);go_wp2_with fail;have f3:Fr [B] W2 (W2.setCell ⟨B,5,none⟩ (.int .u32 x)):=(Fr.refl _ _).setCell (.inl (by simp)) _;have b3:=B2.out.set 5 (.int .u32 x);simp at b3;have f4:Fr (B::q.blocks) w (W2.setCell ⟨B,5,none⟩ (.int .u32 x)):=(F2.out.mono (fun k hk=> .inl (List.mem_cons_of_mem _ hk))).setCell (.inl (by simp)) _;have h4:=HE.out _ _ H2.out f3;clear d0 z0 d1 z1 d2 z2 d3 z3 d4 z4 d5 z5 d6 z6 d7 z7;go_end0;exact⟨rfl,h4,b3,f4⟩
def TM.popT(t:TM)(i c x l g:Nat):TM:=((t.setB (x+4) 4 0).setK x (csz c) 5).setL i c l g
theorem zfc{t:TM}(h:t.Ok)(i c l g:Nat)(hc:c≤9)(hl:l≤65535)(hg:g<4294967296):(t.setL i c l g).Ok:=zcf (zcf (zcf h i 0 c (by show c<65536;omega)) i 1 l (by show l<65536;omega)) i 2 g hg
theorem zb7{t:TM}(h:t.Ok)(i c l g:Nat)(hc:c≤9)(hl:l≤65535)(hg:g<4294967296)(x n:Nat):Out t (t.setL i c l g) x n:=
 have h1:=zcf h i 0 c (by show c<65536;omega);have h2:=zcf h1 i 1 l (by show l<65536;omega);((zfu h i 0 c (by show c<65536;omega) x n).trans (zfu h1 i 1 l (by show l<65536;omega) x n) rfl rfl).trans (zfu h2 i 2 g hg x n) rfl rfl
theorem zat(t:TM)(i c l g y r:Nat):(t.setL i c l g).hd y r=if y=i∧r=0 then c else if y=i∧r=1 then l else if y=i∧r=2 then g else t.hd y r:=by
 unfold TM.setL;rw[TM.setHd_hd,TM.setHd_hd,TM.setHd_hd];by_cases e:y=i
 ·by_cases e0:r=0
  ·rw[if_neg (by omega),if_neg (by omega),if_pos ⟨e,e0⟩,if_pos ⟨e,e0⟩]
  ·by_cases e1:r=1
   ·rw[if_neg (by omega),if_pos ⟨e,e1⟩,if_neg (fun h=>e0 h.2),if_pos ⟨e,e1⟩]
   ·by_cases e2:r=2
    ·rw[if_pos ⟨e,e2⟩,if_neg (fun h=>e0 h.2),if_neg (fun h=>e1 h.2),if_pos ⟨e,e2⟩]
    ·rw[if_neg (fun h=>e2 h.2),if_neg (fun h=>e1 h.2),if_neg (fun h=>e0 h.2),if_neg (fun h=>e0 h.2),if_neg (fun h=>e1 h.2),if_neg (fun h=>e2 h.2)]
 ·rw[if_neg (fun h=>e h.1),if_neg (fun h=>e h.1),if_neg (fun h=>e h.1),if_neg (fun h=>e h.1),if_neg (fun h=>e h.1),if_neg (fun h=>e h.1)]
theorem Out.lis{t u v:TM}{x n:Nat}(h:Out t u x n)(hu:u.Ok)(hv:v.Ok)(hs:Sla t u)(k:Lis u v):Out t v x n:=h.trans (k.out hu hv x n) hs.a hs.s
theorem zpt{t:TM}{S:SS}(hok:t.Ok)(hs:SlI t S){i x:Nat}{F:List Nat}(hi:i<t.a)(hF:S.fr i=x::F)(u:TM)(huk:u.Ok)(hu:Lis (t.popT i (S.cls i) x ((S.lv i).length+1) (F.headD 0)) u)
  (hl:LS u (S.set i (S.cls i) F (insS x (S.lv i))).inn):SlI u (S.set i (S.cls i) F (insS x (S.lv i)))∧Sla t u∧Out t u x (csz (S.cls i))∧ByOn u x (csz (S.cls i)) (fun _=>0):=by
 have h1:=hs.each i hi;rw[hF]at h1;obtain⟨a1,a2,a3,a4,a5,a6,a7⟩:=h1.at_ hok hi (x:=x) (.inl (by simp));have h0:=h1.none (x:=x) (.inl (by simp));have hc9:=h1.c9;obtain⟨c1,c2,c3,c4,c5,c6,c7⟩:=zai (S.cls i) (by omega) hc9;have hlen:=h1.len h0
 have hfa:∀y∈F,y<4294967296:=fun y hy=>by
  obtain⟨b1,b2,b3,b4,b5,b6,b7⟩:=h1.at_ hok hi (x:=y) (.inl (by simp[hy]));have:=(zbc hok i hi).2.2.2.2;omega
 have hg:F.headD 0<4294967296:=by
  rcases F with _|⟨y,F⟩
  ·exact(by decide:0<4294967296)
  ·exact hfa y (by simp)
 simp at hlen;have k1:=zal hok (x+4) 4 0;have k2:=zb5 k1 x (csz (S.cls i)) 5 (by decide);have k3:=zfc k2 i (S.cls i) ((S.lv i).length+1) (F.headD 0) hc9 (by omega) hg;have o1:Out t (t.setB (x+4) 4 0) x (csz (S.cls i)):=(zay hok (x+4) 4 0 (by omega)).wide (by omega) (by omega);have o2:Out (t.setB (x+4) 4 0) ((t.setB (x+4) 4 0).setK x (csz (S.cls i)) 5) x (csz (S.cls i)):=zdn k1 x _ 5 (by decide) a4;have o3:=zb7 k2 i (S.cls i) ((S.lv i).length+1) (F.headD 0) hc9 (by omega) hg x (csz (S.cls i));have oP:Out t (t.popT i (S.cls i) x ((S.lv i).length+1) (F.headD 0)) x (csz (S.cls i)):=(o1.trans o2 rfl rfl).trans o3 rfl rfl;have sP:Sla t (t.popT i (S.cls i) x ((S.lv i).length+1) (F.headD 0)):=⟨rfl,rfl,rfl,rfl,fun _ _=>rfl⟩;have oU:Out t u x (csz (S.cls i)):=oP.lis k3 huk sP hu
 have hkd:KdOn u x (csz (S.cls i)) 5:=fun g g1 g2=>by
  rw[(hu.out k3 huk 0 0).kd_ g (by show zab t.a t.s≤4*g;omega) (by omega)];exact zgz k1 x _ 5 (by decide) a4 g g1 g2
 have hby:ByOn u x (csz (S.cls i)) (fun _=>0):=fun j hj=>by
  rw[(hu.out k3 huk 0 0).by_ (x+j) (by show zab t.a t.s≤x+j;omega) (by omega)]
  have e1:zah (t.popT i (S.cls i) x ((S.lv i).length+1) (F.headD 0)) (x+j)=zah (t.setB (x+4) 4 0) (x+j):=
   (zb7 k2 i (S.cls i) ((S.lv i).length+1) (F.headD 0) hc9 (by omega) hg 0 0).by_ (x+j) (by show zab t.a t.s≤x+j;omega) (by omega)
  rw[e1,zaq hok (x+4) 4 0 (by omega)];by_cases e:x+4≤x+j∧x+j<x+4+4
  ·rw[if_pos e,nb_0]
  ·rw[if_neg e,h1.free.2.1 j hj]
   unfold lnkB;rw[if_neg (by omega)]
 have hhd:∀j r,r<3→u.hd j r=(t.popT i (S.cls i) x ((S.lv i).length+1) (F.headD 0)).hd j r:=fun j r hr=>hu.hd j r (by omega) (by omega);have hH:Hd1 t u i (S.cls i) ((S.lv i).length+1) (F.headD 0):=⟨hu.a,hu.s,by rw[hhd i 0 (by decide)];unfold TM.popT;rw[zat,if_pos ⟨rfl,rfl⟩],by rw[hhd i 1 (by decide)];unfold TM.popT;rw[zat,if_neg (by omega),if_pos ⟨rfl,rfl⟩],by rw[hhd i 2 (by decide)];unfold TM.popT;rw[zat,if_neg (by omega),if_neg (by omega),if_pos ⟨rfl,rfl⟩]⟩;refine⟨?_,sP.trans hu.sla,oU,hby⟩;refine hs.upd hok hi hu.a hu.s hl (oU.wide a1 (by omega)) (fun j r hj hr=> ?_) (h1.pop hok hi hH oU hkd);rw[hhd j r hr];unfold TM.popT;rw[zat,if_neg (fun h=>hj h.1),if_neg (fun h=>hj h.1),if_neg (fun h=>hj h.1)];rfl
end
section
variable {w : World} {q : MH} {t : TM} {S : SS} {B : Nat}
def PopP(w:World)(q:MH)(t:TM)(S':SS)(B x n:Nat)(e:Ending)(w':World):Prop:=
 e= .returned (.int .i64 x)∧ ∃u,IsH w' q u∧SlI u S'∧Sla t u∧Out t u x n∧ByOn u x n (fun _=>0)∧Fr (B::q.blocks) w w'
theorem zv8{S:SS}{i x:Nat}{F:List Nat}(h0:S.cls i≠0)(hF:S.fr i=x::F)(L:List Nat):(S.set i (S.cls i) F L).inn=if F.headD 0=0∧F= []then up S.inn i (-1)else if F= []then up S.inn i (-1)else S.inn:=by
 rw[zg0,if_neg h0];by_cases e:F= []
 ·rw[if_pos e,e];simp
 ·rw[if_neg e,if_neg (fun h=>e h.2),if_neg e]
  funext j;by_cases ej:j=i
  ·subst ej
   rw[zaa];unfold SS.inn;rw[if_neg h0,if_neg (by rw[hF];simp)]
  ·rw[zac _ _ ej]
theorem ppop(h:IsH w q t)(hs:SlI t S)(i x:Nat)(F:List Nat)(n p:Int)(hi:i<t.a)(hF:S.fr i=x::F)(hb:Blk w B 163 (prC q.m i (sla t i) (S.cls i) (S.lv i).length x n p))(hB:B∉q.blocks)(hg:5≤B):Calls prog 102 #[.pointer (some ⟨B,0,none⟩)] w (PopP w q t (S.set i (S.cls i) F (insS x (S.lv i))) B x (csz (S.cls i))):=by
 have hok:=h.ok;have h1:=hs.each i hi;rw[hF]at h1;obtain⟨a1,a2,a3,a4,a5,a6,a7⟩:=h1.at_ hok hi (x:=x) (.inl (by simp));have h0:=h1.none (x:=x) (.inl (by simp));have hc9:=h1.c9;obtain⟨c1,c2,c3,c4,c5,c6,c7⟩:=zai (S.cls i) (by omega) hc9;have hlen:=h1.len h0;simp at hlen;have hsl:=(zbc hok i hi).2.2.2.2
 have hpos:∀y∈F,0<y∧y<1048576:=fun y hy=>by
  obtain⟨b1,b2,b3,b4,b5,b6,b7⟩:=h1.at_ hok hi (x:=y) (.inl (by simp[hy]));omega
 have hg4:F.headD 0<1048576:=by
  rcases F with _|⟨y,F⟩
  ·exact(by decide:0<1048576)
  ·exact(hpos y (by simp)).2
 have hfr:=h1.free;have hhd:HeadTo t x 0 6 (lkN (F.headD 0)) 12:=zo0 hfr.1 hfr.2.1 (by omega) (by omega) a4 a6 (by omega);have hhv:hvN 0 (lkN (F.headD 0)) 4=F.headD 0:=rfl
 have HLd:=hid (fun W (hW:IsH W q t)=>by
  have:=zoc hW hhd (.inr ⟨by decide,rfl⟩) 4;rw[hhv]at this;exact this)
 have ht1:t.hst x 0 4 0=t.setB (x+4) 4 0:=rfl
 have HSt:=hid (fun W (hW:IsH W q t)=>by
  have:=zj9 hW hhd (.inr ⟨by decide,rfl⟩) 4 0 (by decide);rw[ht1,show hstB 0 4 0=true from rfl]at this;exact(show Calls prog 200 #[.pointer (some ⟨q.m,0,none⟩),.int .i64 x,.int .i64 4,.int .u64 0] W _ from this))
 have k1:=zal hok (x+4) 4 0;have k2:=zb5 k1 x (csz (S.cls i)) 5 (by decide);have k3:=zfc k2 i (S.cls i) ((S.lv i).length+1) (F.headD 0) hc9 (by omega) (by omega);have HMk:=hid (fun W (hW:IsH W q (t.setB (x+4) 4 0))=>zn3 hW x (csz (S.cls i)) 5 a4 (by omega) (by omega) a6 (by decide) x (csz (S.cls i)) 5 rfl rfl rfl);have HSe:=hid (fun W (hW:IsH W q ((t.setB (x+4) 4 0).setK x (csz (S.cls i)) 5))=>zsk hW i (sla t i) (S.cls i) (((S.lv i).length:Int)+1) (F.headD 0) n p i (S.cls i) ((S.lv i).length+1) (F.headD 0) hi hc9 (by omega) (by omega) rfl rfl rfl rfl);have HSz:=hid (fun W (hW:TabM W)=>zmc hW q.m i (sla t i) (S.cls i) (S.lv i).length (F.headD 0) n p (S.cls i) hc9 rfl);have hls:LS (t.popT i (S.cls i) x ((S.lv i).length+1) (F.headD 0)) S.inn:=hs.ls.same rfl (fun _=>rfl) (fun y r hr=>by unfold TM.popT;rw[zhh _ _ _ _ _ _ _ hr];rfl);have hini:S.inn i=S.cls i:=by unfold SS.inn;rw[if_neg h0,if_neg (by rw[hF];simp)]
 have HEnd:=hid (fun u (huk:u.Ok) hu hl=>zpt hok hs hi hF u huk hu hl);have hpin:=zv8 h0 hF (insS x (S.lv i))
 have u1:IntKind.u32.wrap ((F.headD 0:Nat):Int)=((F.headD 0:Nat):Int):=by
  have:IntKind.u32.wrap ((F.headD 0:Nat):Int)=((F.headD 0:Nat):Int) %4294967296:=rfl;omega
 have w1:IntKind.i64.wrap (x:Int)=(x:Int):=i64_in _ (by omega);have w2:IntKind.i64.wrap (((S.lv i).length:Int)+1)=((S.lv i).length:Int)+1:=i64_in _ (by omega);have H0:=hid h;have HB:=hid hb;have HE1:=hid (fun t' W' W'' (h1:IsH W' q t') (hf:Fr [B] W' W'')=>h1.fr1 hf hB hg);have HLS:=hid hls;have HRm:=hid (fun W hW=>hrem (w:=W) (q:=q) (t:=t.popT i (S.cls i) x ((S.lv i).length+1) (F.headD 0)) hW hls (S.cls i) i)
 have hE:remE t.a S.inn (S.cls i) i=0:=by
  unfold remE;rw[za8 hc9 hi,if_neg (by decide),Int.toNat_natCast,if_neg (fun h=>h hini)]
 have hI:remI t.a S.inn (S.cls i) i=up S.inn i (-1):=by unfold remI;rw[hE,if_pos rfl,Int.toNat_natCast]
 rw[show(t.popT i (S.cls i) x ((S.lv i).length+1) (F.headD 0)).a=t.a from rfl,hE,hI]at HRm;have hT:∀l g,((t.setB (x+4) 4 0).setK x (csz (S.cls i)) 5).setL i (S.cls i) l g=t.popT i (S.cls i) x l g:=fun _ _=>rfl;rw[hT]at HSe;unfold prC at HB HSe HSz;unfold PopP;have HU:=hid (show(F= []→(S.set i (S.cls i) F (insS x (S.lv i))).inn=up S.inn i (-1))∧(F≠ []→(S.set i (S.cls i) F (insS x (S.lv i))).inn=S.inn)from⟨fun e=>by rw[hpin];subst e;simp,fun e=>by rw[hpin,if_neg (fun h=>e h.2),if_neg e]⟩);have hlt:=h.m.lt;have hx0:(0:Int)≤x:=by omega
 generalize hT1:t.setB (x+4) 4 0=t1 at*;generalize t1.setK x (csz (S.cls i)) 5=t2 at*;generalize(S.set i (S.cls i) F (insS x (S.lv i)))=S' at*;generalize t.popT i (S.cls i) x ((S.lv i).length+1) (F.headD 0)=t3 at*;generalize sla t i=z at*;generalize csz (S.cls i)=s at*;generalize hfx:F.headD 0=f at*;generalize(S.lv i).length=l at*;generalize S.cls i=c at*;have HFX:=hid hfx;have HPOS:=hid hpos;clear hs h1 hfr hhd hls hini hE hI hT hpin h hb hT1 hfx hpos h0 hhv ht1;generalize q.m=m at*;go_enter func102,ntmps102;(have d0:=HB.out.cell 0;have z0:=HB.out.frozen 0;have d1:=HB.out.cell 1;have z1:=HB.out.frozen 1;have d2:=HB.out.cell 2;have z2:=HB.out.frozen 2;have d3:=HB.out.cell 3;have z3:=HB.out.frozen 3;have d4:=HB.out.cell 4;have z4:=HB.out.frozen 4;have d5:=HB.out.cell 5;have z5:=HB.out.frozen 5;have d6:=HB.out.cell 6;have z6:=HB.out.frozen 6;have d7:=HB.out.cell 7;have z7:=HB.out.frozen 7;simp at d0 d1 d2 d3 d4 d5 d6 d7);go_wp2_with fail;with_reducible refine(HLd.out _ H0.out).mono ?_
 rintro e w2 ⟨rfl,h2,f2⟩;have B2:=hid (HB.out.fr f2 hB);have H2:=hid h2;have F2:=hid f2;clear h2 f2;clear d0 z0 d1 z1 d2 z2 d3 z3 d4 z4 d5 z5 d6 z6 d7 z7;(have d0:=B2.out.cell 0;have z0:=B2.out.frozen 0;have d1:=B2.out.cell 1;have z1:=B2.out.frozen 1;have d2:=B2.out.cell 2;have z2:=B2.out.frozen 2;have d3:=B2.out.cell 3;have z3:=B2.out.frozen 3;have d4:=B2.out.cell 4;have z4:=B2.out.frozen 4;have d5:=B2.out.cell 5;have z5:=B2.out.frozen 5;have d6:=B2.out.cell 6;have z6:=B2.out.frozen 6;have d7:=B2.out.cell 7;have z7:=B2.out.frozen 7;simp at d0 d1 d2 d3 d4 d5 d6 d7);go_wp2_with fail;have b3:=B2.out.set 5 (.int .u32 f);simp at b3;have B3:=hid b3;have g3:Fr [B] w2 (w2.setCell ⟨B,5,none⟩ (.int .u32 f)):=(Fr.refl _ _).setCell (.inl (by simp)) _;have H3:=hid (HE1.out _ _ _ H2.out g3);have F3:=hid (show Fr (B::q.blocks) w (w2.setCell ⟨B,5,none⟩ (.int .u32 f))from(F2.out.mono (fun k hk=> .inl (List.mem_cons_of_mem _ hk))).setCell (.inl (by simp)) _);clear b3 g3;clear d0 z0 d1 z1 d2 z2 d3 z3 d4 z4 d5 z5 d6 z6 d7 z7;generalize w2.setCell ⟨B,5,none⟩ (.int .u32 f)=w3 at*;with_reducible refine(HSt.out _ H3.out).mono ?_
 rintro e w4 ⟨rfl,h4,f4⟩;have B4:=hid (B3.out.fr f4 hB);have H4:=hid h4;have F4:=hid (F3.out.trans (f4.mono (S':=B::q.blocks) (fun k hk=> .inl (List.mem_cons_of_mem _ hk))));clear h4 f4;go_wp2_with fail;have hY:=blk8 B4.out.drew;refine wp_region_held_drew (S:=fun W'=>W'.cell? ⟨B,0,none⟩=some (.pointer (some ⟨m,0,none⟩))∧W'.cell? ⟨B,1,none⟩=some (.int .i64 (i))∧W'.cell? ⟨B,2,none⟩=some (.int .i64 (z))∧W'.cell? ⟨B,3,none⟩=some (.int .i64 (c))∧W'.cell? ⟨B,4,none⟩=some (.int .i64 (l))∧W'.cell? ⟨B,5,none⟩=some (.int .u32 (f))∧W'.cell? ⟨B,6,none⟩=some (.int .i64 (n))∧W'.cell? ⟨B,7,none⟩=some (.int .i64 (p))) (by kernel_rfl) (hY) (fun yH=> ?_);refine tkY 0 yH ?_;refine tkY 1 yH ?_;refine tkY 2 yH ?_;refine tkY 3 yH ?_;refine tkY 4 yH ?_;refine tkY 5 yH ?_;refine tkY 6 yH ?_;refine tkY 7 yH ?_;refine tkC 8 fun K hK=> ?_;go_simp;with_reducible refine(HSz.out _ H4.out.drew.m.tab).mono ?_
 rintro e w5 ⟨rfl,f5⟩;have B5:=hid (B4.out.drew.fr f5 (by simp));have H5:=hid (H4.out.drew.fr0 f5);have F5:=hid (F4.out.drew.step f5 (by simp));have hY:=blk8 B5.out;clear f5;go_wp2_with fail;refine hK.out _ _ _ hY fun yH=> ?_;clear hK K;refine tkC 9 fun K hK=> ?_;go_simp;with_reducible refine(HMk.out _ H5.out).mono ?_
 rintro e w6 ⟨rfl,h6,f6⟩;have B6:=hid (B5.out.fr f6 hB);have H6:=hid h6;have F6:=hid (F5.out.trans (f6.mono (S':=B::q.blocks) (fun k hk=> .inl (List.mem_cons_of_mem _ hk))));have hY:=blk8 B6.out;clear f6 h6;go_wp2_with fail;refine hK.out _ _ _ hY fun yH=> ?_;clear hK K;refine wpAnyH_done (by kernel_rfl) ?_ _;clear hY;(have d0:=B6.out.cell 0;have z0:=B6.out.frozen 0;have d1:=B6.out.cell 1;have z1:=B6.out.frozen 1;have d2:=B6.out.cell 2;have z2:=B6.out.frozen 2;have d3:=B6.out.cell 3;have z3:=B6.out.frozen 3;have d4:=B6.out.cell 4;have z4:=B6.out.frozen 4;have d5:=B6.out.cell 5;have z5:=B6.out.frozen 5;have d6:=B6.out.cell 6;have z6:=B6.out.frozen 6;have d7:=B6.out.cell 7;have z7:=B6.out.frozen 7;simp at d0 d1 d2 d3 d4 d5 d6 d7);go_wp2_with fail;have b7:=B6.out.set 4 (.int .i64 ((l:Int)+1));simp at b7;have B7:=hid b7;have g7:Fr [B] w6 (w6.setCell ⟨B,4,none⟩ (.int .i64 ((l:Int)+1))):=(Fr.refl _ _).setCell (.inl (by simp)) _;have H7:=hid (HE1.out _ _ _ H6.out g7);have F7:=hid (show Fr (B::q.blocks) w (w6.setCell ⟨B,4,none⟩ (.int .i64 ((l:Int)+1)))from F6.out.setCell (.inl (by simp)) _);clear b7 g7;clear d0 z0 d1 z1 d2 z2 d3 z3 d4 z4 d5 z5 d6 z6 d7 z7;generalize w6.setCell ⟨B,4,none⟩ (.int .i64 ((l:Int)+1))=w7 at*;with_reducible refine(HSe.out _ H7.out).mono ?_
 rintro e w8 ⟨rfl,h8,f8⟩;have B8:=hid (B7.out.fr f8 hB);have H8:=hid h8;have F8:=hid (F7.out.trans (f8.mono (S':=B::q.blocks) (fun k hk=> .inl (List.mem_cons_of_mem _ hk))));clear h8 f8;by_cases hF0:F= []
 ·have hf0:f=0:=by rw[←HFX.out,hF0];rfl
  have b0:((f:Int)==0)=true:=by simp[hf0]
  have HU1:=hid (HU.out.1 hF0);have HFZ:=hid hF0;clear hF0 hf0 HU;(have d0:=B8.out.cell 0;have z0:=B8.out.frozen 0;have d1:=B8.out.cell 1;have z1:=B8.out.frozen 1;have d2:=B8.out.cell 2;have z2:=B8.out.frozen 2;have d3:=B8.out.cell 3;have z3:=B8.out.frozen 3;have d4:=B8.out.cell 4;have z4:=B8.out.frozen 4;have d5:=B8.out.cell 5;have z5:=B8.out.frozen 5;have d6:=B8.out.cell 6;have z6:=B8.out.frozen 6;have d7:=B8.out.cell 7;have z7:=B8.out.frozen 7;simp at d0 d1 d2 d3 d4 d5 d6 d7);go_wp2_with fail;have hY:=blk8 B8.out.drew;clear d0 z0 d1 z1 d2 z2 d3 z3 d4 z4 d5 z5 d6 z6 d7 z7;refine wp_region_held_drew (S:=fun W'=>W'.cell? ⟨B,0,none⟩=some (.pointer (some ⟨m,0,none⟩))∧W'.cell? ⟨B,1,none⟩=some (.int .i64 (i))∧W'.cell? ⟨B,2,none⟩=some (.int .i64 (z))∧W'.cell? ⟨B,3,none⟩=some (.int .i64 (c))∧W'.cell? ⟨B,4,none⟩=some (.int .i64 ((l:Int)+1))∧W'.cell? ⟨B,5,none⟩=some (.int .u32 (f))∧W'.cell? ⟨B,6,none⟩=some (.int .i64 (n))∧W'.cell? ⟨B,7,none⟩=some (.int .i64 (p))) (by kernel_rfl) (hY) (fun yH=> ?_);refine tkY 0 yH ?_;refine tkY 1 yH ?_;refine tkY 2 yH ?_;refine tkY 3 yH ?_;refine tkY 4 yH ?_;refine tkY 5 yH ?_;refine tkY 6 yH ?_;refine tkY 7 yH ?_;refine tkY 8 yH ?_;refine tkY 9 yH ?_;refine tkY 10 yH ?_;refine tkY 11 yH ?_;refine tkY 12 yH ?_;refine tkC 13 fun K hK=> ?_;go_simp;with_reducible refine(HRm.out _ H8.out.drew).mono ?_
  rintro e w9 ⟨rfl,u,h9,l9,k9,f9⟩;have B9:=hid (B8.out.drew.fr f9 hB);have H9:=hid h9;have L9:=hid l9;have K9:=hid k9;have F9:=hid (F8.out.drew.trans (f9.mono (S':=B::q.blocks) (fun k hk=> .inl (List.mem_cons_of_mem _ hk))));have hY:=blk8 B9.out;clear f9 h9 l9 k9;go_wp2_with fail;refine hK.out _ _ _ hY fun yH=> ?_;clear hK K;refine wpAnyH_done (by kernel_rfl) ?_ _;clear hY;go_wp2_with fail;go_ret;obtain⟨e1,e2,e3,e4⟩:=HEnd.out u H9.out.ok K9.out (by rw[HU1.out];exact L9.out);exact⟨rfl,u,H9.out,e1,e2,e3,e4,F9.out⟩
 ·have hf0:0<f:=by
   rcases F with _|⟨y,F⟩
   ·exact absurd rfl hF0
   ·have:=(HPOS.out y (by simp)).1
    have:=HFX.out;simp at this;omega
  have b0:((f:Int)==0)=false:=by simp;omega
  have HU1:=hid (HU.out.2 hF0);clear hF0 hf0 HU;(have d0:=B8.out.cell 0;have z0:=B8.out.frozen 0;have d1:=B8.out.cell 1;have z1:=B8.out.frozen 1;have d2:=B8.out.cell 2;have z2:=B8.out.frozen 2;have d3:=B8.out.cell 3;have z3:=B8.out.frozen 3;have d4:=B8.out.cell 4;have z4:=B8.out.frozen 4;have d5:=B8.out.cell 5;have z5:=B8.out.frozen 5;have d6:=B8.out.cell 6;have z6:=B8.out.frozen 6;have d7:=B8.out.cell 7;have z7:=B8.out.frozen 7;simp at d0 d1 d2 d3 d4 d5 d6 d7);go_wp2_with fail;go_ret;obtain⟨e1,e2,e3,e4⟩:=HEnd.out t3 H8.out.ok (Lis.refl t3) (by rw[HU1.out];exact HLS.out);exact⟨rfl,t3,H8.out,e1,e2,e3,e4,F8.out⟩
end
theorem zlm{f:FuncId}{fn:Func}{c:Code}(hf:prog.funcs[f]?=some fn)(hname:(fn.name== "runtime.NumGoroutine")=false)(hb:fn.body=some c)(args:Array Value)(w:World):(callFunc f args).run prog w= .ok (.enter f args) w:=by
 have h1:fn.name≠ "runtime.NumGoroutine":=by simpa using hname
 simp[callFunc,hf,h1,hb]
section
variable {w : World}
theorem z0q(m:Nat)(i z c l f n p:Int)(k z':Nat)(hk:1≤k∧k≤9)(hc:c=k)(hz:z=z')(hz4:z'≤1048576)(F:FuncId)(caps:Array Value)(hcf: ∀(args:Array Value) (w:World),(callFunc F args).run prog w= .ok (.enter F args) w)(Inv:Nat→World→Prop)
  (h0:Inv 0 (w.alloc (.cells (prC m i z c l f n p) 163))) (hT: ∀j W,Inv j W→TabM W∧Blk W w.heap.size 163 (prC m i z c l f n p))
  (hdo: ∀j W,j<nbk k→Inv j W→Calls prog F (#[.int .i64 (z'+csz k*j:Nat)] ++caps) W fun e w'=>e= .returned (.tuple #[])∧Inv (j+1) w'):
  Calls prog 204 #[.agg (prC m i z c l f n p),.func (.func F) #[] caps] w fun e w'=>e= .returned (.tuple #[])∧Inv (nbk k) w':=by
 have hb:=hid (fun W hW=>by
  have:=zir (w:=W) hW c
  rw[hc,zk1 k hk.2,←hc]at this
  exact this)
 have hp:=hid (fun W hW j hj=>by
  have:=zzg (w:=W) hW k j hk hj
  rw[←hc]at this
  exact this)
 obtain⟨c1,c2,c3,c4,c5,c6,c7⟩:=zai k hk.1 hk.2
 have hadd: ∀j,j<nbk k→IntKind.i64.wrap (z+((csz k*j:Nat):Int))=((z'+csz k*j:Nat):Int):=fun j hj=>by
  have:csz k*j≤512*32:=Nat.mul_le_mul c3 (by omega)
  rw[hz,Int.natCast_add]
  exact i64_in _ (by omega)
 have HADD:=hid hadd
 have HDO:=hid hdo
 have HT:=hid hT
 have H0:=hid h0
 generalize nbk k=N at*
 generalize csz k=s at*
 unfold prC at H0 HT⊢
 clear hk hc hz hdo hT h0 hadd c1 c2 c3 c4 c6 c7
 go_enter func204,ntmps204
 go_wp2_with fail
 (have d0:=((HT.out _ _ H0.out).2).cell 0;have z0:=((HT.out _ _ H0.out).2).frozen 0;have d1:=((HT.out _ _ H0.out).2).cell 1;have z1:=((HT.out _ _ H0.out).2).frozen 1;have d2:=((HT.out _ _ H0.out).2).cell 2;have z2:=((HT.out _ _ H0.out).2).frozen 2;have d3:=((HT.out _ _ H0.out).2).cell 3;have z3:=((HT.out _ _ H0.out).2).frozen 3;have d4:=((HT.out _ _ H0.out).2).cell 4;have z4:=((HT.out _ _ H0.out).2).frozen 4;have d5:=((HT.out _ _ H0.out).2).cell 5;have z5:=((HT.out _ _ H0.out).2).frozen 5;have d6:=((HT.out _ _ H0.out).2).cell 6;have z6:=((HT.out _ _ H0.out).2).frozen 6;have d7:=((HT.out _ _ H0.out).2).cell 7;have z7:=((HT.out _ _ H0.out).2).frozen 7;simp at d0 d1 d2 d3 d4 d5 d6 d7)
 go_wp2_with fail
 with_reducible refine(hb.out _ (HT.out _ _ H0.out).1).mono ?_
 rintro e w1 ⟨rfl,rfl⟩
 clear d0 z0 d1 z1 d2 z2 d3 z3 d4 z4 d5 z5 d6 z6 d7 z7
 go_wp2_with fail
 go_loopw [11] (fun v W=> ∃j:Nat,j≤N∧v= .int .i64 j∧Inv j W) (fun v _=>N-(intOf v).toNat)
 case atStart=>exact⟨0,by omega,rfl,H0.out⟩
 case round=>
  clear H0
  obtain⟨j,hj,rfl,hI⟩:=hrel
  have HI:=hid hI
  clear hI
  by_cases hlt:j<N
  ·have b1':decide (j<N)=true:=by simp;omega
   have w3:=i64_in ((j:Int)+1) (by omega)
   have hpl:=hp.out _ (HT.out _ _ HI.out).1 j hlt
   have hd:=HDO.out j _ hlt HI.out
   have hw:=HADD.out j hlt
   rw[Int.natCast_add]at hd hw
   generalize s*j=sj at*
   (have d0:=((HT.out _ _ HI.out).2).cell 0;have z0:=((HT.out _ _ HI.out).2).frozen 0;have d1:=((HT.out _ _ HI.out).2).cell 1;have z1:=((HT.out _ _ HI.out).2).frozen 1;have d2:=((HT.out _ _ HI.out).2).cell 2;have z2:=((HT.out _ _ HI.out).2).frozen 2;have d3:=((HT.out _ _ HI.out).2).cell 3;have z3:=((HT.out _ _ HI.out).2).frozen 3;have d4:=((HT.out _ _ HI.out).2).cell 4;have z4:=((HT.out _ _ HI.out).2).frozen 4;have d5:=((HT.out _ _ HI.out).2).cell 5;have z5:=((HT.out _ _ HI.out).2).frozen 5;have d6:=((HT.out _ _ HI.out).2).cell 6;have z6:=((HT.out _ _ HI.out).2).frozen 6;have d7:=((HT.out _ _ HI.out).2).cell 7;have z7:=((HT.out _ _ HI.out).2).frozen 7;simp at d0 d1 d2 d3 d4 d5 d6 d7)
   go_wp2_with fail
   with_reducible refine hpl.mono ?_
   rintro e w2 ⟨rfl,rfl⟩
   clear hpl
   go_wp2_with fail
   with_reducible refine hd.mono ?_
   rintro e w3 ⟨rfl,h3⟩
   have H3:=hid h3
   clear h3 hd
   clear d0 z0 d1 z1 d2 z2 d3 z3 d4 z4 d5 z5 d6 z6 d7 z7
   go_wp2_with fail
   go_roundw
   case rel=>exact⟨j+1,by omega,by go_num,H3.out⟩
   case measure=>simp[intOf];omega
  ·obtain rfl:j=N:=by omega
   have b1':decide (j<j)=false:=by simp
   go_wp2_with fail
   go_end0
   exact⟨rfl,HI.out⟩
theorem zup(G base:Nat)(v:Value)(L:List Nat)(x:Nat)(hG:Blk w G 30 #[v])(hO:w.ownsRow base 3 1 v L.length (intC L))(hl:L.length≤1024)(hb:base≤w.heap.size):Calls prog 205 #[.int .i64 x,.pointer (some ⟨G,0,none⟩)] w fun e w'=>e= .returned (.tuple #[])∧∃v',Blk w' G 30 #[v']∧w'.ownsRow base 3 1 v' (L++ [x]).length (intC (L++ [x]))∧(v'.ownBlock=v.ownBlock∨v'.ownBlock=some (w.heap.size+1))∧Fr (G::ownS v) w w':=by
 have c0:=hG.cell 0;simp at c0;have HG:=hid hG;have HO:=hid hO;have hgl:=hG.lt
 have hvG:G∉ownS v:=fun hm=>by
  have hv:=zbw hm;obtain⟨h1,⟨h2,h3⟩|⟨g,cap,cur,rfl,hb,hg,r1,r2,r3,r4⟩⟩:=hO
  ·rw[h2]at hv;simp[Value.ownBlock]at hv
  ·simp[Value.ownBlock]at hv
   subst hv;exact Blk.ne_ (w:=w) (g:=g) (g':=g) hG hg (by decide) rfl
 clear hG hO;go_enter func205,ntmps205;go_wp2_with (at_builtin;refine zb9 rfl _ _ rfl rfl base v L rfl x w rfl HO.out rfl (by omega) hb ?_;intro g1 cap1 W1 hO1 hF1 hob1;have hG1:=HG.out.fr hF1 hvG;have d0:=hG1.cell 0;have z0:=hG1.frozen 0;simp at d0);have hO2:(W1.setCell ⟨G,0,none⟩ (.slice (some ⟨g1,0,none⟩) (L.length+1) cap1)).ownsRow base 3 1 (.slice (some ⟨g1,0,none⟩) (L.length+1) cap1) (L++ [x]).length (intC (L++ [x])):=zj2 hO1 hG1 (by decide) 0 _;have hB2:=hG1.set 0 (.slice (some ⟨g1,0,none⟩) (L.length+1) cap1);simp at hB2;have f2:Fr (G::ownS v) w (W1.setCell ⟨G,0,none⟩ (.slice (some ⟨g1,0,none⟩) (L.length+1) cap1)):=(hF1.mono (S':=G::ownS v) (fun k hk=> .inl (List.mem_cons_of_mem _ hk))).setCell (.inl (by simp)) _;clear d0 z0;go_end0;exact⟨rfl,_,hB2,hO2,hob1.imp (fun h=>h.symm) (fun h=>by rw[h];rfl),f2⟩
end
end Go.Proofs.YtolhkhdbgnciiaaGreatDoor
