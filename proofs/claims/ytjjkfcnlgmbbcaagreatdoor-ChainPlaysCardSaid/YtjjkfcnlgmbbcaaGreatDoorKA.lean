/- Several texts in one. -/
import Derived.Test.YtjjkfcnlgmbbcaaGreatDoorGG
import Derived.Test.YtjjkfcnlgmbbcaaGreatDoorGI
import Derived.Test.YtjjkfcnlgmbbcaaGreatDoorKT
namespace Go.Proofs.YtjjkfcnlgmbbcaaGreatDoor
set_option linter.unusedVariables false
set_option linter.unusedSimpArgs false
open Go.RowKit
section
variable {w : World} {q : MH} {t : TM}
def TM.nxt(t:TM)(x v:Nat):TM:=t.setB (x+8) 4 v
def TM.prv(t:TM)(x v:Nat):TM:=t.setB (x+12) 4 v
end
section
variable {w : World} {q : MH} {t : TM}
end
section
variable {w : World} {q : MH} {t : TM}
end
section
variable {w : World} {q : MH} {t : TM}
def TM.rnm(t:TM)(fr to:Nat):TM:=if t.rt 14=fr then(if t.rt 13=fr then t.setRt 13 to else t).setRt 14 to else(if t.rt 13=fr then t.setRt 13 to else t)
end
section
variable {w : World} {q : MH} {t u : TM}
variable {L : Nat → Prop} {E : Nat → HB}
end
section
variable {E E' : Nat → HB}
end
section
variable {t u : TM} {L : Nat → Prop} {E E' : Nat → HB} {R : List Nat} {b : Nat}
end
section
variable {t u : TM} {L : Nat → Prop} {E E' : Nat → HB} {b : Nat}
def TM.rem(t:TM)(x n p to:Nat)(k:Nat):TM:=((((((t.rnm x to).nxt p n).prv n p).nxt x 0).prv x 0)).setRt 15 k
end
section
variable {w : World} {q : MH} {t : TM} {L : Nat → Prop} {E : Nat → HB} {R : List Nat} {b : Nat}
end
section
variable {w : World} {q : MH} {t : TM} {L : Nat → Prop} {E : Nat → HB} {R : List Nat} {b : Nat}
end
section
variable {t u : TM} {S : SS} {x n : Nat}
theorem LS.same'{inn:Nat→Int}(h:LS t inn)(ha:u.a=t.a)(hr:∀c,c≤9→u.rt (3+c)=t.rt (3+c))(hh:∀y r,r=3∨r=4→u.hd y r=t.hd y r):LS u inn:=by
 refine⟨fun c hc=> ?_,fun x hx hn=> ?_,fun x hx=>h.le x (by rw[←ha];exact hx)⟩
 ·rw[ha,hr c hc]
  exact Lk.same (t:=t) (u:=u) ha (h.ln c hc) (fun y _=>⟨hh y 3 (.inl rfl),hh y 4 (.inr rfl)⟩)
 ·rw[hh x 3 (.inl rfl),hh x 4 (.inr rfl)];exact h.out x (by rw[←ha];exact hx) hn
theorem SlI.inner(hs:SlI t S)(hok:t.Ok)(h:Lv t.a S x n)(ea:u.a=t.a)(es:u.s=t.s)(er:∀c,c≤9→u.rt (3+c)=t.rt (3+c))(eh:u.hd=t.hd)(ek:u.kd=t.kd)(o0:Out t u x n):SlI u S:=by
 obtain⟨b1,b2,b3,b4,b5,b6,b7⟩:=lv_at hs hok h;obtain⟨i,hi,hx,rfl⟩:=h;have e1:=hs.each i hi;have h0:=e1.none (.inr hx);obtain⟨a1,a2,a3,a4,a5,a6,a7⟩:=e1.at_ hok hi (.inr hx);obtain⟨c1,c2,c3,c4,c5,c6,c7⟩:=csz_tab (S.cls i) (by omega) e1.c9;obtain⟨z1,z2,z3,z4,z5⟩:=sla_ok hok i hi;have hkd:∀g,kindAt u g=kindAt t g:=fun g=>by unfold kindAt;rw[ea,es,ek]
 have hK:∀{y m k:Nat},KdOn t y m k→KdOn u y m k:=fun hk g g1 g2=>by rw[hkd];exact hk g g1 g2
 have hsla:∀j,sla u j=sla t j:=sla_as ea es;refine⟨hs.ls.same' ea er (fun _ _ _=>by rw[eh]),fun j hj=> ?_⟩;have hj':j<t.a:=by rw[←ea];exact hj
 by_cases e:j=i
 ·subst e
  refine⟨by rw[eh];exact e1.h0,by rw[eh];exact e1.h1,by rw[eh];exact e1.h2,e1.c9,fun e=>absurd e h0,fun h0=> ?_,e1.so,fun y hy=>hK (e1.live y hy),?_,fun h0=>by rw[hsla];exact hK (e1.pk h0),fun _=> ?_⟩
  ·have:adr u j (S.cls j)=adr t j (S.cls j):=by funext k;exact adr_as ea es j _ k
   rw[this];exact e1.perm h0
  ·refine e1.free.out o0 (fun y hy=> ?_)
   obtain⟨q1,q2,q3,q4,q5,q6,q7⟩:=e1.at_ hok hi (x:=y) (.inl hy);have hne:y≠x:=fun e=>(List.nodup_append.1 (e1.nodup h0)).2.2 y hy x hx e;exact⟨q4,by omega,(e1.apart (.inl hy) (.inr hx) hne)⟩
  ·rw[hsla]
   exact(e1.pb h0).out o0 (by omega) (by omega)
 ·refine(hs.each j hj').other hok hj' ea es (fun _ _=>by rw[eh]) o0 ?_
  have:=sla_apart t e;omega
end
section
variable {w : World} {q : MH} {t : TM} {L : Nat → Prop} {E : Nat → HB} {R : List Nat} {b : Nat}
end
section
variable {w : World} {q : MH} {t : TM} {L : Nat → Prop} {E : Nat → HB} {R : List Nat} {b : Nat}
end
section
variable {w : World} {q : MH} {t : TM} {L : Nat → Prop} {E : Nat → HB} {R : List Nat} {b : Nat}
end
section
variable {t u : TM} {L : Nat → Prop} {E : Nat → HB} {R : List Nat} {b : Nat}
end
end Go.Proofs.YtjjkfcnlgmbbcaaGreatDoor
