/- Several texts in one. -/
import Derived.Test.YtolhkhdbgnciiaaGreatDoorMC
namespace Go.Proofs.YtolhkhdbgnciiaaGreatDoor
open _root_.Go.Proofs.Tryz
open Go.Lib (hid)
open Go.IntWalk (i64_in)
set_option linter.unusedVariables false
set_option linter.unusedSimpArgs false
open Go.RowKit
set_option maxRecDepth 100000
set_option maxHeartbeats 1000000
section
variable {w0 W : World} {q : MH} {S : SS} {x y n c : Nat} {u v : TM} {L : Nat → Prop} {E : Nat → HB} {B : Nat → List Nat} {X : HB} {b : List Nat}
theorem zs2(g:WB w0 q S L u E B W)(hlv:Lv 7 S x n)(hno:¬L x)(hX:X.Ok)(hr:X.right=true)(ht:X.tag=1∨X.tag=2):Calls prog 89 #[.pointer (some ⟨q.m,0,none⟩),.int .i64 x,X.val] W fun e w'=>e= .returned (.int .i64 0)∧Fr q.blocks W w'∧∃v,WB w0 q S L v E B w'∧BlkE v x X∧v.sl=u.sl∧v.rt=u.rt:=by
 have ok:=g.h.m.ok;have htn:X.tag=(X.tag.toNat:Int):=by rcases ht with e|e<;>rw[e] <;>rfl
 have htg:X.tag.toNat≤2:=by rcases ht with e|e<;>rw[e] <;>decide
 have ht0:X.tag.toNat≠0:=by rcases ht with e|e<;>rw[e] <;>decide
 have hz:=zec X.tag.toNat htg;obtain⟨b1,b2,b3,b4,b5,b6,b7⟩:=g.at_ hlv;have hh:HeadTo u x X.tag.toNat 5 X.num 0:=⟨htg,b1,by omega,by omega,by decide,fun g g1 g2=>b7 g g1 (by omega),fun f hf=>absurd hf (Nat.not_lt_zero _),fun f hf=>absurd hf (Nat.not_lt_zero _)⟩;have hn:∀f,f<12→(wh X.tag.toNat f).2≠0→X.num f<256^(wh X.tag.toNat f).2:=fun f hf h0=>zp2 X hX X.tag.toNat (by omega) htn hr f hf h0;have as_:=zfn u x X.tag.toNat X.num 12;obtain⟨r1,r2,r3,r4,r5⟩:=zea u x X.tag.toNat X.num 12;have hE:=ze6 ok hh hn 12 (Nat.le_refl _);have ho:=(zhl ok b1 htg X.num 12 (Nat.le_refl _)).wide (y:=x) (m:=n) (Nat.le_refl _) (by omega);refine(zlb W q u g.h x X.tag.toNat 5 X.num hh X hX hr htn (.inr ⟨rfl,ht0⟩)).mono fun e w' ⟨he,k1,k2⟩=>⟨he,k2,_,g.one k1 k2 hlv hno as_.1 as_.2 r5 r4 r1 r2 r3 ho,⟨hE,hX,hr,ht⟩,r5,r1⟩
theorem zq8(g:WB w0 q S L u E B W)(hlv:Lv 7 S x n)(hno:¬L x)(hX:BlkE u x X)(ht:X.tag=2){a:Option Addr}{c:Nat}{l:List Nat}(hb:Byt W a l)(hg:∀g o,a=some ⟨g,o,none⟩→g≠q.pw)(hl:16+l.length≤n):Calls prog 90 #[.pointer (some ⟨q.m,0,none⟩),.int .i64 ((x:Int)+16),.slice a l.length c,.int .i64 5] W fun e w'=>e= .returned (.bool true)∧Fr q.blocks W w'∧∃v,WB w0 q S L v E B w'∧BlkE v x X∧v.sl=u.sl∧v.rt=u.rt∧ByOn v (x+16) l.length (fun j=>l[j]?.getD 0):=by
 have ok:=g.h.m.ok;obtain⟨b1,b2,b3,b4,b5,b6,b7⟩:=g.at_ hlv
 have hf:∀j,j<l.length→(fun j=>l[j]?.getD 0) j<256:=fun j hj=>by
  show l[j]?.getD 0<256;rw[List.getElem?_eq_getElem hj];exact hb.byte _ (List.getElem_mem hj)
 have ho:=(zka ok (x+16) l.length (fun j=>l[j]?.getD 0) hf (by omega)).wide (y:=x) (m:=n) (by omega) (by omega);have hon:=zpa ok (x+16) l.length (fun j=>l[j]?.getD 0) hf (by omega);refine(zt6 g.h.m (x+16) ((l.length+3)/4*4) 5 c a l hb hg (by omega) (by omega) (fun g g1 g2=>b7 g (by omega) (by omega)) (by omega) (by omega) (by omega) (by decide) _ _ (by push_cast;rfl) rfl).mono fun e w' ⟨he,k1,k2⟩=>⟨he,k2,_,g.one (g.h.step k1 k2) k2 hlv hno rfl rfl rfl rfl rfl rfl rfl ho,?_,rfl,rfl,hon⟩;have hsz:sz X.tag.toNat=16:=by rw[ht];rfl
 refine hX.keep rfl rfl (fun g g1 g2=>b7 g g1 (by omega)) (by omega) (fun k hk=> ?_);rw[zbm ok (x+16) l.length _ hf (by omega),if_neg (by omega)]
theorem zj0(g:WB w0 q S L u E B W)(hx:L x)(ht:(E x).tag=2)(d:Int)(n:Nat)(hn:((E x).refs:Int)+d=n)(hd: -1≤d∧d≤1)(hn4:n<4294967296):Calls prog 214 #[.pointer (some ⟨q.m,0,none⟩),.int .i64 x,.int .i64 d] W fun e w'=>e= .returned (.int .i64 n)∧Fr q.blocks W w'∧∃v,WB w0 q S L v (up E x {E x with refs:=n}) B w'∧v.sl=u.sl∧v.rt=u.rt:=by
 have hX:=g.ix.e x hx;obtain⟨c,_,_,_,hlv,hfit⟩:=(g.ct x hx).n;obtain⟨b1,b2,b3,b4,b5,b6,b7⟩:=g.at_ hlv;have ho:=zay g.h.m.ok (x+8) 4 n (by omega);refine(z1x g.h hX ht d n hn hd hn4).mono fun e w' ⟨he,k1,k2⟩=>⟨he,k2,_,g.mod k1 k2 hx rfl rfl rfl rfl rfl rfl rfl (ho.wide (by omega) (by rw[ht];show x+8+4≤x+16;omega)) (hX.refs g.h.m.ok ht n hn4) rfl rfl rfl rfl rfl,rfl,rfl⟩
theorem zte(g:WB w0 q S L u E B W)(d:Int)(n:Nat)(hn:(u.rt 17:Int)+d=n)(hd: -1≤d∧d≤1)(hn4:n<4294967296):Calls prog 265 #[.pointer (some ⟨q.m,0,none⟩),.int .i64 d] W fun e w'=>e= .returned (.tuple #[])∧Fr q.blocks W w'∧WB w0 q S L (u.setRt 17 n) E B w':=by
 refine(zsq g.h d n hn hd hn4).mono fun e w' ⟨he,k1,k2⟩=>⟨he,k2,g.root 17 n (by decide) k1 k2 (by show n<256^4;omega)⟩
theorem zk2{t:TM}(hok:t.Ok){x:Nat}(h4:x %4=0)(hl:x+4≤zae t.a t.s):zbd t.kinds x 4=zan t (x/4):=by
 have hlen:=t.kinds_len;have:=zcn t.a t.s;unfold zbd;rw[if_neg (by simp[zc8];omega)];unfold zf3;have e1:((x:Int)/4).toNat=x/4:=by omega
 have e2:(((x:Int)+4+3)/4).toNat=x/4+1:=by omega
 rw[e1,e2]
 have:oneK t.kinds (x/4) (x/4+1)=true:=zdl _ _ _ (fun i hi=>by
  obtain rfl:i=0:=by omega
  rfl)
 rw[if_pos this,t.kinds_get _ (by omega)]
theorem zyg(g:WB w0 q S L u E B W)(hf:Fx u S L x c):Calls prog 262 #[.pointer (some ⟨q.m,0,none⟩),.int .i64 x,.int .i64 c] W fun e w'=>e= .returned (.bool true)∧IsH w' q u∧Fr q.blocks W w':=by
 obtain⟨b1,b2,b3,b4,b5,b6,b7⟩:=g.at_ hf.lv;obtain⟨i,hi,hxi,hc⟩:=g.lv7 hf.lv;have hb:=zo6 g.sl g.h.m.ok hi (.inr hxi)
 have hcls:S.cls i=c:=by
  have hs1:=g.sl.each i hi;have h0:=hs1.none (.inr hxi);have h9:=hs1.c9;have hcl:=hf.cl;have key:∀a,a≤9→∀b,b≤9→csz a=csz b→a=b:=by decide
  exact key _ h9 _ hcl.2 hc.symm
 have HBl:=(show Calls prog 107 #[.pointer (some ⟨q.m,0,none⟩),.int .i64 x] W fun e w'=>e= .returned (.tuple #[.int .i64 i,.int .i64 x,.bool true])∧IsH w' q u∧Fr q.blocks W w' from by
  have:=zhr g.h g.sl (x:Int);rw[hb]at this;exact this)
 have hk5:zbd u.kinds x 4=5:=by
  rw[zk2 g.h.m.ok (by omega) (by omega)];exact b7 _ (Nat.le_refl _) (by omega)
 have HK:=hid (fun V (hV:IsH V q u)=>(show Calls prog 61 #[.pointer (some ⟨q.m,0,none⟩),.int .i64 x,.int .i64 4] V fun e w'=>e= .returned (.int .i64 5)∧w'=V from by
  have:=zqj V q u.ms hV.m.m x 4;rw[show zbd u.ms.ks x 4=5 from hk5]at this;exact this))
 have HG:=hid (fun V (hV:IsH V q u)=>(show Calls prog 175 #[.pointer (some ⟨q.m,0,none⟩),.int .i64 i] V fun e w'=>e= .returned (.tuple #[.agg #[.int .i64 c,.int .i64 (u.hd i 1),.int .u32 (u.hd i 2),.int .i64 (u.hd i 3),.int .i64 (u.hd i 4)],.int .i64 0])∧IsT w' q u∧Fr q.blocks V w' from by
  have:=zf0 hV.m i hi;rw[(g.sl.each i hi).h0,hcls]at this;exact this))
 have hat:At u x 4 5 0:=⟨by decide,by omega,by decide,by omega,by decide,fun gg g1 g2=>b7 gg (by omega) (by omega),fun j hj=>by rw[hf.z j (by omega),nb_0]⟩;have HL:=hid (fun V (hV:IsH V q u)=>(show Calls prog 122 #[.pointer (some ⟨q.m,0,none⟩),.int .i64 x,.int .i64 4,.int .i64 5] V fun e w'=>e= .returned (.int .u64 0)∧IsT w' q u∧Fr q.blocks V w' from zjj hV.m hat));generalize u.hd i 1=h1 at*;generalize u.hd i 2=h2 at*;generalize u.hd i 3=h3 at*;generalize u.hd i 4=h4 at*;clear hat hk5 hb hcls hxi hc b1 b2 b3 b4 b5 b6 b7 hf g;go_enter func262,ntmps262;go_wp2_with fail;with_reducible refine HBl.mono ?_
 rintro e w1 ⟨rfl,k1,f1⟩;have K1:=hid k1;have F1:=hid f1;clear k1 f1 HBl;go_wp2_with fail;with_reducible refine(HK.out _ K1.out).mono ?_
 rintro e w2 ⟨rfl,rfl⟩;go_wp2_with fail;with_reducible refine(HG.out _ K1.out).mono ?_
 rintro e w3 ⟨rfl,k3,f3⟩;have K3:=hid ((K1.out.step k3 f3).alloc (.cells #[.int .i64 c,.int .i64 h1,.int .u32 h2,.int .i64 h3,.int .i64 h4] 161));have F3:=hid ((F1.out.trans f3).alloc (.cells #[.int .i64 c,.int .i64 h1,.int .u32 h2,.int .i64 h3,.int .i64 h4] 161));clear k3 f3;go_wp2_with fail;with_reducible refine(HL.out _ K3.out).mono ?_
 rintro e w4 ⟨rfl,k4,f4⟩;have K4:=hid (K3.out.step k4 f4);have F4:=hid (F3.out.trans f4);clear k4 f4;go_wp2_with fail;go_ret;exact⟨rfl,K4.out,F4.out⟩
end
theorem zn0(c:Nat):lowB (lowB c)=lowB c:=by
 unfold lowB;split
 ·rfl
 ·split<;>omega
theorem zsc(c:Nat):labB (lowB c)=labB c:=by
 unfold lowB;split
 ·rfl
 ·next h=>
  have h1:labB c=true:=by unfold labB;simp;omega
  have h2:labB (c+32)=true:=by unfold labB;simp;omega
  rw[h1,h2]
theorem zgu(l:List Nat):(l.map lowB).map lowB=l.map lowB:=by
 rw[List.map_map];exact List.map_congr_left fun c _=>zn0 c
theorem zfw(l:List Nat):zap (l.map lowB)=zap l:=by
 unfold zap;rw[List.length_map,List.all_map];congr 1;congr 1;funext c;exact zsc c
theorem zfo{l:List Nat}(h:zap l=true):1≤l.length∧l.length≤63:=by
 unfold zap at h;simp only[Bool.and_eq_true,decide_eq_true_eq]at h;exact h.1
theorem zkf{l:List Nat}(h:∀b∈l,b<256):∀b∈l.map lowB,b<256:=fun b hb=>by
 obtain⟨x,hx,rfl⟩:=List.mem_map.1 hb;exact zfe (h x hx)
def hsh(E:Nat→HB)(y:Nat):Nat:=if y=0 then 2166136261 else(E y).hash
structure NI(w0:World)(q:MH)(S:SS)(L:Nat→Prop)(l:List Nat)(u:TM)(E:Nat→HB)(B:Nat→List Nat)(W:World):Prop where
 wb:WB w0 q S L u E B W
 nd:l.Nodup
 mem: ∀x,x∈l↔L x∧(E x).tag=2
 cnt:u.rt 17=l.length
 inx: ∀x,x≠0→(InT 224 u.sl x↔L x)
 up: ∀x∈l,(E x).name=0∨(E x).name∈l
 hs: ∀x∈l,(E x).hash=mixL (hsh E (E x).name) (B x)
 lb: ∀x∈l,zap (B x)=true∧(B x).map lowB=B x
 one: ∀x∈l,∀y∈l,(E x).name=(E y).name→B x=B y→x=y
def fndN(l:List Nat)(E:Nat→HB)(B:Nat→List Nat)(up:Nat)(s:List Nat):Option Nat:=l.find? fun z=>(E z).name==up&&B z==s
def ansN:Option Nat→Value
 |some z=> .tuple #[.int .i64 z,.bool true]
 |none=> .tuple #[.int .i64 0,.bool false]
section
variable {w0 W W' : World} {q : MH} {S : SS} {x y : Nat} {u : TM} {L : Nat → Prop} {l : List Nat} {E : Nat → HB} {B : Nat → List Nat} {b : List Nat}
theorem NI.fr0(g:NI w0 q S L l u E B W)(hf:Fr [] W W'):NI w0 q S L l u E B W':={g with wb:=g.wb.fr0 hf}
theorem NI.same(g:NI w0 q S L l u E B W)(h:IsH W' q u)(hf:Fr q.blocks W W'):NI w0 q S L l u E B W':={g with wb:=g.wb.same h hf}
theorem NI.lt(g:NI w0 q S L l u E B W)(hx:x∈l):x≠0∧x<1048576:=g.wb.ne0 ((g.mem x).1 hx).1
theorem NI.hlt(g:NI w0 q S L l u E B W)(y:Nat)(hy:y=0∨y∈l):hsh E y<4294967296:=by
 unfold hsh;split
 ·decide
 ·next h=>exact(g.wb.ix.e y ((g.mem y).1 (hy.resolve_left h)).1).ok.hash
theorem NI.find(g:NI w0 q S L l u E B W)(up:Nat)(s:List Nat):(fndT u.sl (hmE u E) 224 (mixL (hsh E up) s %224) (isNd E B up s (mixL (hsh E up) s))).map u.sl=fndN l E B up s:=by
 have hmem:∀z,z∈l→(E z).name=up→B z=s→isNd E B up s (mixL (hsh E up) s) z=true:=fun z hz hn hb=>by
  have h1:=g.hs z hz;rw[hn,hb]at h1;unfold isNd;rw[((g.mem z).1 hz).2,hn,hb,h1];simp
 cases hf:fndT u.sl (hmE u E) 224 (mixL (hsh E up) s %224) (isNd E B up s (mixL (hsh E up) s))with
 |some i=>
  obtain⟨h1,h2,h3⟩:=zdx _ (by decide) 224 0 i hf;have hL:L (u.sl i):=(g.inx _ h3).1 ⟨i,h1,rfl⟩;unfold isNd at h2;simp only[Bool.and_eq_true,beq_iff_eq]at h2;obtain⟨⟨⟨t1,t2⟩,t3⟩,t4⟩:=h2;have hz:u.sl i∈l:=(g.mem _).2 ⟨hL,t1⟩
  have hfn:fndN l E B up s=some (u.sl i):=by
   unfold fndN;cases hc:l.find? (fun z=>(E z).name==up&&B z==s)with
   |none=>
    have:=List.find?_eq_none.1 hc _ hz;simp[t2,t3]at this
   |some z=>
    have hp:=List.find?_some hc;have hm:=List.mem_of_find?_eq_some hc;simp only[Bool.and_eq_true,beq_iff_eq]at hp;rw[g.one z hm _ hz (hp.1.trans t2.symm) (hp.2.trans t3.symm)]
  rw[hfn];rfl
 |none=>
  have hfn:fndN l E B up s=none:=by
   unfold fndN;rw[List.find?_eq_none];intro z hz hp;simp only[Bool.and_eq_true,beq_iff_eq]at hp;obtain⟨i,hi,e⟩:=(g.inx z (g.lt hz).1).2 ((g.mem z).1 hz).1;have hP:=hmem z hz hp.1 hp.2;obtain⟨j,hj,e2,_⟩:=g.wb.rh.r.finds (isNd E B up s (mixL (hsh E up) s)) hi (by rw[e];exact(g.lt hz).1) (by rw[e];exact hP)
   have hh:hmE u E (u.sl i)=mixL (hsh E up) s %224:=by
    rw[e];unfold hmE;rw[g.wb.s];have h1:=g.hs z hz;rw[hp.1,hp.2]at h1;rw[h1]
   rw[hh,hf]at e2;cases e2
  rw[hfn];rfl
theorem zyv(g:NI w0 q S L l u E B W)(up:Nat)(hup:up=0∨up∈l)(lb:List Nat)(hl:∀b∈lb,b<256):Calls prog 254 #[.pointer (some ⟨q.m,0,none⟩),.int .i64 up,.string (zag lb)] W fun e w'=>e= .returned (if zap lb then ansN (fndN l E B up (lb.map lowB))else ansN none)∧IsH w' q u∧Fr q.blocks W w':=by
 have hm:=zll g.wb.h.m
 have hup2:up<1048576:=by
  rcases hup with e|e
  ·omega
  ·exact(g.lt e).2
 have HPa:=hid (fun V (hV:IsH V q u)=>(show Calls prog 261 #[.pointer (some ⟨q.m,0,none⟩),.int .i64 up] V fun e w'=>e= .returned (.bool true)∧IsH w' q u∧Fr q.blocks V w' from by
  rcases Nat.eq_zero_or_pos up with e|hp
  ·subst e;exact zkr hV
  ·have hm:=hup.resolve_left (by omega)
   have:=zo2 hV (g.wb.ix.e up ((g.mem up).1 hm).1) (by omega);rw[((g.mem up).1 hm).2]at this;exact this))
 have HHs:=hid (fun V (hV:IsH V q u)=>(show Calls prog 155 #[.pointer (some ⟨q.m,0,none⟩),.int .i64 up] V fun e w'=>e= .returned (.int .u32 (hsh E up))∧IsH w' q u∧Fr q.blocks V w' from by
  unfold hsh;rcases Nat.eq_zero_or_pos up with e|hp
  ·subst e
   rw[if_pos rfl];exact(zqg V _).mono fun e w' ⟨h1,h2⟩=>⟨h1,by rw[h2];exact hV,by rw[h2];exact Fr.refl _ _⟩
  ·have hm:=hup.resolve_left (by omega)
   rw[if_neg (by omega)];exact zvo hV (g.wb.ix.e up ((g.mem up).1 hm).1) (by omega) ((g.mem up).1 hm).2))
 have HLb:=hid (fun V=>zn1 V lb hl);have H0:=hid g.wb.h;have wu:IntKind.u32.wrap (up:Int)=(up:Int):=by show(up:Int) %4294967296=up;omega
 by_cases hk:zap lb=true
 ·have hlen:=zfo hk
  rw[if_pos hk];rw[if_pos hk]at HLb;have HLo:=hid (fun V=>zqf V lb hl (by omega));have HMx:=hid (fun V=>xlab V (hsh E up) (lb.map lowB) (zkf hl) (by rw[List.length_map];omega));rw[zgu]at HMx
  have HNd:=hid (fun V (hV:IsH V q u)=>(show Calls prog 285 #[.pointer (some ⟨q.m,0,none⟩),.int .u32 up,.string (zag (lb.map lowB)),.int .u32 (mixL (hsh E up) (lb.map lowB))] V fun e w'=>e= .returned (ansN (fndN l E B up (lb.map lowB)))∧IsH w' q u∧Fr q.blocks V w' from by
   have hI:=zxp g.wb up (lb.map lowB) (mixL (hsh E up) (lb.map lowB)) (by omega) (zkf hl) (by rw[List.length_map];omega) (zqk _ _) V hV;rw[g.wb.s]at hI;have hfi:=g.find up (lb.map lowB);refine hI.mono fun e w' ⟨he,h1,h2⟩=>⟨?_,h1,h2⟩;rw[he,←hfi];cases fndT u.sl (hmE u E) 224 (mixL (hsh E up) (lb.map lowB) %224) (isNd E B up (lb.map lowB) (mixL (hsh E up) (lb.map lowB)))<;>rfl))
  obtain⟨RV,hRV⟩:∃RV:Value×Value,ansN (fndN l E B up (lb.map lowB))= .tuple #[RV.1,RV.2] :=by
   cases fndN l E B up (lb.map lowB)with
   |some i=>exact⟨(_,_),rfl⟩
   |none=>exact⟨(_,_),rfl⟩
  rw[hRV]at HNd⊢;obtain⟨r1,r2⟩:=RV;generalize mixL (hsh E up) (lb.map lowB)=hx at*;generalize hsh E up=h0 at*;generalize zag (lb.map lowB)=s2 at*;generalize zag lb=s at*;clear hRV hk hlen hup hup2 hl g;go_enter func254,ntmps254;go_wp2_with fail;with_reducible refine hm.mono ?_
  rintro e w1 ⟨rfl,f1⟩;have K1:=hid (H0.out.fr0 f1);have F1:=hid (f1.nil (S:=q.blocks));clear f1 hm;go_wp2_with fail;with_reducible refine(HPa.out _ K1.out).mono ?_
  rintro e w2 ⟨rfl,k2,f2⟩;have K2:=hid k2;have F2:=hid (F1.out.trans f2);clear k2 f2;go_wp2_with fail;with_reducible refine(HLb.out _).mono ?_
  rintro e w3 ⟨rfl,f3⟩;have K3:=hid (K2.out.fr0 f3);have F3:=hid (F2.out.trans f3.nil);clear f3;go_wp2_with fail;with_reducible refine(HLo.out _).mono ?_
  rintro e w4 ⟨rfl,f4⟩;have K4:=hid (K3.out.fr0 f4);have F4:=hid (F3.out.trans f4.nil);clear f4;go_wp2_with fail;with_reducible refine(HHs.out _ K4.out).mono ?_
  rintro e w5 ⟨rfl,k5,f5⟩;have K5:=hid k5;have F5:=hid (F4.out.trans f5);clear k5 f5;go_wp2_with fail;with_reducible refine(HMx.out _).mono ?_
  rintro e w6 ⟨rfl,f6⟩;have K6:=hid (K5.out.fr0 f6);have F6:=hid (F5.out.trans f6.nil);clear f6;go_wp2_with fail;with_reducible refine(HNd.out _ K6.out).mono ?_
  rintro e w7 ⟨rfl,k7,f7⟩;have K7:=hid k7;have F7:=hid (F6.out.trans f7);clear k7 f7;go_wp2_with fail;go_ret2;exact⟨rfl,K7.out,F7.out⟩
 ·rw[if_neg hk]
  rw[if_neg hk]at HLb;generalize zag lb=s at*;clear hk hup hup2 hl g;go_enter func254,ntmps254;go_wp2_with fail;with_reducible refine hm.mono ?_
  rintro e w1 ⟨rfl,f1⟩;have K1:=hid (H0.out.fr0 f1);have F1:=hid (f1.nil (S:=q.blocks));clear f1 hm;go_wp2_with fail;with_reducible refine(HPa.out _ K1.out).mono ?_
  rintro e w2 ⟨rfl,k2,f2⟩;have K2:=hid k2;have F2:=hid (F1.out.trans f2);clear k2 f2;go_wp2_with fail;with_reducible refine(HLb.out _).mono ?_
  rintro e w3 ⟨rfl,f3⟩;have K3:=hid (K2.out.fr0 f3);have F3:=hid (F2.out.trans f3.nil);clear f3;go_wp2_with fail;go_ret2;exact⟨rfl,K3.out,F3.out⟩
end
theorem zbn(p:Addr)(w:World):CallsD prog 212 #[.pointer (some p)] .returning w fun e u' w'=>e= .returned (.tuple #[])∧u'= .returning∧w'=w:=by
 refine callsD_of_wpS func212 rfl fun c₀ cs hu=> ?_;apply wpS_seq;apply wpS_region;simp[wpOpsS,go_sem,recoverD,hu,ntmps212,Exit.thenS];rw[show#[Value.pointer (some p)] ++(Array.replicate 13 undef).setIfInBounds 4 Value.nilIface= #[.pointer (some p),undef,undef,undef,undef,.nilIface,undef,undef,undef,undef,undef,undef,undef,undef]from rfl];refine wpS_of_wp ?_;go_wp2_with fail;cases c₀
 simp_all[bodyPostS,results,results212]
theorem zbu(n:Int)(w:World):Calls prog 213 #[.bool true,.int .i64 n] w fun e w'=>e= .returned (.tuple #[])∧w'=w:=by
 go_enter func213,ntmps213;go_wp2_with fail;simp[bodyPost,results,results213,f213]
section
variable {w0 W W' : World} {q : MH} {S S' : SS} {x y n : Nat} {u v : TM} {L : Nat → Prop} {l : List Nat} {E E' : Nat → HB} {B : Nat → List Nat}
theorem WB.own{W0:World}{S0:SS}{L0:Nat→Prop}{u0:TM}{E0:Nat→HB}{B0:Nat→List Nat}(g0:WB w0 q S0 L0 u0 E0 B0 W0)(g:WB w0 q S L u E B W)(i:Nat)(z:Value):WB w0 q S L u E B (W.setCell ⟨W0.heap.size,i,none⟩ z):=by
 have hf:Fr [W0.heap.size] W (W.setCell ⟨W0.heap.size,i,none⟩ z):=(Fr.refl _ W).setCell (.inl (by simp)) _;have h1:=g0.lt;have h2:=g0.h.m.tab.size;have h3:=g0.h.tabs.size;refine⟨⟨g.h.m.fr hf (fun k hk hm=> ?_) (fun k hk hm=> ?_),g.h.tabs.fr hf (fun k hk=> ?_),g.h.hi⟩,g.sl,g.ix,g.rh,g.ct,g.a,g.s,g.ft,g.f.setCell (.inr g0.f.size) _,g.hq,g.fl⟩
 ·have:=h1 k hk;simp at hm;omega
 ·simp at hm;omega
 ·simp at hk;omega
theorem NI.re(g:NI w0 q S L l u E B W)(g':WB w0 q S' L v E' B W')(he:∀y,(E' y).tag=(E y).tag∧(E' y).name=(E y).name∧(E' y).hash=(E y).hash)(hs:v.sl=u.sl)(hr:v.rt 17=u.rt 17):NI w0 q S' L l v E' B W':=by
 have hh:∀y,hsh E' y=hsh E y:=fun y=>by unfold hsh;rw[(he y).2.2]
 refine⟨g',g.nd,fun x=>by rw[(he x).1];exact g.mem x,by rw[hr];exact g.cnt,fun x hx=>by rw[hs];exact g.inx x hx,fun x hx=>by rw[(he x).2.1];exact g.up x hx,fun x hx=>by rw[(he x).2.2,(he x).2.1,hh];exact g.hs x hx,g.lb,fun x hx y hy=>by rw[(he x).2.1,(he y).2.1];exact g.one x hx y hy⟩
theorem ze4(E:Nat→HB)(x n:Nat)(y:Nat):((up E x {E x with refs:=n}) y).tag=(E y).tag∧((up E x {E x with refs:=n}) y).name=(E y).name∧((up E x {E x with refs:=n}) y).hash=(E y).hash:=by
 unfold up;split
 ·next h=>subst h;exact⟨rfl,rfl,rfl⟩
 ·exact⟨rfl,rfl,rfl⟩
theorem zvk(g:WB w0 q S L u E B W)(hx:L x)(ht:(E x).tag=2)(hr:(E x).refs+1<4294967296):Calls prog 255 #[.pointer (some ⟨q.m,0,none⟩),.int .i64 x] W fun e w'=>e= .returned (.int .i64 0)∧Fr q.blocks W w'∧∃v,WB w0 q S L v (up E x {E x with refs:=(E x).refs+1}) B w'∧v.sl=u.sl∧v.rt=u.rt:=by
 have hlt:=g.lt;have H0:=hid (g.fr0 ((Fr.refl [] W).alloc (.cells #[.int .i64 0] 39)));have F0:=hid ((Fr.refl q.blocks W).alloc (.cells #[.int .i64 0] 39));have A0:=hid (Blk.new W 39 #[.int .i64 0]);have HNA:=hid (show W.heap.size∉q.blocks from fun hm=>by have:=hlt _ hm;omega);have HM:=hid (zll H0.out.h.m)
 have HG:=hid (fun V (hV:WB w0 q S L u E B V)=>(show Calls prog 148 #[.pointer (some ⟨q.m,0,none⟩),.int .i64 x] V fun e w'=>e= .returned (.tuple #[.agg #[.int .i64 (E x).tag,.int .i64 (E x).cls,.bool (E x).used,.int .i64 (E x).label,.int .u32 (E x).name,.int .u32 (E x).next,.int .u32 (E x).prev,.int .u32 (E x).refs,.int .u64 (E x).expiry,.int .u16 (E x).typ,.int .i64 (E x).size,.int .u32 (E x).hash],.bool true])∧IsH w' q u∧Fr q.blocks V w' from by
  have:=nget hV.h (hV.ix.e x hx);rw[show((E x).tag==2)=true from by rw[ht];rfl]at this;exact this))
 have HH:=hid (fun V (hV:WB w0 q S L u E B V)=>zj0 hV hx ht 1 ((E x).refs+1) (by omega) (by omega) hr);have g0:=hid g;clear g hx ht hr hlt;go_enter_defers func255,ntmps255;go_wp2_with fail;with_reducible refine HM.out.mono ?_
 rintro e w1 ⟨rfl,f1⟩;have K1:=hid (H0.out.fr0 f1);have F1:=hid (F0.out.trans f1.nil);have A1:=hid (A0.out.fr f1 (by simp));clear f1 HM H0 F0 A0;go_wp2_with fail;with_reducible refine(zbu _ _).mono ?_
 rintro e w1' ⟨rfl,rfl⟩;go_wp2_with fail;with_reducible refine(HG.out _ K1.out).mono ?_
 rintro e w2 ⟨rfl,k2,f2⟩;have K2:=hid (K1.out.same k2 f2);have F2:=hid (F1.out.trans f2);have A2:=hid (A1.out.fr f2 HNA.out);clear k2 f2 HG K1 F1 A1;go_wp2_with fail;with_reducible refine(zbu _ _).mono ?_
 rintro e w2' ⟨rfl,rfl⟩;go_wp2_with fail;generalize hYo:(Obj.cells _ 89)=Yo;clear hYo;with_reducible refine(HH.out _ (K2.out.fr0 ((Fr.refl [] w2).alloc Yo))).mono ?_
 rintro e w3 ⟨rfl,f3,v,k3,k3a,k3b⟩;have K3:=hid k3;have F3:=hid ((F2.out.alloc Yo).trans f3);have A3:=hid ((A2.out.alloc Yo).fr f3 HNA.out);have hcl:=A3.out.cell 0;have hfz:=A3.out.frozen 0;simp only[List.getElem?_toArray,List.getElem?_cons_zero]at hcl;clear k3 f3 K2 F2 A2 HH;go_wp2_with fail;refine leaves_cons (f:=212) (args:= #[.pointer (some ⟨W.heap.size,0,none⟩)]) (by simp) (by simp[go_sem]) ?_;refine(zbn _ _).mono ?_;rintro e u' w'' ⟨rfl,rfl,rfl⟩;have hr:=(A3.out.set 0 (.int .i64 0)).cell 0;simp only[List.setIfInBounds_toArray,List.set_cons_zero,List.getElem?_toArray,List.getElem?_cons_zero]at hr;simp[Leaves,settle,results,results255,go_sem,hr];exact⟨F3.out.setCell (.inr (Nat.le_refl _)) _,v,WB.own g0.out K3.out 0 _,k3a,k3b⟩
end
def RtQ(u v:TM):Prop:= ∀f,f≠17→(f<3∨12<f)→v.rt f=u.rt f
theorem RtQ.refl(u:TM):RtQ u u:=fun _ _ _=>rfl
theorem RtQ.trans{u v z:TM}(h:RtQ u v)(k:RtQ v z):RtQ u z:=fun f h1 h2=>(k f h1 h2).trans (h f h1 h2)
theorem RtQ.sla{u v:TM}(h:Sla u v):RtQ u v:=fun f _ h2=>h.rt f h2
theorem RtQ.eq{u v:TM}(h:v.rt=u.rt):RtQ u v:=fun f _ _=>by rw[h]
theorem RtQ.set(u:TM)(n:Nat):RtQ u (u.setRt 17 n):=fun f h1 _=>zac _ _ h1
def newX(c len up h:Nat):HB:={tag:=2,cls:=(c:Int),used:=false,label:=(len:Int),name:=up,next:=0,prev:=0,refs:=0,expiry:=0,typ:=0,size:=0,hash:=h}
theorem zvc{c len up h:Nat}(hc:c≤9)(hl:len≤63)(hu:up<4294967296)(hh:h<4294967296):(newX c len up h).Ok:=by
 refine⟨⟨?_,?_⟩,⟨?_,?_⟩,⟨?_,?_⟩,hu,?_,?_,?_,?_,?_,⟨?_,?_⟩,hh⟩<;>simp only[newX] <;>omega
theorem zlq{c len up h:Nat}(hc:1≤c∧c≤9)(hl:1≤len∧len≤63):(newX c len up h).right=true:=by
 have e:zck 2 (c:Int) (len:Int) false=true:=by
  unfold zck;rw[if_neg (by decide),if_neg (by decide),show decide (1≤(c:Int)∧(c:Int)≤9)=true from decide_eq_true (by omega),show decide (1≤(len:Int)∧(len:Int)≤63)=true from decide_eq_true (by omega)];rfl
 unfold HB.right;rw[show zck (newX c len up h).tag (newX c len up h).cls (newX c len up h).label (newX c len up h).used=true from e];simp[HB.lackTo,HB.lackAt,newX,HB.num,HB.nums];refine⟨⟨⟨⟨⟨.inr ?_,.inr ?_⟩,.inr ?_⟩,.inr ?_⟩,.inl ?_⟩,.inr ?_⟩<;>decide
section
variable {w0 W W' : World} {q : MH} {S : SS} {x y : Nat} {u v : TM} {L : Nat → Prop} {l : List Nat} {E E' : Nat → HB} {B : Nat → List Nat} {b : List Nat}
theorem WB.fewL(g:WB w0 q S L u E B W){l:List Nat}(hn:l.Nodup)(hl:∀y∈l,L y):l.length≤224:=by
 have h1:=zes (m:=zj3 S 7) hn (fun y hy=>by
  obtain⟨m,i,hi,hyi,-⟩:=g.lv (hl y hy);exact zew S hi hyi)
 have h2:=zft g.sl 7 (by rw[g.a];exact Nat.le_refl _);omega
theorem NI.few(g:NI w0 q S L l u E B W):l.length≤224:=g.wb.fewL g.nd (fun y hy=>((g.mem y).1 hy).1)
theorem zmv{l:List Nat}{E:Nat→HB}{B:Nat→List Nat}{up:Nat}{s:List Nat}(h:fndN l E B up s=none):∀y∈l,(E y).name=up→B y≠s:=by
 intro y hy e1 e2;have:=List.find?_eq_none.1 h y hy;rw[e1,e2]at this;simp at this
structure NewE(E E':Nat→HB)(B B':Nat→List Nat)(x p:Nat)(b:List Nat):Prop where
 tg:(E' x).tag=2
 nm:(E' x).name=p
 hs:(E' x).hash=mixL (hsh E p) b
 rf:(E' x).refs=0
 bx:B' x=b
 ee: ∀y,y≠x→(E' y).tag=(E y).tag∧(E' y).name=(E y).name∧(E' y).hash=(E y).hash
 rr: ∀y,y≠x→y≠0→(E' y).refs=(E y).refs+(if y=p then 1 else 0)
 bb: ∀y,y≠x→B' y=B y
 eq: ∀y,y≠x→y≠p→E' y=E y
theorem NI.new(g:NI w0 q S L l u E B W){B':Nat→List Nat}{p:Nat}(g':WB w0 q S (fun y=>y=x∨L y) v E' B' W')(hx:¬L x)(hx0:x≠0)(hE:NewE E E' B B' x p b)(hr:v.rt 17=l.length+1)
  (hin:∀y,y≠0→(InT 224 v.sl y↔y=x∨InT 224 u.sl y)) (hup:p=0∨p∈l) (hb:zap b=true) (hbl:b.map lowB=b) (hno:fndN l E B p b=none):
  NI w0 q S (fun y=>y=x∨L y) (l++ [x]) v E' B' W':=by
 have hxl:∀y∈l,y≠x:=fun y hy e=>hx (e▸((g.mem y).1 hy).1);have hxl':x∉l:=fun hm=>hxl x hm rfl
 have hh:∀y,y=0∨y∈l→hsh E' y=hsh E y:=fun y hy=>by
  unfold hsh;rcases hy with e|e
  ·rw[if_pos e,if_pos e]
  ·rw[(hE.ee y (hxl y e)).2.2]
 have hno':=zmv hno;refine⟨g',?_,fun y=> ?_,?_,fun y hy=> ?_,fun y hy=> ?_,fun y hy=> ?_,fun y hy=> ?_,fun y hy z hz e1 e2=> ?_⟩
 ·rw[List.nodup_append]
  exact⟨g.nd,by simp,fun y hy z hz e=>hxl y hy (by simp at hz;rw[e,hz])⟩
 ·rw[List.mem_append,List.mem_singleton]
  by_cases e:y=x
  ·subst e;exact⟨fun _=>⟨.inl rfl,hE.tg⟩,fun _=> .inr rfl⟩
  ·rw[(hE.ee y e).1]
   constructor
   ·rintro(h|h)
    ·exact⟨.inr ((g.mem y).1 h).1,((g.mem y).1 h).2⟩
    ·exact absurd h e
   ·rintro⟨h|h,h2⟩
    ·exact absurd h e
    ·exact .inl ((g.mem y).2 ⟨h,h2⟩)
 ·rw[hr,List.length_append];rfl
 ·rw[hin y hy,g.inx y hy]
 ·rw[List.mem_append,List.mem_singleton]at hy
  rcases hy with h|h
  ·rw[(hE.ee y (hxl y h)).2.1]
   rcases g.up y h with k|k
   ·exact .inl k
   ·exact .inr (List.mem_append_left _ k)
  ·rw[h,hE.nm]
   rcases hup with k|k
   ·exact .inl k
   ·exact .inr (List.mem_append_left _ k)
 ·rw[List.mem_append,List.mem_singleton]at hy
  rcases hy with h|h
  ·rw[(hE.ee y (hxl y h)).2.2,(hE.ee y (hxl y h)).2.1,hh _ (g.up y h),hE.bb y (hxl y h)]
   exact g.hs y h
  ·rw[h,hE.nm,hE.hs,hE.bx,hh _ hup]
 ·rw[List.mem_append,List.mem_singleton]at hy
  rcases hy with h|h
  ·rw[hE.bb y (hxl y h)];exact g.lb y h
  ·rw[h,hE.bx];exact⟨hb,hbl⟩
 ·rw[List.mem_append,List.mem_singleton]at hy hz
  rcases hy with h|h<;>rcases hz with k|k
  ·rw[(hE.ee y (hxl y h)).2.1,(hE.ee z (hxl z k)).2.1]at e1
   rw[hE.bb y (hxl y h),hE.bb z (hxl z k)]at e2;exact g.one y h z k e1 e2
  ·rw[k,hE.nm,(hE.ee y (hxl y h)).2.1]at e1
   rw[k,hE.bx,hE.bb y (hxl y h)]at e2;exact absurd e2 (hno' y h e1)
  ·rw[h,hE.nm,(hE.ee z (hxl z k)).2.1]at e1
   rw[h,hE.bx,hE.bb z (hxl z k)]at e2;exact absurd e2.symm (hno' z k e1.symm)
  ·rw[h,k]
end
end Go.Proofs.YtolhkhdbgnciiaaGreatDoor
