/- Several texts in one. -/
import Derived.Test.YtolhkhdbgnciiaaGreatDoorGC
import Derived.Test.YtolhkhdbgnciiaaGreatDoorGF
namespace Go.Proofs.YtolhkhdbgnciiaaGreatDoor
open _root_.Go.Proofs.Tryz
open Go.Lib (hid)
open Go.IntWalk (i64_in)
set_option linter.unusedVariables false
set_option linter.unusedSimpArgs false
open Go.RowKit
set_option maxRecDepth 100000
set_option maxHeartbeats 8000000
def TM.setB(t:TM)(x k v:Nat):TM:={t with bt:=fun i=>if x≤zab t.a t.s+i∧zab t.a t.s+i<x+k then nb v (zab t.a t.s+i-x)else t.bt i}
def TM.setK(t:TM)(x n k:Nat):TM:={t with kd:=fun g=>if x/4≤zab t.a t.s/4+g∧zab t.a t.s/4+g<(x+n)/4 then k else t.kd g}
theorem zxu(v j:Nat):nb v j<256:=Nat.mod_lt _ (by decide)
theorem zgl(t u:TM)(ha:u.a=t.a)(hs:u.s=t.s)(hr:u.rt=t.rt)(hh:u.hd=t.hd)(hl:u.sl=t.sl)(i:Nat)(hi:i<zab t.a t.s)(h:t.Ok):zah u i=zah t i:=by
 have hz:=zak h.cfg;unfold zah;rw[ha,hs,hr,hh,hl];by_cases h1:i<128
 ·rw[if_pos h1,if_pos h1]
 ·rw[if_neg h1,if_neg h1]
  by_cases h2:i<zaf t.a
  ·rw[if_pos h2,if_pos h2]
  ·rw[if_neg h2,if_neg h2]
   by_cases h3:i<zaf t.a+4*t.s
   ·rw[if_pos h3,if_pos h3]
   ·rw[if_neg h3,if_neg h3,if_pos hi,if_pos hi]
theorem zam(t:TM)(i:Nat)(hi:zab t.a t.s≤i)(h:t.Ok):zah t i=t.bt (i-zab t.a t.s):=by
 have hz:=zak h.cfg;unfold zah;rw[if_neg (by omega),if_neg (by omega),if_neg (by omega),if_neg (by omega)]
theorem zal{t:TM}(h:t.Ok)(x k v:Nat):(t.setB x k v).Ok:=
 ⟨h.cfg,h.rt,h.hd,h.sl,fun i=>by
  show(if _ then _ else _)<256;split
  ·exact zxu _ _
  ·exact h.bt i,h.kd⟩
theorem zaq{t:TM}(h:t.Ok)(x k v:Nat)(hx:zab t.a t.s≤x)(i:Nat):zah (t.setB x k v) i=if x≤i∧i<x+k then nb v (i-x)else zah t i:=by
 by_cases hi:zab t.a t.s≤i
 ·rw[zam (t.setB x k v) i hi (zal h x k v),zam t i hi h]
  show(if x≤zab t.a t.s+(i-zab t.a t.s)∧zab t.a t.s+(i-zab t.a t.s)<x+k then nb v (zab t.a t.s+(i-zab t.a t.s)-x)else _)=_;rw[show zab t.a t.s+(i-zab t.a t.s)=i by omega];rfl
 ·rw[zgl t (t.setB x k v) rfl rfl rfl rfl rfl i (by omega) h,if_neg (by omega)]
theorem zco(t:TM)(x k v g:Nat):zan (t.setB x k v) g=zan t g:=rfl
theorem zkb{t:TM}(h:t.Ok){x k kind v:Nat}(ha:At t x k kind v)(hx:zab t.a t.s≤x)(v':Nat)(hv:v'<256^k):t.ms.sto x k kind v'=(t.setB x k v').ms:=
 ha.sto hv rfl rfl rfl rfl (zaq h x k v' hx)
theorem zb5{t:TM}(h:t.Ok)(x n k:Nat)(hk:k≤8):(t.setK x n k).Ok:=
 ⟨h.cfg,h.rt,h.hd,h.sl,h.bt,fun g=>by
  show(if _ then _ else _)≤8;split
  ·exact hk
  ·exact h.kd g⟩
theorem zb0(t:TM)(g:Nat)(hi:zab t.a t.s≤4*g)(h:t.Ok):zan t g=t.kd (g-zab t.a t.s/4):=by
 have hz:=zak h.cfg;unfold zan;rw[if_neg (by omega),if_neg (by omega),if_neg (by omega),if_neg (by omega),if_neg (by omega)]
theorem zlt(t u:TM)(ha:u.a=t.a)(hs:u.s=t.s)(g:Nat)(hi:4*g<zab t.a t.s):zan u g=zan t g:=by
 unfold zan;rw[ha,hs];by_cases h1:g<2
 ·rw[if_pos h1,if_pos h1]
 rw[if_neg h1,if_neg h1];by_cases h2:g<32
 ·rw[if_pos h2,if_pos h2]
 rw[if_neg h2,if_neg h2];by_cases h3:4*g<zaf t.a
 ·rw[if_pos h3,if_pos h3]
 rw[if_neg h3,if_neg h3];by_cases h4:4*g<zaf t.a+4*t.s
 ·rw[if_pos h4,if_pos h4]
 rw[if_neg h4,if_neg h4,if_pos hi,if_pos hi]
theorem zbk{t:TM}(h:t.Ok)(x n k:Nat)(hk:k≤8)(hx:zab t.a t.s≤x)(g:Nat):zan (t.setK x n k) g=if x/4≤g∧g<(x+n)/4 then k else zan t g:=by
 have hz:=zak h.cfg;by_cases hi:zab t.a t.s≤4*g
 ·rw[zb0 (t.setK x n k) g hi (zb5 h x n k hk),zb0 t g hi h]
  show(if x/4≤zab t.a t.s/4+(g-zab t.a t.s/4)∧zab t.a t.s/4+(g-zab t.a t.s/4)<(x+n)/4 then k else _)=_;rw[show zab t.a t.s/4+(g-zab t.a t.s/4)=g by omega];rfl
 ·rw[zlt t (t.setK x n k) rfl rfl g (by omega),if_neg (by omega)]
theorem zcm(t:TM)(x n k i:Nat):zah (t.setK x n k) i=zah t i:=rfl
theorem zlz{t:TM}(h:t.Ok)(x n k:Nat)(hk:k≤8)(hx:zab t.a t.s≤x):setR t.kinds (x/4) ((x+n)/4) k=(t.setK x n k).kinds:=by
 apply List.ext_getElem?;intro g;rcases Nat.lt_or_ge g (zae t.a t.s/4)with hg|hg
 ·rw[zdj _ _ _ _ _ (by rw[TM.kinds_len];exact hg),TM.kinds_get t g hg]
  have e:=TM.kinds_get (t.setK x n k) g hg;have hl:g<(t.setK x n k).kinds.length:=by rw[TM.kinds_len];exact hg
  rw[List.getElem?_eq_getElem hl]at e⊢;rw[zbk h x n k hk hx]at e;simpa using e.symm
 ·rw[List.getElem?_eq_none (by rw[za2,TM.kinds_len];exact hg),List.getElem?_eq_none (by rw[TM.kinds_len];exact hg)]
theorem z02(w:World)(q:MH)(z:MS)(h:IsM w q z)(x y:Int)(i j k:Nat)(hij:i≤j)(hj:j≤z.ks.length)(hk:k≤8)(hx:x=4*i)(hy:y=4*j-4*i):Calls prog 110 #[.pointer (some ⟨q.m,0,none⟩),.int .i64 x,.int .i64 y,.int .i64 k] w fun e w'=>e= .returned (.int .i64 0)∧IsM w' q {z with ks:=setR z.ks i j k}∧Fr [q.bw] w w':=by
 have hn:=h.none;have c0:=h.st.cell 0;obtain⟨lk,hw⟩:=h.wt;have hm:=zql w q.pw q.bw z.ks lk z.ft x y i j k hw hij hj hk hx hy;have HH:=hid h
 have hP:=hid (show∀w',IsW w' q.pw q.bw (setR z.ks i j k) lk z.ft→Fr [q.bw] w w'→IsM w' q {z with ks:=setR z.ks i j k}from fun w' hw' hf=>by
  obtain⟨n1,n2,n3,n4,n5,n6,n7,n8,n9,n10⟩:=h.nes;have e:z.l.length=4*(setR z.ks i j k).length:=by rw[za2];exact h.grains
  exact⟨h.st.fr hf (by simpa using n2),⟨lk,hw'⟩,h.ar.fr hf (by simpa using n8.symm) (by simpa using n9.symm),h.ne,h.cfg,h.size,e⟩)
 simp at c0;generalize setR z.ks i j k=ks' at*;clear h hw hx hy;go_enter func110,ntmps110;go_wp2_with fail;with_reducible refine hn.mono ?_
 rintro e w' ⟨rfl,rfl⟩;go_wp2_with fail;with_reducible refine hm.mono ?_
 rintro e w1 ⟨rfl,h1,f1⟩;go_wp2_with fail;go_ret;exact⟨rfl,hP.out _ h1 f1,f1⟩
theorem Fr.bw{q:MH}{w w':World}(h:Fr [q.bw] w w'):Fr q.blocks w w':=h.mono (fun _ hm=>by simp at hm;simp[MH.blocks,hm])
theorem z1j{w:World}{q:MH}{t:TM}(h:IsT w q t)(x n k:Nat)(hx:zab t.a t.s≤x)(h4:x %4=0)(hn:n %4=0)(hl:x+n≤zae t.a t.s)(hk:k≤8)(x' n' k':Int)(ex:x'=x)(en:n'=n)(ek:k'=k):Calls prog 110 #[.pointer (some ⟨q.m,0,none⟩),.int .i64 x',.int .i64 n',.int .i64 k'] w fun e w'=>e= .returned (.int .i64 0)∧IsT w' q (t.setK x n k)∧Fr q.blocks w w':=by
 subst ek;have h4':=zcn t.a t.s;refine(z02 w q t.ms h.m x' n' (x/4) ((x+n)/4) k (by omega) (by show _≤t.kinds.length;rw[TM.kinds_len];omega) hk (by omega) (by omega)).mono fun e w' ⟨he,hm,hf⟩=> ?_
 have e2:({t.ms with ks:=setR t.ms.ks (x/4) ((x+n)/4) k}:MS)=(t.setK x n k).ms:=by
  show({a:=t.a,s:=t.s,ks:=setR t.kinds (x/4) ((x+n)/4) k,l:=t.bytes,ft:=t.ft}:MS)=_;rw[zlz h.ok x n k hk hx];rfl
 rw[e2]at hm;exact⟨he,⟨zb5 h.ok x n k hk,hm,h.tab.fr hf.bw h.hi,h.hi⟩,hf.bw⟩
theorem zqj(w:World)(q:MH)(z:MS)(h:IsM w q z)(x y:Int):Calls prog 61 #[.pointer (some ⟨q.m,0,none⟩),.int .i64 x,.int .i64 y] w fun e w'=>e= .returned (.int .i64 (zbd z.ks x y))∧w'=w:=by
 have hn:=h.none;have c0:=h.st.cell 0;obtain⟨lk,hw⟩:=h.wt;have hm:=zle w q.pw q.bw z.ks lk z.ft x y hw;simp at c0;generalize zbd z.ks x y=k at*;clear h hw;go_enter func61,ntmps61;go_wp2_with fail;with_reducible refine hn.mono ?_
 rintro e w' ⟨rfl,rfl⟩;go_wp2_with fail;with_reducible refine hm.mono ?_
 rintro e w1 ⟨rfl,rfl⟩;go_wp2_with fail;go_ret;exact⟨rfl,rfl⟩
theorem zy0{w:World}{q:MH}{t:TM}(h:IsT w q t)(x:Nat)(h4:x %4=0)(hl:x+4≤zae t.a t.s):Calls prog 61 #[.pointer (some ⟨q.m,0,none⟩),.int .i64 x,.int .i64 4] w fun e w'=>e= .returned (.int .i64 (zan t (x/4)))∧w'=w:=by
 have h4':=zcn t.a t.s;have hlen:t.ms.ks.length=zae t.a t.s/4:=TM.kinds_len t
 have e:zbd t.ms.ks x 4=zan t (x/4):=by
  unfold zbd
  rw[if_neg (by
   rw[hlen];rintro(h|h)
   ·omega
   ·simp[zc8]at h;omega)]
  have e1:((x:Int)/4).toNat=x/4:=by omega
  have e2:(((x:Int)+4+3)/4).toNat=x/4+1:=by omega
  rw[e1,e2];unfold zf3;rw[zdl _ _ _ (fun y hy=>by have:y=0:=(by omega);rw[this,Nat.add_zero]),if_pos rfl];exact TM.kinds_get t _ (by omega)
 have:=zqj w q t.ms h.m x 4;rw[e]at this;exact this
structure HeadTo(t:TM)(x tag kind:Nat)(n:Nat→Nat)(m:Nat):Prop where
 tg:tag≤2
 base:zab t.a t.s≤x
 al:x %8=0
 fit:x+sz tag≤zae t.a t.s
 k0:kind≠0
 kinds: ∀g,x/4≤g→g<(x+sz tag)/4→zan t g=kind
 byte: ∀f,f<m→(wh tag f).2≠0→ ∀j,j<(wh tag f).2→zah t (x+(wh tag f).1+j)=nb (n f) j
 lt: ∀f,f<m→(wh tag f).2≠0→n f<256^(wh tag f).2
theorem zec(tag:Nat)(h:tag≤2):sz tag %4=0∧8≤sz tag∧sz tag≤32:=by
 have:∀tag,tag<3→sz tag %4=0∧8≤sz tag∧sz tag≤32:=by decide
 exact this tag (by omega)
theorem zgt(tag f:Nat)(h:tag≤2)(hf:f<12)(h0:(wh tag f).2≠0):((wh tag f).2=1∨(wh tag f).2=2∨(wh tag f).2=4∨(wh tag f).2=8)∧(wh tag f).1 %(wh tag f).2=0∧(wh tag f).1+(wh tag f).2≤sz tag:=by
 have:∀tag,tag<3→∀f,f<12→(wh tag f).2≠0→((wh tag f).2=1∨(wh tag f).2=2∨(wh tag f).2=4∨(wh tag f).2=8)∧(wh tag f).1 %(wh tag f).2=0∧(wh tag f).1+(wh tag f).2≤sz tag:=by decide
 exact this tag (by omega) f hf h0
def zt3(a b:Nat×Nat):Bool:=a.2==0||b.2==0||decide (a.1+a.2≤b.1)||decide (b.1+b.2≤a.1)
theorem zld(tag f g:Nat)(h:tag≤2)(hf:f<12)(hg:g<12)(hne:f≠g)(h0:(wh tag f).2≠0)(h1:(wh tag g).2≠0):(wh tag f).1+(wh tag f).2≤(wh tag g).1∨(wh tag g).1+(wh tag g).2≤(wh tag f).1:=by
 have key:(List.range 3).all (fun tag=>(List.range 12).all fun f=>(List.range 12).all fun g=>f==g||zt3 (wh tag f) (wh tag g))=true:=by decide+kernel
 have k1:=List.all_eq_true.1 key tag (List.mem_range.2 (by omega));have k2:=List.all_eq_true.1 k1 f (List.mem_range.2 hf);have k3:=List.all_eq_true.1 k2 g (List.mem_range.2 hg);simp[zt3]at k3;omega
theorem HeadTo.place{t:TM}{x tag kind:Nat}{n:Nat→Nat}{m:Nat}(h:HeadTo t x tag kind n m)(f:Nat)(hf:f<12)(h0:(wh tag f).2≠0)(v:Nat)(hv:v<256^(wh tag f).2)
  (hb:∀j,j<(wh tag f).2→zah t (x+(wh tag f).1+j)=nb v j):At t (x+(wh tag f).1) (wh tag f).2 kind v:=by
 obtain⟨h1,h2,h3⟩:=zgt tag f h.tg hf h0;have hs:=zec tag h.tg;have hal:=h.al;have hfit:=h.fit;refine⟨h1,?_,h.k0,by omega,hv,fun g hg1 hg2=>h.kinds g ?_ ?_,hb⟩
 ·rcases h1 with e|e|e|e<;>rw[e]at h2⊢<;>omega
 ·omega
 ·rcases h1 with e|e|e|e<;>rw[e]at h2 h3 hg2<;>omega
theorem HeadTo.at{t:TM}{x tag kind:Nat}{n:Nat→Nat}{m:Nat}(h:HeadTo t x tag kind n m)(f:Nat)(hf:f<12)(hm:f<m)(h0:(wh tag f).2≠0):At t (x+(wh tag f).1) (wh tag f).2 kind (n f):=
 h.place f hf h0 (n f) (h.lt f hm h0) (h.byte f hm h0)
def rdN(b:Nat→Nat):Nat→Nat
 |0=>0
 |k+1=>rdN b k+b k*256^k
theorem zm4(b:Nat→Nat)(hb:∀j,b j<256):∀k,rdN b k<256^k
 |0=>by simp[rdN]
 |k+1=>by
  have h1:=zm4 b hb k;have h2:=hb k;rw[rdN,Nat.pow_succ];have h3:b k*256^k≤255*256^k:=Nat.mul_le_mul_right _ (by omega);omega
theorem ztb(b:Nat→Nat)(hb:∀j,b j<256):∀k j,j<k→nb (rdN b k) j=b j
 |0,j,h=>by omega
 |k+1,j,h=>by
  have hp:∀i,0<256^i:=fun i=>Nat.pow_pos (by decide);unfold nb;rw[rdN];by_cases e:j=k
  ·subst e
   rw[Nat.add_mul_div_right _ _ (hp j),Nat.div_eq_of_lt (zm4 b hb j),Nat.zero_add,Nat.mod_eq_of_lt (hb j)]
  ·have ih:=ztb b hb k j (by omega)
   unfold nb at ih;obtain⟨d,rfl⟩:∃d,k=j+1+d:=⟨k-j-1,by omega⟩;rw[show b (j+1+d)*256^(j+1+d)=b (j+1+d)*256^d*256*256^j by rw[Nat.pow_add,Nat.pow_succ];ac_rfl,Nat.add_mul_div_right _ _ (hp j),Nat.add_mul_mod_self_right,ih]
theorem zhz{t:TM}(h:t.Ok)(i:Nat):zah t i<256:=by
 unfold zah zln ziu;repeat' split
 all_goals first|exact zxu _ _|exact h.bt _|decide
theorem HeadTo.some{t:TM}{x tag kind:Nat}{n:Nat→Nat}{m:Nat}(h:HeadTo t x tag kind n m)(hok:t.Ok)(f:Nat)(hf:f<12)(h0:(wh tag f).2≠0):∃v,At t (x+(wh tag f).1) (wh tag f).2 kind v:=
 ⟨rdN (fun j=>zah t (x+(wh tag f).1+j)) (wh tag f).2,h.place f hf h0 _ (zm4 _ (fun j=>zhz hok _) _) (fun j hj=>(ztb _ (fun j=>zhz hok _) _ j hj).symm)⟩
theorem HeadTo.set{t:TM}{x tag kind:Nat}{n:Nat→Nat}{m:Nat}(h:HeadTo t x tag kind n m)(hok:t.Ok)(hm12:m≤12)(f:Nat)(hf:f<12)(h0:(wh tag f).2≠0)(v:Nat)(hv:v<256^(wh tag f).2):HeadTo (t.setB (x+(wh tag f).1) (wh tag f).2 v) x tag kind (up n f v) m:=by
 obtain⟨h1,h2,h3⟩:=zgt tag f h.tg hf h0;have hbase:=h.base;refine⟨h.tg,h.base,h.al,h.fit,h.k0,h.kinds,fun g hg hg0 j hj=> ?_,fun g hg hg0=> ?_⟩
 ·rw[zaq hok _ _ _ (by omega)]
  by_cases e:g=f
  ·subst e
   rw[if_pos (by omega),zaa];congr 1;omega
  ·rw[zac _ _ e,if_neg,h.byte g hg hg0 j hj]
   have:=zld tag f g h.tg hf (by omega) (Ne.symm e) h0 hg0;omega
 ·by_cases e:g=f
  ·subst e;rw[zaa];exact hv
  ·rw[zac _ _ e];exact h.lt g hg hg0
theorem HeadTo.more{t:TM}{x tag kind:Nat}{n:Nat→Nat}{m:Nat}(h:HeadTo t x tag kind n m)(h0:(wh tag m).2=0):HeadTo t x tag kind n (m+1):=
 ⟨h.tg,h.base,h.al,h.fit,h.k0,h.kinds,fun g hg hg0=>by
  by_cases e:g=m
  ·subst e;exact absurd h0 hg0
  ·exact h.byte g (by omega) hg0,fun g hg hg0=>by
  by_cases e:g=m
  ·subst e;exact absurd h0 hg0
  ·exact h.lt g (by omega) hg0⟩
theorem HeadTo.next{t:TM}{x tag kind:Nat}{n:Nat→Nat}{m:Nat}(h:HeadTo t x tag kind n m)(hok:t.Ok)(hm:m<12)(h0:(wh tag m).2≠0)(hv:n m<256^(wh tag m).2):HeadTo (t.setB (x+(wh tag m).1) (wh tag m).2 (n m)) x tag kind n (m+1):=by
 obtain⟨h1,h2,h3⟩:=zgt tag m h.tg hm h0;have hbase:=h.base;refine⟨h.tg,h.base,h.al,h.fit,h.k0,h.kinds,fun g hg hg0 j hj=> ?_,fun g hg hg0=> ?_⟩
 ·rw[zaq hok _ _ _ (by omega)]
  by_cases e:g=m
  ·subst e
   rw[if_pos (by omega)];congr 1;omega
  ·rw[if_neg,h.byte g (by omega) hg0 j hj]
   have:=zld tag m g h.tg hm (by omega) (Ne.symm e) h0 hg0;omega
 ·by_cases e:g=m
  ·subst e;exact hv
  ·exact h.lt g (by omega) hg0
structure IsH(w:World)(q:MH)(t:TM):Prop where
 m:IsT w q t
 tabs:Tabs w
 hi: ∀k∈q.blocks,5≤k
theorem IsH.step{w w':World}{q:MH}{t t':TM}(h:IsH w q t)(ht:IsT w' q t')(hf:Fr q.blocks w w'):IsH w' q t':=⟨ht,h.tabs.fr hf h.hi,h.hi⟩
theorem IsH.fr0{w w':World}{q:MH}{t:TM}(h:IsH w q t)(hf:Fr [] w w'):IsH w' q t:=⟨h.m.fr0 hf,h.tabs.fr hf (by simp),h.hi⟩
theorem IsH.alloc{w:World}{q:MH}{t:TM}(h:IsH w q t)(o:Obj):IsH (w.alloc o) q t:=h.fr0 ((Fr.refl [] w).alloc o)
def Lies(tag kind:Nat)(n:Nat→Nat):Prop:=(kind=5∧n 0=tag)∨(kind≠5∧tag=0)
section
variable {w : World} {q : MH} {t : TM} {x tag kind : Nat} {n : Nat → Nat} {m : Nat}
theorem zpo(h:IsH w q t)(hh:HeadTo t x tag kind n m)(hm:0<m)(hk:Lies tag kind n):Calls prog 216 #[.pointer (some ⟨q.m,0,none⟩),.int .i64 x] w fun e w'=>e= .returned (.tuple #[.int .i64 tag,.int .i64 kind])∧IsH w' q t∧Fr q.blocks w w':=by
 have hs:=zec tag hh.tg;have h8:=hh.al;have hfit:=hh.fit;have hkd:=zy0 h.m x (by omega) (by omega);rw[hh.kinds (x/4) (Nat.le_refl _) (by omega)]at hkd;have HI:=hid h;rcases hk with⟨rfl,h0⟩|⟨h5,rfl⟩
 ·have hw0:wh tag 0=(0,1):=by
   have:∀tag,tag<3→wh tag 0=(0,1):=by decide
   exact this tag (by have:=hh.tg;omega)
  have ha:=hh.at 0 (by decide) hm (by rw[hw0];decide);rw[hw0,h0]at ha;have hld:=fun W (hW:IsT W q t)=>zjj hW ha;have ht2:=hh.tg;have hcv:IntKind.i64.wrap (tag:Int)=tag:=i64_in _ (by omega);clear h hh ha h0 hw0;rw[Nat.add_zero]at hld;go_enter func216,ntmps216;go_wp2_with fail;have hkd':Calls prog 61 #[.pointer (some ⟨q.m,0,none⟩),.int .i64 x,.int .i64 4] w fun e w'=>e= .returned (.int .i64 5)∧w'=w:=hkd;with_reducible refine hkd'.mono ?_
  rintro e w' ⟨rfl,rfl⟩;go_wp2_with fail;have hld':Calls prog 122 #[.pointer (some ⟨q.m,0,none⟩),.int .i64 x,.int .i64 1,.int .i64 5] w' fun e w''=>e= .returned (.int .u64 tag)∧IsT w'' q t∧Fr q.blocks w' w'':=hld w' HI.out.m;with_reducible refine hld'.mono ?_
  rintro e w1 ⟨rfl,h1,f1⟩;go_wp2_with fail;go_ret2;exact⟨rfl,HI.out.step h1 f1,f1⟩
 ·have hb:((kind:Int) !=5)=true:=by simp;omega
  clear h hh hs hfit;go_enter func216,ntmps216;go_wp2_with fail;with_reducible refine hkd.mono ?_
  rintro e w' ⟨rfl,rfl⟩;go_wp2_with fail;go_ret2;exact⟨rfl,HI.out,Fr.refl _ _⟩
def hvN(tag:Nat)(n:Nat→Nat)(f:Int):Nat:=if(whZ tag f).2=0 then 0 else n f.toNat
theorem zhi{tag:Nat}{f:Int}(h:(whZ tag f).2≠0):∃k:Nat,f=k∧k<12∧whZ tag f=wh tag k:=by
 unfold whZ at h⊢;split at h
 ·next e=>exact⟨f.toNat,by omega,by omega,by rw[if_pos e,Int.toNat_natCast]⟩
 ·exact absurd rfl h
theorem zoc(h:IsH w q t)(hh:HeadTo t x tag kind n 12)(hk:Lies tag kind n)(f:Int):Calls prog 199 #[.pointer (some ⟨q.m,0,none⟩),.int .i64 x,.int .i64 f] w fun e w'=>e= .returned (.int .u64 (hvN tag n f))∧IsH w' q t∧Fr q.blocks w w':=by
 have hly:=zpo h hh (by decide) hk;have hpl:=fun W hW=>zcc W hW tag f;have hlt:=h.m.lt;have HI:=hid h;unfold hvN;by_cases h0:(whZ tag f).2=0
 ·rw[if_pos h0]
  rw[zfj tag f h0]at hpl;clear h hh hk h0;simp only[rowV]at hpl;go_enter func199,ntmps199;go_wp2_with fail;with_reducible refine hly.mono ?_
  rintro e w1 ⟨rfl,h1,f1⟩;go_wp2_with fail;with_reducible refine(hpl _ h1.tabs).mono ?_
  rintro e w2 ⟨rfl,f2⟩;have h2:=h1.fr0 f2;have n0:=(h2.alloc (.cells #[.int .i64 0,.int .i64 0] 227)).tabs.now 0;have n1:=(h2.alloc (.cells #[.int .i64 0,.int .i64 0] 227)).tabs.now 1;have hE:∀w,(Op.equalIn 10000 227 (.agg #[.int .i64 0,.int .i64 0]) (.agg #[.int .i64 0,.int .i64 0])).run prog w= .ok true w:=fun w=>zdb 0 0 0 0 w;simp[nowT,zd3]at n0 n1;have H2:=hid h2;clear h1 h2 hpl hly;go_wp2_with fail;go_ret;exact⟨rfl,H2.out.alloc _,(f1.trans f2.nil).alloc _⟩
 ·rw[if_neg h0]
  obtain⟨k,rfl,hk12,hwk⟩:=zhi h0;rw[hwk]at h0 hpl;have ha:=hh.at k hk12 hk12 h0;have hld:=fun W (hW:IsT W q t)=>zjj hW ha;obtain⟨hk1,hk2,hk3⟩:=zgt tag k hh.tg hk12 h0;have hs:=zec tag hh.tg;have hfit:=hh.fit
  have hls:zae t.a t.s≤1099511627776:=by
   have:=h.m.ok.cfg;obtain⟨c1,c2,c3,c4,c5⟩:=this;unfold zae zab;omega
  rw[Int.toNat_natCast];clear h hh hk ha hwk;generalize wh tag k=ab at*;obtain⟨a,b⟩:=ab;simp only[rowV]at hpl;simp only at h0 hld hk1 hk2 hk3;generalize n k=v at*;have hb0:((b:Int)==0)=false:=by simp;omega
  have hw1:=i64_in ((x:Int)+a) (by omega)
  have hld':∀W,IsT W q t→Calls prog 122 #[.pointer (some ⟨q.m,0,none⟩),.int .i64 ((x:Int)+a),.int .i64 b,.int .i64 kind] W fun e w''=>e= .returned (.int .u64 v)∧IsT w'' q t∧Fr q.blocks W w'':=fun W hW=>by
   have:=hld W hW;rw[Int.natCast_add]at this;exact this
  clear hld hs hfit hk1 hk2 hk3;go_enter func199,ntmps199;go_wp2_with fail;with_reducible refine hly.mono ?_
  rintro e w1 ⟨rfl,h1,f1⟩;go_wp2_with fail;with_reducible refine(hpl _ h1.tabs).mono ?_
  rintro e w2 ⟨rfl,f2⟩;have h2:=h1.fr0 f2;have n0:=(h2.alloc (.cells #[.int .i64 a,.int .i64 b] 227)).tabs.now 0;have n1:=(h2.alloc (.cells #[.int .i64 a,.int .i64 b] 227)).tabs.now 1;have hE:∀w,(Op.equalIn 10000 227 (.agg #[.int .i64 a,.int .i64 b]) (.agg #[.int .i64 0,.int .i64 0])).run prog w= .ok false w:=fun w=>by rw[zdb,hb0,Bool.and_false]
  simp[nowT,zd3]at n0 n1;have H2:=hid (h2.alloc (.cells #[.int .i64 a,.int .i64 b] 227));clear h1 h2 hpl hly;go_wp2_with fail;with_reducible refine(hld' _ H2.out.m).mono ?_
  rintro e w3 ⟨rfl,h3,f3⟩;go_wp2_with fail;go_ret;exact⟨rfl,H2.out.step h3 f3,((f1.trans f2.nil).alloc _).trans f3⟩
theorem At.sto_bad{t:TM}{x k kind v:Nat}(h:At t x k kind v){v':Nat}(hv:¬v'<256^k):t.ms.sto x k kind v'=t.ms∧t.ms.stB x k kind v'=false:=by
 have hk:widB k=true:=by have:=h.wid;simp[widB];omega
 have hf:zdg v' k=false:=by simp[zdg,hk];omega
 have hp:zax t.ms.l.length x k≠2:=by
  rw[ze2 _ _ _ h.wid h.div (by show _≤t.bytes.length;rw[TM.bytes_len];exact h.fit)];decide
 have hE:putE t.ms.l x k v'=2:=by unfold putE;rw[if_pos ⟨hp,hf⟩]
 constructor
 ·unfold MS.sto
  rw[h.may,if_pos rfl,if_pos rfl];unfold putL;rw[hE,if_neg (by decide)]
 ·unfold MS.stB
  rw[h.may,hE];rfl
theorem zlk(h:IsT w q t){k v v':Nat}(ha:At t x k kind v)(hv:¬v'<256^k)(h64:v'<18446744073709551616):Calls prog 170 #[.pointer (some ⟨q.m,0,none⟩),.int .i64 x,.int .i64 k,.int .i64 kind,.int .u64 v'] w fun e w'=>e= .returned (.bool false)∧IsT w' q t∧Fr q.blocks w w':=by
 refine(zp3 w q t.ms h.m x k kind v' h64).mono fun e w' ⟨he,hm,hf⟩=> ?_;obtain⟨e1,e2⟩:=ha.sto_bad hv;rw[e2]at he;rw[e1]at hm;exact⟨he,⟨h.ok,hm,h.tab.fr hf.pwga h.hi,h.hi⟩,hf.pwga⟩
def hstB(tag:Nat)(f:Int)(v:Nat):Bool:=(whZ tag f).2 !=0&&decide (v<256^(whZ tag f).2)
def TM.hst(t:TM)(x tag:Nat)(f:Int)(v:Nat):TM:=if hstB tag f v then t.setB (x+(whZ tag f).1) (whZ tag f).2 v else t
theorem HeadTo.hst{n:Nat→Nat}(hh:HeadTo t x tag kind n 12)(hok:t.Ok)(f:Int)(v:Nat):HeadTo (t.hst x tag f v) x tag kind (if hstB tag f v then up n f.toNat v else n) 12∧(t.hst x tag f v).Ok:=by
 unfold TM.hst;by_cases hb:hstB tag f v=true
 ·rw[if_pos hb,if_pos hb]
  simp[hstB]at hb;obtain⟨k,rfl,hk,hw⟩:=zhi hb.1;rw[hw]at hb⊢;rw[Int.toNat_natCast];exact⟨hh.set hok (Nat.le_refl _) k hk hb.1 v hb.2,zal hok _ _ _⟩
 ·rw[if_neg hb,if_neg hb]
  exact⟨hh,hok⟩
theorem zj9(h:IsH w q t)(hh:HeadTo t x tag kind n 12)(hk:Lies tag kind n)(f:Int)(v:Nat)(hv:v<18446744073709551616):Calls prog 200 #[.pointer (some ⟨q.m,0,none⟩),.int .i64 x,.int .i64 f,.int .u64 v] w fun e w'=>e= .returned (.bool (hstB tag f v))∧IsH w' q (t.hst x tag f v)∧Fr q.blocks w w':=by
 have hly:=zpo h hh (by decide) hk;have hpl:=fun W hW=>zcc W hW tag f;have HI:=hid h;by_cases h0:(whZ tag f).2=0
 ·have e1:hstB tag f v=false:=by simp[hstB,h0]
  have e2:t.hst x tag f v=t:=by unfold TM.hst;rw[e1];rfl
  rw[e1,e2];rw[zfj tag f h0]at hpl;clear h hh hk h0 e1 e2;simp only[rowV]at hpl;go_enter func200,ntmps200;go_wp2_with fail;with_reducible refine hly.mono ?_
  rintro e w1 ⟨rfl,h1,f1⟩;go_wp2_with fail;with_reducible refine(hpl _ h1.tabs).mono ?_
  rintro e w2 ⟨rfl,f2⟩;have h2:=h1.fr0 f2;have n0:=(h2.alloc (.cells #[.int .i64 0,.int .i64 0] 227)).tabs.now 0;have n1:=(h2.alloc (.cells #[.int .i64 0,.int .i64 0] 227)).tabs.now 1;have hE:∀w,(Op.equalIn 10000 227 (.agg #[.int .i64 0,.int .i64 0]) (.agg #[.int .i64 0,.int .i64 0])).run prog w= .ok true w:=fun w=>zdb 0 0 0 0 w;simp[nowT,zd3]at n0 n1;have H2:=hid h2;clear h1 h2 hpl hly;go_wp2_with fail;go_ret;exact⟨rfl,H2.out.alloc _,(f1.trans f2.nil).alloc _⟩
 ·have e0:∀b,decide (v<256^(whZ tag f).2)=b→hstB tag f v=b:=fun b hb=>by unfold hstB;rw[hb];simp[h0]
  obtain⟨k,rfl,hk12,hwk⟩:=zhi h0;have ha:=hh.at k hk12 hk12 (by rw[←hwk];exact h0)
  have hld:∀W,IsT W q t→Calls prog 170 #[.pointer (some ⟨q.m,0,none⟩),.int .i64 (x+(wh tag k).1:Nat),.int .i64 (wh tag k).2,.int .i64 kind,.int .u64 v] W fun e w''=>e= .returned (.bool (hstB tag k v))∧IsT w'' q (t.hst x tag k v)∧Fr q.blocks W w'':=fun W hW=>by
   by_cases hvb:v<256^(wh tag k).2
   ·have e1:=e0 true (by rw[hwk];simpa using hvb)
    have e2:t.hst x tag k v=t.setB (x+(wh tag k).1) (wh tag k).2 v:=by unfold TM.hst;rw[e1,hwk];rfl
    rw[e1,e2];exact zkd hW ha hvb (zal hW.ok _ _ _) (zkb hW.ok ha (by have:=hh.base;omega) v hvb)
   ·have e1:=e0 false (by rw[hwk];simpa using hvb)
    have e2:t.hst x tag k v=t:=by unfold TM.hst;rw[e1];rfl
    rw[e1,e2];exact zlk hW ha hvb hv
  obtain⟨hk1,hk2,hk3⟩:=zgt tag k hh.tg hk12 (by rw[←hwk];exact h0);have hs:=zec tag hh.tg;have hfit:=hh.fit
  have hls:zae t.a t.s≤1099511627776:=by
   obtain⟨c1,c2,c3,c4,c5⟩:=h.m.ok.cfg;unfold zae zab;omega
  rw[hwk]at h0 hpl;clear h hh hk ha hwk e0;generalize hstB tag k v=r at*;generalize t.hst x tag k v=t' at*;generalize wh tag k=ab at*;obtain⟨a,b⟩:=ab;simp only[rowV]at hpl;simp only at h0 hld hk1 hk2 hk3;have hb0:((b:Int)==0)=false:=by simp;omega
  have hw1:=i64_in ((x:Int)+a) (by omega)
  have hld':∀W,IsT W q t→Calls prog 170 #[.pointer (some ⟨q.m,0,none⟩),.int .i64 ((x:Int)+a),.int .i64 b,.int .i64 kind,.int .u64 v] W fun e w''=>e= .returned (.bool r)∧IsT w'' q t'∧Fr q.blocks W w'':=fun W hW=>by
   have:=hld W hW;rw[Int.natCast_add]at this;exact this
  clear hld hs hfit hk1 hk2 hk3;go_enter func200,ntmps200;go_wp2_with fail;with_reducible refine hly.mono ?_
  rintro e w1 ⟨rfl,h1,f1⟩;go_wp2_with fail;with_reducible refine(hpl _ h1.tabs).mono ?_
  rintro e w2 ⟨rfl,f2⟩;have h2:=h1.fr0 f2;have n0:=(h2.alloc (.cells #[.int .i64 a,.int .i64 b] 227)).tabs.now 0;have n1:=(h2.alloc (.cells #[.int .i64 a,.int .i64 b] 227)).tabs.now 1;have hE:∀w,(Op.equalIn 10000 227 (.agg #[.int .i64 a,.int .i64 b]) (.agg #[.int .i64 0,.int .i64 0])).run prog w= .ok false w:=fun w=>by rw[zdb,hb0,Bool.and_false]
  simp[nowT,zd3]at n0 n1;have H2:=hid (h2.alloc (.cells #[.int .i64 a,.int .i64 b] 227));clear h1 h2 hpl hly;go_wp2_with fail;with_reducible refine(hld' _ H2.out.m).mono ?_
  rintro e w3 ⟨rfl,h3,f3⟩;go_wp2_with fail;go_ret;exact⟨rfl,H2.out.step h3 f3,((f1.trans f2.nil).alloc _).trans f3⟩
end
def TM.putH(t:TM)(x tag:Nat)(n:Nat→Nat):Nat→TM
 |0=>t
 |k+1=>if(wh tag k).2=0 then t.putH x tag n k else(t.putH x tag n k).setB (x+(wh tag k).1) (wh tag k).2 (n k)
theorem zfn(t:TM)(x tag:Nat)(n:Nat→Nat):∀k,(t.putH x tag n k).a=t.a∧(t.putH x tag n k).s=t.s
 |0=>⟨rfl,rfl⟩
 |k+1=>by
  rw[TM.putH];split
  ·exact zfn t x tag n k
  ·exact zfn t x tag n k
theorem zfz{t:TM}(h:t.Ok)(x tag:Nat)(n:Nat→Nat):∀k,(t.putH x tag n k).Ok
 |0=>h
 |k+1=>by
  rw[TM.putH];split
  ·exact zfz h x tag n k
  ·exact zal (zfz h x tag n k) _ _ _
theorem ze6{t:TM}(hok:t.Ok){x tag kind:Nat}{n n':Nat→Nat}(hh:HeadTo t x tag kind n' 0)(hn:∀f,f<12→(wh tag f).2≠0→n f<256^(wh tag f).2):∀k,k≤12→HeadTo (t.putH x tag n k) x tag kind n k
 |0,_=>⟨hh.tg,hh.base,hh.al,hh.fit,hh.k0,hh.kinds,fun f hf=>by omega,fun f hf=>by omega⟩
 |k+1,hk=>by
  have ih:=ze6 hok hh hn k (by omega);rw[TM.putH];split
  ·next h0=>exact ih.more h0
  ·next h0=>exact ih.next (zfz hok x tag n k) (by omega) h0 (hn k (by omega) h0)
def PutP(w:World)(q:MH)(t':TM)(e:Ending)(w':World):Prop:=e= .returned (.int .i64 0)∧IsH w' q t'∧Fr q.blocks w w'
def ztc(w:World)(B:Nat)(q:MH)(t:TM)(x tag:Nat)(X:HB)(v:Value)(wr:World):Prop:=
 ∃k:Nat,k≤12∧v= .int .i64 k∧IsH wr q (t.putH x tag X.num k)∧Fr q.blocks w wr∧Blk wr B 89 X.cells
theorem zlb(w:World)(q:MH)(t:TM)(h:IsH w q t)(x tag kind:Nat)(n':Nat→Nat)(hh:HeadTo t x tag kind n' 0)(X:HB)(hX:X.Ok)(hr:X.right=true)(ht:X.tag=tag)(hk:(kind=6∧tag=0)∨(kind=5∧tag≠0)):Calls prog 89 #[.pointer (some ⟨q.m,0,none⟩),.int .i64 x,X.val] w (PutP w q (t.putH x tag X.num 12)):=by
 have hR:=fun W h=>zhm W h X hX;rw[hr]at hR;have hN:=fun W=>zfx W X hX;obtain⟨arr,hA,hs,hg⟩:=zj8 X;rw[hA]at hN;have HG:=hid hg;have hfit:∀f,f<12→(wh tag f).2≠0→X.num f<256^(wh tag f).2:=fun f hf h0=>zp2 X hX tag (by have:=hh.tg;omega) ht hr f hf h0;have HHD:=hid (fun k (hk:k≤12)=>ze6 h.m.ok hh hfit k hk);have HOK:=hid (fun k=>zfz h.m.ok x tag X.num k);have HAS:=hid (fun k=>zfn t x tag X.num k);have HFIT:=hid hfit;have HI:=hid h;have HHH:=hid hh;have hlt:=h.m.lt;have hpl:=fun W h (f:Nat)=>zcc W h tag f;have hP:=hid (show∀w',IsH w' q (t.putH x tag X.num 12)→Fr q.blocks w w'→PutP w q (t.putH x tag X.num 12) (.returned (.int .i64 0)) w' from fun w' a b=>⟨rfl,a,b⟩);generalize PutP w q (t.putH x tag X.num 12)=P at*
 have HST:=hid (show∀k:Nat,k<12→(wh tag k).2≠0→∀W,IsH W q (t.putH x tag X.num k)→Calls prog 170 #[.pointer (some ⟨q.m,0,none⟩),.int .i64 ((x:Int)+((wh tag k).1:Nat)),.int .i64 (wh tag k).2,.int .i64 kind,.int .u64 (X.num k)] W fun e w''=>e= .returned (.bool true)∧IsT w'' q (t.putH x tag X.num (k+1))∧Fr q.blocks W w'' from fun k hk h0 W hW=>by
  have hd:=HHD.out k (by omega);obtain⟨v,ha⟩:=hd.some (HOK.out k) k hk h0;have e1:t.putH x tag X.num (k+1)=(t.putH x tag X.num k).setB (x+(wh tag k).1) (wh tag k).2 (X.num k):=by rw[TM.putH,if_neg h0]
  rw[e1,←Int.natCast_add];exact zkd hW.m ha (hfit k hk h0) (zal (HOK.out k) _ _ _) (zkb (HOK.out k) ha (by have:=hd.base;omega) _ (hfit k hk h0)))
 have HSK:=hid (show∀k:Nat,(wh tag k).2=0→t.putH x tag X.num (k+1)=t.putH x tag X.num k from fun k h0=>by rw[TM.putH,if_pos h0])
 have hls:x+32≤1099511627776:=by
  obtain⟨c1,c2,c3,c4,c5⟩:=h.m.ok.cfg;have:=hh.fit;unfold zae zab at this;omega
 have hval:X.val= .agg #[.int .i64 tag,.int .i64 X.cls,.bool X.used,.int .i64 X.label,.int .u32 X.name,.int .u32 X.next,.int .u32 X.prev,.int .u32 X.refs,.int .u64 X.expiry,.int .u16 X.typ,.int .i64 X.size,.int .u32 X.hash] :=by rw[←ht];rfl
 have hcells:X.cells= #[.int .i64 tag,.int .i64 X.cls,.bool X.used,.int .i64 X.label,.int .u32 X.name,.int .u32 X.next,.int .u32 X.prev,.int .u32 X.refs,.int .u64 X.expiry,.int .u16 X.typ,.int .i64 X.size,.int .u32 X.hash] :=by rw[←ht];rfl
 rw[hval]at hR hN⊢;have HCE:=hid hcells;have hbq:w.heap.size∉q.blocks:=fun hm=>by have:=hlt _ hm;omega
 have HBQ:=hid hbq;have ht2:=hh.tg
 have hkb:(((tag:Int)==0)=true∧(kind:Int)=6)∨(((tag:Int)==0)=false∧(kind:Int)=5):=by
  rcases hk with⟨a,b⟩|⟨a,b⟩
  ·exact .inl ⟨by simpa using b,by omega⟩
  ·exact .inr ⟨by simpa using b,by omega⟩
 have HREL:=hid (show∀B v wr,ztc w B q t x tag X v wr=(∃k:Nat,k≤12∧v= .int .i64 k∧IsH wr q (t.putH x tag X.num k)∧Fr q.blocks w wr∧Blk wr B 89 X.cells)from fun _ _ _=>rfl);generalize ztc w=REL at*;clear hval hr hX hcells hh h hg hA hs hfit ht hlt hbq hk;rcases hkb with⟨htb,hkk⟩|⟨htb,hkk⟩
 all_goals
  have HST:=hid (fun k hk h0 W hW=>by have:=HST.out k hk h0 W hW;rw[hkk]at this;exact this);clear hkk;go_enter func89,ntmps89;go_wp2_with fail;with_reducible refine(hR _ (HI.out.alloc _).tabs).mono ?_
  rintro e w1 ⟨rfl,f1⟩;have hB1:Blk w1 w.heap.size 89 X.cells:=by rw[HCE.out];exact(Blk.new w _ _).fr f1 (by simp)
  have hF1:Fr [] w w1:=((Fr.refl [] w).alloc _).trans f1;have hI1:=hid (HI.out.fr0 hF1);have h0:=hB1.cell 0;rw[HCE.out]at h0;simp at h0;clear f1 hR;have hcs:∀i,w1.cell? ⟨w.heap.size,i,none⟩=(#[.int .i64 tag,.int .i64 X.cls,.bool X.used,.int .i64 X.label,.int .u32 X.name,.int .u32 X.next,.int .u32 X.prev,.int .u32 X.refs,.int .u64 X.expiry,.int .u16 X.typ,.int .i64 X.size,.int .u32 X.hash] :Array Value)[i]?:=fun i=>by rw[←HCE.out];exact hB1.cell i
  go_wp2_with fail;with_reducible refine(hN _).mono ?_
  rintro e w2 ⟨rfl,f2⟩;have hF2:=hid (hF1.trans f2);have hI2:=hid (hI1.out.fr0 f2);have hB2:=hid (hB1.fr f2 (by simp));clear f2 hN hF1 hB1 hI1 hcs h0;go_wp2_with fail;go_loopw [19] (fun v W=>REL w.heap.size q t x tag X v W) (fun v _=>12-(intOf v).toNat);case atStart=>rw[HREL.out];exact⟨0,by omega,rfl,hI2.out,hF2.out.nil,hB2.out⟩
  case round=>
   clear hF2 hI2 hB2;rw[HREL.out]at hrel;obtain⟨k,hk,rfl,hI,hF,hB⟩:=hrel;have HIr:=hid hI;have HFr:=hid hF;have HBr:=hid hB;have h0:=hB.cell 0;rw[HCE.out]at h0;simp at h0;have hltB:=hB.lt;clear hI hF hB;by_cases hlt:k<12
   ·have hix:=zda arr k hlt (X.num k) (HG.out k hlt)
    have hp:=fun W h=>hpl W h k;by_cases hw:(wh tag k).2=0
    ·have hwz:whZ tag k=(0,0):=zfj tag k (by rw[zfd tag k (by omega) hlt];exact hw)
     rw[hwz]at hp;simp only[rowV]at hp;have hsk:=hid (HSK.out k hw);have hE:∀w,(Op.equalIn 10000 227 (.agg #[.int .i64 0,.int .i64 0]) (.agg #[.int .i64 0,.int .i64 0])).run prog w= .ok true w:=fun w=>zdb 0 0 0 0 w;clear hpl hwz hw;generalize X.num k=nv at*;go_wp2_with fail;with_reducible refine(hp _ HIr.out.tabs).mono ?_
     rintro e w3 ⟨rfl,f3⟩;have hI3:=hid ((HIr.out.fr0 f3).alloc (.cells #[.int .i64 0,.int .i64 0] 227));have n0:=hI3.out.tabs.now 0;have n1:=hI3.out.tabs.now 1;simp[nowT,zd3]at n0 n1;have hF3:=hid ((HFr.out.trans f3.nil).alloc (.cells #[.int .i64 0,.int .i64 0] 227));have hB3:=hid ((HBr.out.fr f3 (by simp)).alloc (.cells #[.int .i64 0,.int .i64 0] 227));clear f3 h0 hix hp;go_wp2_with fail;rw[HREL.out];exact⟨⟨k+1,by omega,by go_num,by rw[hsk.out];exact hI3.out,hF3.out,hB3.out⟩,by simp[intOf];omega⟩
    ·have hwz:whZ tag k=wh tag k:=zfd tag k (by omega) hlt
     rw[hwz]at hp;obtain⟨hk1,hk2,hk3⟩:=zgt tag k ht2 hlt hw;have hs:=zec tag ht2;have hst:=HST.out k hlt hw;generalize hT2:t.putH x tag X.num (k+1)=t2 at*;have HT2:=hid hT2;clear hpl hwz hT2;generalize wh tag k=ab at*;obtain⟨a,b⟩:=ab;simp only[rowV]at hp;simp only at hk1 hk2 hk3 hw hst;have hb0:((b:Int)==0)=false:=by simp;omega
     have hw1:=i64_in ((x:Int)+a) (by omega);have hE:∀w,(Op.equalIn 10000 227 (.agg #[.int .i64 a,.int .i64 b]) (.agg #[.int .i64 0,.int .i64 0])).run prog w= .ok false w:=fun w=>by rw[zdb,hb0,Bool.and_false]
     generalize X.num k=nv at*;clear hk1 hk2 hw;go_wp2_with fail;with_reducible refine(hp _ HIr.out.tabs).mono ?_
     rintro e w3 ⟨rfl,f3⟩;have hI3:=hid ((HIr.out.fr0 f3).alloc (.cells #[.int .i64 a,.int .i64 b] 227));have n0:=hI3.out.tabs.now 0;have n1:=hI3.out.tabs.now 1;simp[nowT,zd3]at n0 n1;have hF3:=hid ((HFr.out.trans f3.nil).alloc (.cells #[.int .i64 a,.int .i64 b] 227));have hB3:=hid ((HBr.out.fr f3 (by simp)).alloc (.cells #[.int .i64 a,.int .i64 b] 227));clear f3 h0 hix hp;go_wp2_with fail;with_reducible refine(hst _ hI3.out).mono ?_
     rintro e w4 ⟨rfl,h4,f4⟩;have hI4:=hid (hI3.out.step h4 f4);have hF4:=hid (hF3.out.trans f4);have hB4:=hid (hB3.out.fr f4 HBQ.out);clear h4 f4 hst;go_wp2_with fail;rw[HREL.out];exact⟨⟨k+1,by omega,by go_num,by rw[HT2.out];exact hI4.out,hF4.out,hB4.out⟩,by simp[intOf];omega⟩
   ·obtain rfl:k=12:=by omega
    clear hpl;go_wp2_with fail;exact hP.out _ HIr.out HFr.out
theorem zsn(w:World)(q:MH)(t:TM)(h:IsH w q t)(x a b kind v:Nat)(hat:At t (x+a) b kind v):Calls prog 218 #[.pointer (some ⟨q.m,0,none⟩),.int .i64 x,.agg #[.int .i64 a,.int .i64 b],.int .i64 kind] w fun e w'=>e= .returned (.tuple #[.int .u64 v,.bool true])∧IsH w' q t∧Fr q.blocks w w':=by
 have hfa:=fun W (hW:IsT W q t)=>zi8 hW
 have hld:∀W,IsT W q t→Calls prog 122 #[.pointer (some ⟨q.m,0,none⟩),.int .i64 ((x:Int)+a),.int .i64 b,.int .i64 kind] W fun e w''=>e= .returned (.int .u64 v)∧IsT w'' q t∧Fr q.blocks W w'':=fun W hW=>by
  have:=zjj hW hat;rw[Int.natCast_add]at this;exact this
 have HI:=hid h
 have hls:x+a≤1099511627776:=by
  obtain⟨c1,c2,c3,c4,c5⟩:=h.m.ok.cfg;have:=hat.fit;unfold zae zab at this;omega
 have hw1:=i64_in ((x:Int)+a) (by omega);have hlt:=h.m.lt;have hbq:=hid (show w.heap.size∉q.blocks from fun hm=>by have:=hlt _ hm;omega);generalize t.ft=ft at*;clear h hat hlt;go_enter func218,ntmps218;go_wp2_with fail;with_reducible refine(hfa _ (HI.out.alloc _).m).mono ?_
 rintro e w1 ⟨rfl,f1⟩;have hF1:=hid (((Fr.refl [] w).alloc (.cells #[.int .i64 a,.int .i64 b] 227)).trans f1);have hI1:=hid (HI.out.fr0 hF1.out);have hB1:=(Blk.new w 227 #[.int .i64 a,.int .i64 b]).fr f1 (by simp);have c0:=hB1.cell 0;have c1:=hB1.cell 1;simp at c0 c1;have HB1:=hid hB1;clear f1 hB1;go_wp2_with fail;with_reducible refine(hld _ hI1.out.m).mono ?_
 rintro e w2 ⟨rfl,h2,f2⟩;have hI2:=hid (hI1.out.step h2 f2);have hF2:=hid (hF1.out.nil.trans f2);clear h2 f2 c0 c1 hld;go_wp2_with fail;with_reducible refine(hfa _ hI2.out.m).mono ?_
 rintro e w3 ⟨rfl,f3⟩;go_wp2_with fail;go_ret2;exact⟨rfl,hI2.out.fr0 f3,hF2.out.trans f3.nil⟩
def GetP(w:World)(q:MH)(t:TM)(X:HB)(e:Ending)(w':World):Prop:=e= .returned (.tuple #[X.val,.int .i64 0])∧IsH w' q t∧Fr q.blocks w w'
def zt5(w:World)(q:MH)(t:TM)(B B2:Nat)(N:Nat→Nat)(v:Value)(wr:World):Prop:=
 ∃k:Nat,k≤12∧v= .int .i64 k∧IsH wr q t∧Fr q.blocks w wr∧Blk wr B 89 zd9∧Blk wr B2 224 (zcz N k)
theorem hget(w:World)(q:MH)(t:TM)(h:IsH w q t)(x tag kind:Nat)(X:HB)(hh:HeadTo t x tag kind X.num 12)(hX:X.Ok)(hr:X.right=true)(ht:X.tag=tag)(hly:Lies tag kind X.num)(hk:kind=5∨kind=6):Calls prog 117 #[.pointer (some ⟨q.m,0,none⟩),.int .i64 x] w (GetP w q t X):=by
 have HLY:=hid (fun W (hW:IsH W q t)=>zpo hW hh (by decide) hly);have hi:=fun w=>zdo w (tag:Nat);have ht2:=hh.tg;have b1:(decide (0≤(tag:Int))&&decide ((tag:Int)<3))=true:=by simp;omega
 rw[b1]at hi
 have hkk:((kind:Int) !=5)=false∨(((kind:Int) !=5)=true∧((kind:Int) !=6)=false):=by
  rcases hk with e|e
  ·exact .inl (by rw[e];rfl)
  ·exact .inr ⟨by rw[e];rfl,by rw[e];rfl⟩
 have hlack:X.lackTo 12=false:=by
  have:X.right=true:=hr;unfold HB.right at this;revert this;cases hl:X.lackTo 12
  ·intro;rfl
  ·intro h;simp[hl]at h
 have HL0:=hid (show∀f,f<12→(wh tag f).2=0→X.num f=0 from fun f hf h0=>zla X 12 hlack f hf (by rw[ht,zfd tag f (by omega) hf];exact h0))
 have HTO:=hid (show∀k:Nat,k<12→(wh tag k).2≠0→∀W,IsH W q t→Calls prog 218 #[.pointer (some ⟨q.m,0,none⟩),.int .i64 x,.agg #[.int .i64 (wh tag k).1,.int .i64 (wh tag k).2],.int .i64 kind] W fun e w'=>e= .returned (.tuple #[.int .u64 (X.num k),.bool true])∧IsH w' q t∧Fr q.blocks W w' from
  fun k hk h0 W hW=>zsn W q t hW x _ _ kind _ (hh.at k hk hk h0))
 have hbl:=fun W=>zoh W X.num;rw[zl7 X hX]at hbl;have hrt:=fun W h=>zhm W h X hX;rw[hr]at hrt;have hpl:=fun W h (f:Nat)=>zcc W h tag f
 have h2:decide ((1:Int)<(X.num 2:Nat))=false:=by
  have:X.num 2≤1:=by unfold HB.num HB.nums;simp;split<;>omega
  simp;omega
 have HZ:=hid (zwo X.num);have HI:=hid h;have hlt:=h.m.lt;have HBQ:=hid (show∀k,w.heap.size≤k→k∉q.blocks from fun k hk hm=>by have:=hlt _ hm;omega);have HHI:=hid h.hi;have hDR:=hid (show∀B B2 v wr,zt5 w q t B B2 X.num v wr=(∃k:Nat,k≤12∧v= .int .i64 k∧IsH wr q t∧Fr q.blocks w wr∧Blk wr B 89 zd9∧Blk wr B2 224 (zcz X.num k))from fun _ _ _ _=>rfl);generalize zt5 w q t=R at*;have hval:X.val= .agg #[.int .i64 tag,.int .i64 X.cls,.bool X.used,.int .i64 X.label,.int .u32 X.name,.int .u32 X.next,.int .u32 X.prev,.int .u32 X.refs,.int .u64 X.expiry,.int .u16 X.typ,.int .i64 X.size,.int .u32 X.hash] :=by rw[←ht];rfl
 have hcells:X.cells= #[.int .i64 tag,.int .i64 X.cls,.bool X.used,.int .i64 X.label,.int .u32 X.name,.int .u32 X.next,.int .u32 X.prev,.int .u32 X.refs,.int .u64 X.expiry,.int .u16 X.typ,.int .i64 X.size,.int .u32 X.hash] :=by rw[←ht];rfl
 have hP:=hid (show∀w',IsH w' q t→Fr q.blocks w w'→GetP w q t X (.returned (.tuple #[.agg #[.int .i64 tag,.int .i64 X.cls,.bool X.used,.int .i64 X.label,.int .u32 X.name,.int .u32 X.next,.int .u32 X.prev,.int .u32 X.refs,.int .u64 X.expiry,.int .u16 X.typ,.int .i64 X.size,.int .u32 X.hash],.int .i64 0])) w' from fun w' a b=>⟨by rw[←hval],a,b⟩);rw[hval]at hbl hrt;generalize GetP w q t X=P at*;have hzz:zd9= #[.int .i64 0,.int .i64 0,.bool false,.int .i64 0,.int .u32 0,.int .u32 0,.int .u32 0,.int .u32 0,.int .u64 0,.int .u16 0,.int .i64 0,.int .u32 0] :=rfl;have HZZ:=hid hzz;have HCE:=hid hcells;clear b1 h hh hX hr ht hly hlack hval hcells hzz hlt hk;rcases hkk with hk1|⟨hk1,hk2⟩
 all_goals
  go_enter func117,ntmps117;go_wp2_with fail;with_reducible refine(HLY.out _ (HI.out.alloc _)).mono ?_
  rintro e w1 ⟨rfl,h1,f1⟩;have hI1:=hid h1;have hF1:=hid (((Fr.refl q.blocks w).alloc (.cells zd9 89)).trans f1);have hB1:=hid ((Blk.new w 89 zd9).fr f1 (HBQ.out _ (Nat.le_refl _)));clear f1 h1;go_wp2_with fail;with_reducible refine(hi _).mono ?_
  rintro e w' ⟨rfl,rfl⟩;have hN1:=hid (Blk.new w' 224 #[.int .u64 0,.int .u64 0,.int .u64 0,.int .u64 0,.int .u64 0,.int .u64 0,.int .u64 0,.int .u64 0,.int .u64 0,.int .u64 0,.int .u64 0,.int .u64 0]);have hBN:w.heap.size<w'.heap.size:=hB1.out.lt
  have START:R w.heap.size w'.heap.size X.num (.int .i64 0) (w'.alloc (.cells #[.int .u64 0,.int .u64 0,.int .u64 0,.int .u64 0,.int .u64 0,.int .u64 0,.int .u64 0,.int .u64 0,.int .u64 0,.int .u64 0,.int .u64 0,.int .u64 0] 224)):=by
   rw[hDR.out];exact⟨0,by omega,rfl,hI1.out.alloc _,hF1.out.alloc _,hB1.out.alloc _,by rw[HZ.out];exact hN1.out⟩
  clear hN1 hB1 hF1 hI1;have HBN:=hid (HBQ.out w'.heap.size (Nat.le_of_lt hBN));have HB0:=hid (HBQ.out w.heap.size (Nat.le_refl _));have hNB:w.heap.size≤w'.heap.size:=Nat.le_of_lt hBN;generalize hb2:w'.heap.size=B2 at*;go_wp2_with fail;clear hb2;go_loopw [33] (fun v W=>R w.heap.size B2 X.num v W) (fun v _=>12-(intOf v).toNat);case atStart=>exact START
  case round=>
   clear START;rw[hDR.out]at hrel;obtain⟨k,hk,rfl,hI,hF,hBz,hBn⟩:=hrel;have HIr:=hid hI;have HFr:=hid hF;have HZr:=hid hBz;have HNr:=hid hBn;have hltn:=hBn.lt;clear hI hF hBz hBn;by_cases hlt:k<12
   ·have hp:=fun W h=>hpl W h k
    have hset:=zn4 X.num k hlt
    have hskip:X.num k=0→zcz X.num (k+1)=zcz X.num k:=fun e=>by
     rw[←hset,e];apply Array.ext_getElem?;intro i;rw[Array.getElem?_setIfInBounds];by_cases e2:k=i
     ·subst e2
      rw[if_pos rfl,if_pos (by simp[zcz];omega),zcv _ _ _ hlt,if_neg (Nat.lt_irrefl k)]
     ·rw[if_neg e2]
    clear hpl;by_cases hw:(wh tag k).2=0
    ·have hwz:whZ tag k=(0,0):=zfj tag k (by rw[zfd tag k (by omega) hlt];exact hw)
     rw[hwz]at hp;simp only[rowV]at hp;have HS:=hid (hskip (HL0.out k hlt hw));have hE:∀w,(Op.equalIn 10000 227 (.agg #[.int .i64 0,.int .i64 0]) (.agg #[.int .i64 0,.int .i64 0])).run prog w= .ok true w:=fun w=>zdb 0 0 0 0 w;clear hwz hw hset hskip;go_wp2_with fail;with_reducible refine(hp _ HIr.out.tabs).mono ?_
     rintro e w3 ⟨rfl,f3⟩;have hI3:=hid ((HIr.out.fr0 f3).alloc (.cells #[.int .i64 0,.int .i64 0] 227));have n0:=hI3.out.tabs.now 0;have n1:=hI3.out.tabs.now 1;simp[nowT,zd3]at n0 n1;have hF3:=hid ((HFr.out.trans f3.nil).alloc (.cells #[.int .i64 0,.int .i64 0] 227));have hB3:=hid ((HZr.out.fr f3 (by simp)).alloc (.cells #[.int .i64 0,.int .i64 0] 227));have hN3:=hid ((HNr.out.fr f3 (by simp)).alloc (.cells #[.int .i64 0,.int .i64 0] 227));clear f3 hp;go_wp2_with fail;rw[hDR.out];exact⟨⟨k+1,by omega,by go_num,hI3.out,hF3.out,hB3.out,by rw[HS.out];exact hN3.out⟩,by simp[intOf];omega⟩
    ·have hwz:whZ tag k=wh tag k:=zfd tag k (by omega) hlt
     rw[hwz]at hp;have hto:=HTO.out k hlt hw;have HS:=hid hset;clear hwz hset hskip;generalize wh tag k=ab at*;obtain⟨a,b⟩:=ab;simp only[rowV]at hp;simp only at hw hto;have hb0:((b:Int)==0)=false:=by simp;omega
     have hE:∀w,(Op.equalIn 10000 227 (.agg #[.int .i64 a,.int .i64 b]) (.agg #[.int .i64 0,.int .i64 0])).run prog w= .ok false w:=fun w=>by rw[zdb,hb0,Bool.and_false]
     clear hw;go_wp2_with fail;with_reducible refine(hp _ HIr.out.tabs).mono ?_
     rintro e w3 ⟨rfl,f3⟩;have hI3:=hid ((HIr.out.fr0 f3).alloc (.cells #[.int .i64 a,.int .i64 b] 227));have n0:=hI3.out.tabs.now 0;have n1:=hI3.out.tabs.now 1;simp[nowT,zd3]at n0 n1;have hF3:=hid ((HFr.out.trans f3.nil).alloc (.cells #[.int .i64 a,.int .i64 b] 227));have hB3:=hid ((HZr.out.fr f3 (by simp)).alloc (.cells #[.int .i64 a,.int .i64 b] 227));have hN3:=hid ((HNr.out.fr f3 (by simp)).alloc (.cells #[.int .i64 a,.int .i64 b] 227));clear f3 hp;go_wp2_with fail;with_reducible refine(hto _ hI3.out).mono ?_
     rintro e w4 ⟨rfl,h4,f4⟩;have hI4:=hid h4;have hF4:=hid (hF3.out.trans f4);have hB4:=hid (hB3.out.fr f4 HB0.out);have hN4:=hid (hN3.out.fr f4 HBN.out);have hc4:=hN4.out.cell k;have hf4:=hN4.out.frozen k;rw[zcv _ _ _ hlt,if_neg (Nat.lt_irrefl k)]at hc4;clear h4 f4 hto n0 n1 hE;go_wp2_with fail;rw[hDR.out];refine⟨⟨k+1,by omega,by go_num,?_,hF4.out.setCell (.inr hNB) _,hB4.out.far (p:=⟨B2,k,none⟩) (by simp;omega) _,?_⟩,by simp[intOf];omega⟩
     ·have hfz:Fr [B2] w4 (w4.setCell ⟨B2,k,none⟩ (.int .u64 (X.num k))):=(Fr.refl _ _).setCell (.inl (by simp)) _
      refine⟨hI4.out.m.fr hfz (fun k hk hm=> ?_) (fun k hk hm=> ?_),hI4.out.tabs.fr hfz (by have:=HI.out.tabs.size;simp;omega),hI4.out.hi⟩
      ·simp at hm;subst hm;exact HBN.out hk
      ·simp at hm;subst hm;have:=HI.out.m.tab.size;omega
     ·have:=hN4.out.set k (.int .u64 (X.num k:Int))
      rw[HS.out]at this;exact this
   ·obtain rfl:k=12:=by omega
    have hva:=zlc X.num;have hBn:=HNr.out;have c0:=hBn.cell 0;have c1:=hBn.cell 1;have c2:=hBn.cell 2;have c3:=hBn.cell 3;have c4:=hBn.cell 4;have c5:=hBn.cell 5;have c6:=hBn.cell 6;have c7:=hBn.cell 7;have c8:=hBn.cell 8;have c9:=hBn.cell 9;have c10:=hBn.cell 10;have c11:=hBn.cell 11;rw[hva]at c0 c1 c2 c3 c4 c5 c6 c7 c8 c9 c10 c11 hbl;simp at c0 c1 c2 c3 c4 c5 c6 c7 c8 c9 c10 c11;clear hva hpl hBn;go_wp2_with fail;with_reducible refine(hbl _).mono ?_
    rintro e w3 ⟨rfl,f3⟩;have hI3:=hid (HIr.out.fr0 f3);have hF3:=hid (HFr.out.trans f3.nil);have hBz3:=hid (HZr.out.fr f3 (by simp));have hBn3:=HNr.out.fr f3 (by simp);have e2:=(hBn3.alloc (.cells #[.int .i64 tag,.int .i64 X.cls,.bool X.used,.int .i64 X.label,.int .u32 X.name,.int .u32 X.next,.int .u32 X.prev,.int .u32 X.refs,.int .u64 X.expiry,.int .u16 X.typ,.int .i64 X.size,.int .u32 X.hash] 89)).cell 2;rw[zcv _ _ _ (by omega),if_pos (by omega)]at e2;clear f3 hbl hBn3;clear c0 c1 c2 c3 c4 c5 c6 c7 c8 c9 c10 c11;have hBx:Blk (w3.alloc (.cells #[.int .i64 tag,.int .i64 X.cls,.bool X.used,.int .i64 X.label,.int .u32 X.name,.int .u32 X.next,.int .u32 X.prev,.int .u32 X.refs,.int .u64 X.expiry,.int .u16 X.typ,.int .i64 X.size,.int .u32 X.hash] 89)) w3.heap.size 89 #[.int .i64 tag,.int .i64 X.cls,.bool X.used,.int .i64 X.label,.int .u32 X.name,.int .u32 X.next,.int .u32 X.prev,.int .u32 X.refs,.int .u64 X.expiry,.int .u16 X.typ,.int .i64 X.size,.int .u32 X.hash] :=Blk.new _ _ _;have HBx:=hid hBx;have hI4:=hid (hI3.out.alloc (.cells #[.int .i64 tag,.int .i64 X.cls,.bool X.used,.int .i64 X.label,.int .u32 X.name,.int .u32 X.next,.int .u32 X.prev,.int .u32 X.refs,.int .u64 X.expiry,.int .u16 X.typ,.int .i64 X.size,.int .u32 X.hash] 89));have hF4:=hid (hF3.out.alloc (.cells #[.int .i64 tag,.int .i64 X.cls,.bool X.used,.int .i64 X.label,.int .u32 X.name,.int .u32 X.next,.int .u32 X.prev,.int .u32 X.refs,.int .u64 X.expiry,.int .u16 X.typ,.int .i64 X.size,.int .u32 X.hash] 89));have hBz4:=hid (hBz3.out.alloc (.cells #[.int .i64 tag,.int .i64 X.cls,.bool X.used,.int .i64 X.label,.int .u32 X.name,.int .u32 X.next,.int .u32 X.prev,.int .u32 X.refs,.int .u64 X.expiry,.int .u16 X.typ,.int .i64 X.size,.int .u32 X.hash] 89));clear hBx hI3 hF3 hBz3;go_wp2_with fail;with_reducible refine(hrt _ hI4.out.tabs).mono ?_
    rintro e w5 ⟨rfl,f5⟩;have hI5:=hid (hI4.out.fr0 f5);have hF5:=hid (hF4.out.trans f5.nil);have hBz5:=hBz4.out.fr f5 (by simp);rw[HZZ.out]at hBz5;have hBx5:=HBx.out.fr f5 (by simp);(have d0:=hBz5.cell 0;have z0:=hBz5.frozen 0;have d1:=hBz5.cell 1;have z1:=hBz5.frozen 1;have d2:=hBz5.cell 2;have z2:=hBz5.frozen 2;have d3:=hBz5.cell 3;have z3:=hBz5.frozen 3;have d4:=hBz5.cell 4;have z4:=hBz5.frozen 4;have d5:=hBz5.cell 5;have z5:=hBz5.frozen 5;have d6:=hBz5.cell 6;have z6:=hBz5.frozen 6;have d7:=hBz5.cell 7;have z7:=hBz5.frozen 7;have d8:=hBz5.cell 8;have z8:=hBz5.frozen 8;have d9:=hBz5.cell 9;have z9:=hBz5.frozen 9;have d10:=hBz5.cell 10;have z10:=hBz5.frozen 10;have d11:=hBz5.cell 11;have z11:=hBz5.frozen 11;simp[HB.cells]at d0 d1 d2 d3 d4 d5 d6 d7 d8 d9 d10 d11);(have c0:=hBx5.cell 0;have c1:=hBx5.cell 1;have c2:=hBx5.cell 2;have c3:=hBx5.cell 3;have c4:=hBx5.cell 4;have c5:=hBx5.cell 5;have c6:=hBx5.cell 6;have c7:=hBx5.cell 7;have c8:=hBx5.cell 8;have c9:=hBx5.cell 9;have c10:=hBx5.cell 10;have c11:=hBx5.cell 11;simp[HB.cells]at c0 c1 c2 c3 c4 c5 c6 c7 c8 c9 c10 c11);clear hrt f5 hI4 hF4 hBz4 HBx e2;go_wp2_with fail;refine zou (fun w9=>bodyPost _ _ _ _ _ w9) hBz5 rfl (Fr.refl [w.heap.size] w5) (.inl (by simp)) ?_;intro w9 hn9 hf9;have q0:=hn9.cell 0;have q1:=hn9.cell 1;have q2:=hn9.cell 2;have q3:=hn9.cell 3;have q4:=hn9.cell 4;have q5:=hn9.cell 5;have q6:=hn9.cell 6;have q7:=hn9.cell 7;have q8:=hn9.cell 8;have q9:=hn9.cell 9;have q10:=hn9.cell 10;have q11:=hn9.cell 11;simp at q0 q1 q2 q3 q4 q5 q6 q7 q8 q9 q10 q11;refine bodyPost_ret (by simp[results,results117,go_sem,q0,q1,q2,q3,q4,q5,q6,q7,q8,q9,q10,q11];try rfl) rfl (hP.out _ ⟨hI5.out.m.fr hf9 (fun k hk hm=> ?_) (fun k hk hm=> ?_),hI5.out.tabs.fr hf9 (by have:=HI.out.tabs.size;simpa using this),hI5.out.hi⟩ (hF5.out.step hf9 (by simp)))
    ·simp at hm;subst hm;exact HB0.out hk
    ·simp at hm;subst hm;have:=HI.out.m.tab.size;omega
end Go.Proofs.YtolhkhdbgnciiaaGreatDoor
