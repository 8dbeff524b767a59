/- Several texts in one. -/
import Derived.Test.YtolhkhdbgnciiaaGreatDoorGB
namespace Go.Proofs.YtolhkhdbgnciiaaGreatDoor
open _root_.Go.Proofs.Tryz
open Go.Lib (hid)
open Go.IntWalk (i64_in)
set_option linter.unusedVariables false
set_option linter.unusedSimpArgs false
open Go.RowKit
set_option maxRecDepth 100000
set_option maxHeartbeats 4000000
structure MH where
 m:Nat
 pw:Nat
 bw:Nat
 pa:Nat
 ga:Nat
 cap:Nat
structure MS where
 a:Nat
 s:Nat
 ks:List Nat
 l:List Nat
 ft:Int
def MH.blocks(q:MH):List Nat:= [q.m,q.pw,q.bw,q.pa,q.ga]
structure IsM(w:World)(q:MH)(z:MS):Prop where
 st:Blk w q.m 103 #[.pointer (some ⟨q.pw,0,none⟩),.pointer (some ⟨q.pa,0,none⟩),.int .i64 z.a,.int .i64 z.s]
 wt: ∃lk,IsW w q.pw q.bw z.ks lk z.ft
 ar:IsA w q.pa q.ga q.cap z.l
 ne:q.bw≠q.ga
 cfg:Cfg z.a z.s
 size:z.l.length=zae z.a z.s
 grains:z.l.length=4*z.ks.length
section
variable {w w' : World} {q : MH} {z : MS}
theorem IsM.fr{S:List Nat}(h:IsM w q z)(hf:Fr S w w')(hS:∀k∈q.blocks,k∉S):IsM w' q z:=by
 simp only[MH.blocks,List.mem_cons,List.not_mem_nil,or_false,forall_eq_or_imp,forall_eq]at hS;obtain⟨h1,h2,h3,h4,h5⟩:=hS;obtain⟨lk,hw⟩:=h.wt;exact⟨h.st.fr hf h1,⟨lk,hw.fr hf h2 h3⟩,h.ar.fr hf h4 h5,h.ne,h.cfg,h.size,h.grains⟩
theorem IsM.fr0(h:IsM w q z)(hf:Fr [] w w'):IsM w' q z:=h.fr hf (by simp)
theorem IsM.lt(h:IsM w q z):∀k∈q.blocks,k<w.heap.size:=by
 obtain⟨lk,hw⟩:=h.wt;simp only[MH.blocks,List.mem_cons,List.not_mem_nil,or_false,forall_eq_or_imp,forall_eq];exact⟨h.st.lt,hw.st.lt,hw.row.lt,h.ar.st.lt,h.ar.row.lt⟩
theorem IsM.nes(h:IsM w q z):q.m≠q.pw∧q.m≠q.bw∧q.m≠q.pa∧q.m≠q.ga∧q.pw≠q.bw∧q.pw≠q.pa∧q.pw≠q.ga∧q.bw≠q.pa∧q.bw≠q.ga∧q.pa≠q.ga:=by
 obtain⟨lk,hw⟩:=h.wt;obtain⟨cur,hr,_⟩:=h.ar.row;exact⟨h.st.ne_ hw.st (by decide),h.st.ne_ hw.row (by decide),h.st.ne_ h.ar.st (by decide),h.st.ne_ hr (by decide),hw.st.ne_ hw.row (by decide),hw.st.ne_ h.ar.st (by decide),hw.st.ne_ hr (by decide),hw.row.ne_ h.ar.st (by decide),h.ne,h.ar.st.ne_ hr (by decide)⟩
end
theorem zls(w:World)(m pa:Nat)(h:w.cell? ⟨m,1,none⟩=some (.pointer (some ⟨pa,0,none⟩))):Calls prog 46 #[.pointer (some ⟨m,0,none⟩)] w fun e w'=>e= .returned (.bool false)∧w'=w:=by
 go_enter func46,ntmps46;go_wp2_with fail;go_ret;exact⟨rfl,rfl⟩
theorem IsM.none{w:World}{q:MH}{z:MS}(h:IsM w q z):Calls prog 46 #[.pointer (some ⟨q.m,0,none⟩)] w fun e w'=>e= .returned (.bool false)∧w'=w:=
 zls w q.m q.pa (h.st.cell 1)
def MS.look(z:MS)(x wd k:Int):MS:={z with ft:=if mayL z.ks x wd k then z.ft else wrap64 (z.ft+1)}
def MS.ld(z:MS)(x wd k:Int):Nat:=if mayL z.ks x wd k then ldV z.l x wd else 0
def MS.stB(z:MS)(x wd k:Int)(v:Nat):Bool:=mayL z.ks x wd k&&putE z.l x wd v==0
def MS.sto(z:MS)(x wd k:Int)(v:Nat):MS:={z with ft:=if mayL z.ks x wd k then z.ft else wrap64 (z.ft+1),l:=if mayL z.ks x wd k then putL z.l x wd v else z.l}
theorem zdp(l:List Nat)(x wd:Int)(v:Nat):(putL l x wd v).length=l.length:=by
 unfold putL;split
 ·exact zbo _ _ _ _
 ·rfl
theorem zn2(w:World)(q:MH)(z:MS)(h:IsM w q z)(x n k:Int):Calls prog 222 #[.pointer (some ⟨q.pw,0,none⟩),.int .i64 x,.int .i64 n,.int .i64 k] w fun e w'=>
  e= .returned (.bool (mayL z.ks x n k))∧IsM w' q (z.look x n k)∧Fr [q.pw] w w':=by
 obtain⟨lk,hw⟩:=h.wt;obtain⟨n1,n2,n3,n4,n5,n6,n7,n8,n9,n10⟩:=h.nes;refine(zr7 w q.pw q.bw z.ks lk z.ft x n k hw).mono fun e w' ⟨he,⟨lk',hw'⟩,hf⟩=>⟨he,⟨h.st.fr hf (by simp;omega),⟨lk',hw'⟩,h.ar.fr hf (by simp;omega) (by simp;omega),h.ne,h.cfg,h.size,h.grains⟩,hf⟩
theorem zz7(w:World)(q:MH)(z:MS)(h:IsM w q z)(x wd k:Int):Calls prog 122 #[.pointer (some ⟨q.m,0,none⟩),.int .i64 x,.int .i64 wd,.int .i64 k] w fun e w'=>e= .returned (.int .u64 (z.ld x wd k))∧IsM w' q (z.look x wd k)∧Fr [q.pw] w w':=by
 have hn:=h.none;have hL:=fun W hM=>zn2 W q z hM x wd k;have c0:=h.st.cell 0;have c1:=h.st.cell 1;simp at c0 c1;have HM:=hid h;have hne:=h.nes.1;have hg:∀W,IsM W q (z.look x wd k)→Calls prog 223 #[.pointer (some ⟨q.pa,0,none⟩),.int .i64 x,.int .i64 wd] W fun e w'=>e= .returned (.tuple #[.int .u64 (ldV z.l x wd),.int .i64 (zax z.l.length x wd)])∧w'=W:=fun W hM=>zrt W q.pa q.ga q.cap z.l hM.ar x wd;unfold MS.ld;generalize ldV z.l x wd=v at*;generalize zax z.l.length x wd=pe at*;generalize z.look x wd k=z' at*;generalize mayL z.ks x wd k=may at*;clear h;cases may
 ·rw[if_neg (by simp)]
  go_enter func122,ntmps122;go_wp2_with fail;with_reducible refine hn.mono ?_
  rintro e w' ⟨rfl,rfl⟩;go_wp2_with fail;with_reducible refine(hL _ HM.out).mono ?_
  rintro e w1 ⟨rfl,hM1,f1⟩;go_wp2_with fail;go_ret;exact⟨rfl,hM1,f1⟩
 ·rw[if_pos rfl]
  go_enter func122,ntmps122;go_wp2_with fail;with_reducible refine hn.mono ?_
  rintro e w' ⟨rfl,rfl⟩;go_wp2_with fail;with_reducible refine(hL _ HM.out).mono ?_
  rintro e w1 ⟨rfl,hM1,f1⟩;have d1:=hM1.st.cell 1;simp at d1;clear c0 c1;go_wp2_with fail;with_reducible refine(hg _ hM1).mono ?_
  rintro e w' ⟨rfl,rfl⟩;go_wp2_with fail;go_ret;exact⟨rfl,hM1,f1⟩
theorem zp3(w:World)(q:MH)(z:MS)(h:IsM w q z)(x wd k:Int)(v:Nat)(hv:v<18446744073709551616):Calls prog 170 #[.pointer (some ⟨q.m,0,none⟩),.int .i64 x,.int .i64 wd,.int .i64 k,.int .u64 v] w fun e w'=>e= .returned (.bool (z.stB x wd k v))∧IsM w' q (z.sto x wd k v)∧Fr [q.pw,q.ga] w w':=by
 have hn:=h.none;have hL:=fun W hM=>zn2 W q z hM x wd k;have c0:=h.st.cell 0;have c1:=h.st.cell 1;simp at c0 c1;have HM:=hid h
 have hp:∀W,IsM W q (z.look x wd k)→Calls prog 75 #[.pointer (some ⟨q.pa,0,none⟩),.int .i64 x,.int .i64 wd,.int .u64 v] W fun e w'=>e= .returned (.int .i64 (putE z.l x wd v))∧IsM w' q {z.look x wd k with l:=putL z.l x wd v}∧Fr [q.ga] W w':=fun W hM=>by
  obtain⟨n1,n2,n3,n4,n5,n6,n7,n8,n9,n10⟩:=hM.nes;refine(zeq W q.pa q.ga q.cap z.l hM.ar x wd v hv).mono fun e w' ⟨he,ha,hf⟩=>⟨he,?_,hf⟩;obtain⟨lk,hw⟩:=hM.wt;exact⟨hM.st.fr hf (by simp;omega),⟨lk,hw.fr hf (by simp;omega) (by simp;omega)⟩,ha,hM.ne,hM.cfg,(zdp _ _ _ _).trans hM.size,(zdp _ _ _ _).trans hM.grains⟩
 have hst0:mayL z.ks x wd k=false→z.sto x wd k v=z.look x wd k:=fun e=>by simp[MS.sto,MS.look,e]
 have hst1:mayL z.ks x wd k=true→z.sto x wd k v={z.look x wd k with l:=putL z.l x wd v}:=fun e=>by simp[MS.sto,MS.look,e]
 unfold MS.stB;generalize putE z.l x wd v=pe at*;generalize({z.look x wd k with l:=putL z.l x wd v}:MS)=z2 at*;generalize z.look x wd k=z' at*;generalize z.sto x wd k v=z3 at*;generalize mayL z.ks x wd k=may at*;clear h;cases may
 ·have e3:=hst0 rfl
  subst e3;rw[Bool.false_and];clear hst0 hst1;go_enter func170,ntmps170;go_wp2_with fail;with_reducible refine hn.mono ?_
  rintro e w' ⟨rfl,rfl⟩;go_wp2_with fail;with_reducible refine(hL _ HM.out).mono ?_
  rintro e w1 ⟨rfl,hM1,f1⟩;go_wp2_with fail;go_ret;exact⟨rfl,hM1,f1.mono (fun _ hm=>by simp at hm;simp[hm])⟩
 ·have e3:=hst1 rfl
  subst e3;rw[Bool.true_and];have hb:(pe==0)=((pe:Int)==0):=by rw[Bool.eq_iff_iff];first|(simp;done)|(simp;omega)
  rw[hb];clear hst0 hst1 hb;go_enter func170,ntmps170;go_wp2_with fail;with_reducible refine hn.mono ?_
  rintro e w' ⟨rfl,rfl⟩;go_wp2_with fail;with_reducible refine(hL _ HM.out).mono ?_
  rintro e w1 ⟨rfl,hM1,f1⟩;have d1:=hM1.st.cell 1;simp at d1;clear c0 c1;go_wp2_with fail;with_reducible refine(hp _ hM1).mono ?_
  rintro e w2 ⟨rfl,hM2,f2⟩;go_wp2_with fail;go_ret;exact⟨rfl,hM2,(f1.mono (fun _ hm=>by simp at hm;simp[hm])).trans (f2.mono (fun _ hm=>by simp at hm;simp[hm]))⟩
def fldL:List Nat:= [8,12,16,20,24,28,32,36,40,44,48,52,56,60,64,68,72,80,84,88,92]
def fldA(f:Nat):Nat:=fldL[f]?.getD 0
def fldW(f:Nat):Nat:=if f=16 then 8 else 4
theorem zsv(f:Nat)(h:f<21):fldT[f]?=some (.int .i64 (fldA f)):=by
 rcases f with _|_|_|_|_|_|_|_|_|_|_|_|_|_|_|_|_|_|_|_|_|f<;>first|rfl|omega
theorem ztf(w:World)(hM:TabM w)(f:Nat)(h:f<21):Calls prog 121 #[.int .i64 f] w fun e w'=>e= .returned (.tuple #[.int .i64 (fldA f),.int .i64 (fldW f)])∧w'=w:=by
 have hc:=(hM.fld f).trans (zsv f h);have b0:decide ((f:Int)<0)=false:=by simp
 have b1:decide ((21:Int)≤f)=false:=by simp;omega
 have b2:decide (21≤f)=false:=by simp;omega
 have h1:(f:Int)<21:=by omega
 unfold fldW;generalize fldA f=x at*;by_cases h16:f=16
 ·have b3:((f:Int)==16)=true:=by simp;omega
  rw[if_pos h16];clear h16;go_enter func121,ntmps121;go_wp2_with fail;go_ret2;exact⟨rfl,rfl⟩
 ·have b3:((f:Int)==16)=false:=by simp;omega
  rw[if_neg h16];clear h16;go_enter func121,ntmps121;go_wp2_with fail;go_ret2;exact⟨rfl,rfl⟩
theorem zk3(f:Nat):4≤fldW f∧fldW f≤8:=by unfold fldW;split<;>omega
theorem z0l(w:World)(hM:TabM w)(q:MH)(z:MS)(h:IsM w q z)(f:Nat)(hf:f<21):Calls prog 45 #[.pointer (some ⟨q.m,0,none⟩),.int .i64 f] w fun e w'=>e= .returned (.int .u64 (z.ld (fldA f) (fldW f) 2))∧IsM w' q (z.look (fldA f) (fldW f) 2)∧Fr [q.pw] w w':=by
 have hfl:=ztf w hM f hf;have hld:=zz7 w q z h (fldA f) (fldW f) 2;have hw:=zk3 f;generalize z.ld (fldA f) (fldW f) 2=v at*;generalize z.look (fldA f) (fldW f) 2=z' at*;generalize fldA f=x at*;generalize fldW f=y at*;have b0:((y:Int)==0)=false:=by simp;omega
 clear h hM;go_enter func45,ntmps45;go_wp2_with fail;with_reducible refine hfl.mono ?_
 rintro e w' ⟨rfl,rfl⟩;go_wp2_with fail;with_reducible refine hld.mono ?_
 rintro e w2 ⟨rfl,hM2,f2⟩;go_wp2_with fail;go_ret;exact⟨rfl,hM2,f2⟩
theorem zqn(w:World)(hM:TabM w)(q:MH)(z:MS)(h:IsM w q z)(f:Nat)(hf:f<21)(v:Nat)(hv:v<18446744073709551616):Calls prog 83 #[.pointer (some ⟨q.m,0,none⟩),.int .i64 f,.int .u64 v] w fun e w'=>e= .returned (.bool (z.stB (fldA f) (fldW f) 2 v))∧IsM w' q (z.sto (fldA f) (fldW f) 2 v)∧Fr [q.pw,q.ga] w w':=by
 have hfl:=ztf w hM f hf;have hst:=zp3 w q z h (fldA f) (fldW f) 2 v hv;have hw:=zk3 f;generalize z.stB (fldA f) (fldW f) 2 v=r at*;generalize z.sto (fldA f) (fldW f) 2 v=z' at*;generalize fldA f=x at*;generalize fldW f=y at*;have b0:decide ((0:Int)<y)=true:=by simp;omega
 clear h hM;go_enter func83,ntmps83;go_wp2_with fail;with_reducible refine hfl.mono ?_
 rintro e w' ⟨rfl,rfl⟩;go_wp2_with fail;with_reducible refine hst.mono ?_
 rintro e w2 ⟨rfl,hM2,f2⟩;go_wp2_with fail;go_ret;exact⟨rfl,hM2,f2⟩
theorem zuo(w:World)(q:MH)(z:MS)(h:IsM w q z):Calls prog 81 #[.pointer (some ⟨q.m,0,none⟩)] w fun e w'=>e= .returned (cfgV z.a z.s)∧Fr [] w w':=by
 have hn:=(h.fr0 ((Fr.refl [] w).alloc (.cells #[.int .i64 0,.int .i64 0] 66))).none;have c2:=h.st.cell 2;have c3:=h.st.cell 3;have hl:=h.st.lt;simp at c2 c3;unfold cfgV;generalize z.a=a at*;generalize z.s=s at*;clear h;go_enter func81,ntmps81;go_wp2_with fail;with_reducible refine hn.mono ?_
 rintro e w' ⟨rfl,rfl⟩;go_wp2_with fail;go_returns;exact⟨rfl,(Fr.refl [] w).alloc _⟩
theorem zwk(w:World)(q:MH)(z:MS)(h:IsM w q z):Calls prog 16 #[.pointer (some ⟨q.m,0,none⟩)] w fun e w'=>e= .returned (.int .i64 z.ft)∧Fr [] w w':=by
 have hn:=h.none;have c0:=h.st.cell 0;obtain⟨lk,hw⟩:=h.wt;have hf:=fun W hW=>zi5 W q.pw q.bw z.ks lk z.ft hW;simp at c0;have HW:=hid hw;have hl:=hw.st.lt;generalize z.ft=t at*;generalize z.ks=ks at*;clear h hw;go_enter func16,ntmps16;go_wp2_with fail;with_reducible refine hn.mono ?_
 rintro e w' ⟨rfl,rfl⟩
 have hcf:∀W,IsW W q.pw q.bw ks lk t→Calls prog 47 #[.agg #[.pointer (some ⟨q.pw,0,none⟩)]] W fun e w'=>e= .returned (.int .i64 t)∧Fr [] W w':=fun W hW=>by
  have hfa:=hf _ (hW.fr (S:= []) ((Fr.refl _ _).alloc (.cells #[.pointer (some ⟨q.pw,0,none⟩)] 98)) (by simp) (by simp));clear hf hW HW;go_enter func47,ntmps47;go_wp2_with fail;with_reducible refine hfa.mono ?_
  rintro e w' ⟨rfl,rfl⟩;go_wp2_with fail;go_ret;exact⟨rfl,(Fr.refl [] W).alloc _⟩
 go_wp2_with fail;with_reducible refine(hcf _ HW.out).mono ?_
 rintro e w2 ⟨rfl,f2⟩;go_wp2_with fail;go_ret;exact⟨rfl,f2⟩
def zwq(n:Nat)(r:Rn):Prop:=r.1 %4=0∧r.2.1 %4=0∧r.1+r.2.1≤n∧r.2.2≤8
theorem zbx(n:Nat)(l:List Rn)(e k:Nat)(h:∀r∈l,zwq n r)(h4:zao l %4=0)(he:e %4=0)(hn:e≤n)(hk:k≤8):∀r∈zau l e k,zwq n r:=by
 unfold zau;split
 ·intro r hr
  rcases List.mem_append.1 hr with hr|hr
  ·exact h r hr
  ·simp at hr
   subst hr;refine⟨h4,?_,?_,hk⟩<;>simp<;>omega
 ·exact h
theorem zr2(a s:Nat)(h:Cfg a s):∀r∈zfy a s,zwq (zae a s) r:=by
 obtain⟨e1,e2,e3,e4,e5,e6⟩:=zmh a s h;obtain⟨a1,a2,s1,s2,s3⟩:=h;have z:zaf a=128+16*a:=rfl;have zb:zab a s %4=0∧zaf a+4*s≤zab a s∧zae a s=zab a s+1024*a:=by unfold zae zaf zab;omega
 obtain⟨z1,z2,z3⟩:=zb;have k1:=zbx (zae a s) [] 8 1 (by simp) (by decide) (by omega) (by omega) (by omega);have k2:=zbx (zae a s) l1 128 2 k1 (by rw[e1]) (by omega) (by omega) (by omega);have k3:=zbx (zae a s) l2 (zaf a) 3 k2 (by rw[e2]) (by omega) (by omega) (by omega);have k4:=zbx (zae a s) (l3 a) (zaf a+4*s) 4 k3 (by rw[e3];omega) (by omega) (by omega) (by omega);have k5:=zbx (zae a s) (l4 a s) (zab a s) 8 k4 (by rw[e4];omega) (by omega) (by omega) (by omega);exact zbx (zae a s) (l5 a s) (zae a s) 7 k5 (by rw[e5];omega) (by omega) (by omega) (by omega)
def zei(ks:List Nat)(r:Rn):List Nat:=setR ks (r.1/4) ((r.1+r.2.1)/4) r.2.2
theorem zhq(ks:List Nat)(r:Rn):(zei ks r).length=ks.length:=za2 _ _ _ _
theorem zij(l:List Rn):∀ks:List Nat,(l.foldl zei ks).length=ks.length:=by
 induction l with
 |nil=>intro ks;rfl
 |cons r l ih=>intro ks;rw[List.foldl_cons,ih,zhq]
def newK(a s:Nat):List Nat:=(zfy a s).foldl zei (List.replicate (zae a s/4) 0)
theorem zg3(a s:Nat):(newK a s).length=zae a s/4:=by unfold newK;rw[zij,List.length_replicate]
def ztk(w:World)(pw bw base:Nat)(v:Value)(L:List Rn)(K0:List Nat)(u:Value)(W:World):Prop:=
 ∃k:Nat,k≤L.length∧u= .int .i64 k∧(∃lk,IsW W pw bw ((L.take k).foldl zei K0) lk 0)∧OwnR W base v L∧Fr [] w W
def WatP(w:World)(a s:Nat)(e:Ending)(w':World):Prop:=
 ∃pw bw lk,e= .returned (.pointer (some ⟨pw,0,none⟩))∧IsW w' pw bw (newK a s) lk 0∧w.heap.size≤pw∧w.heap.size≤bw∧Fr [] w w'
theorem znv{w w':World}{base n size:Nat}{e:TypeId}{v:Value}{xs:List Value}{b:Nat}{t:TypeId}{cs:Array Value}(h:w.ownsRow base e size v n xs)(hf:Fr [b] w w')(hb:Blk w b t cs)(hne:t≠e):w'.ownsRow base e size v n xs:=by
 obtain⟨h1,h2|⟨g',cap,cur,rfl,hgb,hh,h3⟩⟩:=h
 ·exact⟨h1,.inl h2⟩
 ·refine⟨h1,.inr ⟨g',cap,cur,rfl,hgb,Blk.fr (S:= [b]) hh hf (by simp;exact fun e=>by subst e;exact(Blk.ne_ hb hh hne) rfl),h3⟩⟩
theorem ziy(w:World)(hM:TabM w)(a s:Nat)(h:Cfg a s):Calls prog 76 #[cfgV a s] w (WatP w a s):=by
 have hsi:=fun W h'=>zdq W h' a s h;have hru:=fun W h'=>zo7 W h' a s h;have hszl:=zc2 a s h
 have hsz4:zae a s %4=0∧4≤zae a s:=by
  obtain⟨a1,a2,s1,s2,s3⟩:=h;unfold zae zab;omega
 have HOK:=hid (zr2 a s h);obtain⟨m,hm⟩:∃m,m=zae a s/4:=⟨_,rfl⟩
 have hnw:∀W,Calls prog 161 #[.int .i64 (zae a s)] W fun e w'=>∃p b,e= .returned (.pointer (some ⟨p,0,none⟩))∧IsW w' p b (List.replicate m 0) 0 0∧W.heap.size≤p∧W.heap.size≤b∧Fr [] W w':=fun W=>by
  have:=zua W m (by omega) (by omega);rw[show(4*(m:Int))=(zae a s:Int)by omega]at this;exact this
 obtain⟨P,hP⟩:∃P,P=WatP w a s:=⟨_,rfl⟩;rw[←hP];have HP:=hid hP;have HK:=hid (show newK a s=(zfy a s).foldl zei (List.replicate m 0)by unfold newK;rw[hm]);have hlen:=(ztg a s).2.2.2.2.2;clear hP hsz4;generalize zfy a s=L at*;generalize hsz:zae a s=sz at*;have HSZ:=hid hsz;have HMM:=hid hm;clear hsz hm;unfold cfgV at*;unfold zwp at hru;go_enter func76,ntmps76;go_wp2_with fail;with_reducible refine(hsi _ (hM.alloc _)).mono ?_
 rintro e w1 ⟨rfl,f1⟩;have hM1:=(hM.alloc (.cells #[.int .i64 a,.int .i64 s] 66)).fr f1 (by simp);have hC1:=(Blk.new w 66 #[.int .i64 a,.int .i64 s]).fr f1 (by simp);have hF1:=((Fr.refl [] w).alloc (.cells #[.int .i64 a,.int .i64 s] 66)).trans f1;clear f1 hsi hM;go_wp2_with fail;with_reducible refine(hnw _).mono ?_
 rintro e w2 ⟨pw,bw,rfl,hW2,hpw,hbw,f2⟩;have hM2:=hM1.fr f2 (by simp);have hC2:=hC1.fr f2 (by simp);have hF2:=hF1.trans f2;have hz1:=hF1.size;have c0:=hC2.cell 0;have c1:=hC2.cell 1;simp at c0 c1;clear f2 hnw hM1 hC1 hF1;go_wp2_with fail;with_reducible refine(hru _ hM2).mono ?_
 rintro e w3 ⟨v,rfl,hO3,f3⟩;have hW3:=hW2.fr f3 (by simp) (by simp);have hF3:=hF2.trans f3;have hz2:=hF2.size;clear f3 hru hM2 hC2 c0 c1;obtain⟨A,kc,hv⟩:=zcr hO3;generalize hln:L.length=n at*;subst hv;have HLN:=hid hln;have hln2:L.length≤n:=by omega
 clear hln;go_wp2_with fail;have HR:=hid (show∀u W,ztk w pw bw w2.heap.size (.slice A n kc) L (List.replicate m 0) u W=(∃k:Nat,k≤L.length∧u= .int .i64 k∧(∃lk,IsW W pw bw ((L.take k).foldl zei (List.replicate m 0)) lk 0)∧OwnR W w2.heap.size (.slice A n kc) L∧Fr [] w W)from fun _ _=>rfl);generalize ztk w pw bw w2.heap.size (.slice A n kc) L (List.replicate m 0)=R at*;go_loopw [12] (fun u W=>R u W) (fun u _=>n-(intOf u).toNat);case atStart=>rw[HR.out];exact⟨0,by omega,rfl,⟨0,by simpa using hW3⟩,hO3,hF3⟩
 case round=>
  clear hW2 hW3 hO3 hF2 hF3;rw[HR.out]at hrel;obtain⟨k,hk,rfl,⟨lk,hW⟩,hO,hF⟩:=hrel;rw[HLN.out]at hk;by_cases hlt:k<n
  ·obtain⟨r,hr⟩:∃r,L[k]?=some r:=⟨_,List.getElem?_eq_getElem (by rw[HLN.out];exact hlt)⟩
   have hrok:=HOK.out r (List.mem_of_getElem? hr);obtain⟨g,cap,hv,_,hgl⟩:=World.ownsRow.form hO (by rw[HLN.out];omega);have hcells:=World.ownsRow.cells hO (g:=g) (by rw[hv];rfl);injection hv with hA hnn hcc;subst hA;clear hnn hcc;obtain⟨e1,e2,e3⟩:=zd6 L k r hr;have hadd:∀j,(⟨g,0,none⟩:Addr).add j=⟨g,j,none⟩:=fun j=>by unfold Addr.add;split<;>simp_all
   have q1:=hcells _ _ e1;have q2:=hcells _ _ e2;have q3:=hcells _ _ e3;rw[hadd,Nat.mul_comm]at q1 q2 q3;obtain⟨ra,rl,rk⟩:=r;obtain⟨o1,o2,o3,o4⟩:=hrok;simp only at o1 o2 o3 o4 q1 q2 q3;have hkl:=hW.len;have hklen:((L.take k).foldl zei (List.replicate m 0)).length=m:=by rw[zij,List.length_replicate]
   have hmm:=HMM.out
   have hmk:∀W,IsW W pw bw ((L.take k).foldl zei (List.replicate m 0)) lk 0→Calls prog 163 #[.pointer (some ⟨pw,0,none⟩),.int .i64 ra,.int .i64 rl,.int .i64 rk] W fun e w'=>e= .returned (.int .i64 0)∧IsW w' pw bw ((L.take (k+1)).foldl zei (List.replicate m 0)) lk 0∧Fr [bw] W w':=fun W hW=>by
    have:=zql W pw bw ((L.take k).foldl zei (List.replicate m 0)) lk 0 ra rl (ra/4) ((ra+rl)/4) rk hW (by omega) (by rw[hklen];omega) o4 (by omega) (by omega);rw[List.take_add_one,hr,Option.toList_some,List.foldl_append,List.foldl_cons,List.foldl_nil];exact this
   have HWr:=hid hW;have HOr:=hid hO;clear e1 e2 e3 hadd hcells hr hkl hklen hmm o1 o2 o3 o4 hW hO;have hix:(k:Int)<n:=by omega
   go_wp2_with fail;with_reducible refine(hmk _ (HWr.out.fr (S:= []) ((Fr.refl [] _).alloc _) (by simp) (by simp))).mono ?_
   rintro e W9 ⟨rfl,hW9,f9⟩;go_wp2_with fail;rw[HR.out];refine⟨⟨k+1,by rw[HLN.out];omega,by go_num,⟨lk,hW9⟩,?_,?_⟩,by simp[intOf];omega⟩
   ·exact znv (World.ownsRow.alloc HOr.out _) f9 (HWr.out.row.alloc _) (by decide)
   ·exact(hF.alloc _).step f9 (by simp;omega)
  ·obtain rfl:k=n:=by omega
   go_wp2_with fail;rw[HP.out];rw[List.take_of_length_le (by omega)]at hW;refine⟨pw,bw,lk,rfl,?_,?_,?_,hF⟩
   ·rw[HK.out];exact hW
   ·omega
   ·omega
def nl0(a s:Nat):List Nat:=List.replicate (zae a s) 0
def nl1(g a s:Nat):List Nat:=putL (nl0 a s) 8 4 g
def nl2(g a s:Nat):List Nat:=putL (nl1 g a s) 12 4 a
def nl3(g a s:Nat):List Nat:=putL (nl2 g a s) 16 4 s
theorem zpk(g a s:Nat):(nl3 g a s).length=zae a s:=by
 rw[nl3,zdp,nl2,zdp,nl1,zdp,nl0,List.length_replicate]
def nlk(g a s k:Nat):List Nat:=if k=0 then nl0 a s else if k=1 then nl1 g a s else if k=2 then nl2 g a s else nl3 g a s
theorem zy4(g a s:Nat):nlk g a s 0=nl0 a s:=by rw[nlk,if_pos rfl]
theorem zyp(g a s:Nat):nlk g a s 1=nl1 g a s:=by rw[nlk,if_neg (by decide),if_pos rfl]
theorem zy6(g a s:Nat):nlk g a s 2=nl2 g a s:=by rw[nlk,if_neg (by decide),if_neg (by decide),if_pos rfl]
theorem zq3(g a s:Nat):nlk g a s 3=nl3 g a s:=by rw[nlk,if_neg (by decide),if_neg (by decide),if_neg (by decide)]
theorem zx2(g a s:Nat):putL (nlk g a s 0) 8 4 g=nlk g a s 1:=by rw[zy4,zyp,nl1]
theorem zzz(g a s:Nat):putL (nlk g a s 1) 12 4 a=nlk g a s 2:=by rw[zyp,zy6,nl2]
theorem zyw(g a s:Nat):putL (nlk g a s 2) 16 4 s=nlk g a s 3:=by rw[zy6,zq3,nl3]
def zbv(a s:Nat):Nat→List Nat:=nlk 1129270338 a s
def newL(a s:Nat):List Nat:=zbv a s 3
theorem zwu(a s:Nat):zbv a s 0=List.replicate (zae a s) 0:=zy4 _ a s
theorem zvp(a s:Nat):putL (zbv a s 0) 8 4 1129270338=zbv a s 1:=zx2 _ a s
theorem zwv(a s:Nat):putL (zbv a s 1) 12 4 a=zbv a s 2:=zzz _ a s
theorem zt8(a s:Nat):putL (zbv a s 2) 16 4 s=zbv a s 3:=zyw _ a s
def newM(a s:Nat):MS:={a:=a,s:=s,ks:=newK a s,l:=newL a s,ft:=0}
theorem zro(a s:Nat):(newL a s).length=zae a s:=(congrArg List.length (zq3 _ a s)).trans (zpk _ a s)
theorem zmo(a s:Nat):(zbv a s 3).length=zae a s:=(congrArg List.length (zq3 _ a s)).trans (zpk _ a s)
theorem ztp(a s:Nat):zbv a s 3=(newM a s).l:=by
 unfold newM;simp only;rw[newL]
theorem zui{w:World}{q:MH}{a s:Nat}(st:Blk w q.m 103 #[.pointer (some ⟨q.pw,0,none⟩),.pointer (some ⟨q.pa,0,none⟩),.int .i64 a,.int .i64 s])(wt:∃lk,IsW w q.pw q.bw (newK a s) lk 0)
  (ar:IsA w q.pa q.ga q.cap (zbv a s 3)) (ne:q.bw≠q.ga) (cfg:Cfg a s) (h4:zae a s %4=0):IsM w q (newM a s):=by
 have e1:(newM a s).a=a:=rfl;have e2:(newM a s).s=s:=rfl;have e3:(newM a s).ks=newK a s:=rfl;have e4:(newM a s).ft=0:=rfl;have e5:=ztp a s;have hl:(zbv a s 3).length=zae a s:=zmo a s;have hk:=zg3 a s;generalize newM a s=z at*;generalize zbv a s 3=l at*;generalize newK a s=ks at*;obtain⟨za,zs,zk,zl,zf⟩:=z;simp only at e1 e2 e3 e4 e5;subst e1 e2 e3 e4 e5;exact⟨st,wt,ar,ne,cfg,hl,by simp only;omega⟩
def NewP(w:World)(a s:Nat)(e:Ending)(w':World):Prop:=
 ∃q:MH,e= .returned (.pointer (some ⟨q.m,0,none⟩))∧IsM w' q (newM a s)∧(∀k∈q.blocks,w.heap.size≤k)∧Fr [] w w'
def ztl(w:World)(a s pa ga gs:Nat)(u:Value)(W:World):Prop:=
 ∃k:Nat,k≤3∧u= .int .i64 k∧IsA W pa ga (zae a s) (zbv a s k)∧Blk W gs 3 #[.int .i64 1129270338,.int .i64 a,.int .i64 s] ∧Blk W w.heap.size 66 #[.int .i64 a,.int .i64 s] ∧Fr [] w W
theorem zrm(w:World)(hM:TabM w)(a s:Nat)(h:Cfg a s):Calls prog 28 #[cfgV a s] w (NewP w a s):=by
 have hr:=fun W h'=>zfk W h' a s h;have hsi:=fun W h'=>zdq W h' a s h;have hwa:=fun W h'=>ziy W h' a s h;unfold WatP at hwa;have hszl:=zc2 a s h
 have hmay:zff (zae a s)=true:=by
  obtain⟨a1,a2,s1,s2,s3⟩:=h;have h3:zae a s %16=0∧16≤zae a s:=by unfold zae zab;omega
  simp[zff];omega
 have h4:zae a s %4=0:=by
  obtain⟨a1,a2,s1,s2,s3⟩:=h;unfold zae zab;omega
 have han:=fun W=>zrn W (zae a s) hmay;have ha2:=h.a2;have hs3:=h.s3
 have hp0:∀W pa ga,IsA W pa ga (zae a s) (zbv a s 0)→Calls prog 75 #[.pointer (some ⟨pa,0,none⟩),.int .i64 8,.int .i64 4,.int .u64 1129270338] W fun e w'=>∃ec,e= .returned (.int .i64 ec)∧IsA w' pa ga (zae a s) (zbv a s 1)∧Fr [ga] W w':=fun W pa ga hA=>
  (zeq W pa ga _ _ hA 8 4 1129270338 (by omega)).mono fun e w' ⟨he,h1,h2⟩=>⟨_,he,zvp a s▸h1,h2⟩
 have hp1:∀W pa ga,IsA W pa ga (zae a s) (zbv a s 1)→Calls prog 75 #[.pointer (some ⟨pa,0,none⟩),.int .i64 12,.int .i64 4,.int .u64 a] W fun e w'=>∃ec,e= .returned (.int .i64 ec)∧IsA w' pa ga (zae a s) (zbv a s 2)∧Fr [ga] W w':=fun W pa ga hA=>
  (zeq W pa ga _ _ hA 12 4 a (by omega)).mono fun e w' ⟨he,h1,h2⟩=>⟨_,he,zwv a s▸h1,h2⟩
 have hp2:∀W pa ga,IsA W pa ga (zae a s) (zbv a s 2)→Calls prog 75 #[.pointer (some ⟨pa,0,none⟩),.int .i64 16,.int .i64 4,.int .u64 s] W fun e w'=>∃ec,e= .returned (.int .i64 ec)∧IsA w' pa ga (zae a s) (zbv a s 3)∧Fr [ga] W w':=fun W pa ga hA=>
  (zeq W pa ga _ _ hA 16 4 s (by omega)).mono fun e w' ⟨he,h1,h2⟩=>⟨_,he,zt8 a s▸h1,h2⟩
 obtain⟨P,hP⟩:∃P,P=NewP w a s:=⟨_,rfl⟩;rw[←hP];have HP:=hid hP;have H:=hid h;have H4:=hid h4;have HL0:=hid (zwu a s);have HN:=hid (ztp a s);have HNL:=hid (zro a s);have HR:=hid (show∀pa ga gs u W,ztl w a s pa ga gs u W=(∃k:Nat,k≤3∧u= .int .i64 k∧IsA W pa ga (zae a s) (zbv a s k)∧Blk W gs 3 #[.int .i64 1129270338,.int .i64 a,.int .i64 s]∧Blk W w.heap.size 66 #[.int .i64 a,.int .i64 s]∧Fr [] w W)from fun _ _ _ _ _=>rfl);generalize ztl w a s=R at*;have ua:=za3 a (by omega);have us:=za3 s (by omega);have um:IntKind.u64.wrap 1129270338=1129270338:=za3 1129270338 (by omega);clear hP h h4 hmay;generalize hsz:zae a s=sz at*;have HSZ:=hid hsz;clear hsz;unfold cfgV at*;have hMz:=hM.size;go_enter func28,ntmps28;go_wp2_with fail;with_reducible refine(hr _ (hM.alloc _)).mono ?_
 rintro e w1 ⟨rfl,f1⟩;have hM1:=(hM.alloc (.cells #[.int .i64 a,.int .i64 s] 66)).fr f1 (by simp);have hC1:=(Blk.new w 66 #[.int .i64 a,.int .i64 s]).fr f1 (by simp);have hF1:=((Fr.refl [] w).alloc (.cells #[.int .i64 a,.int .i64 s] 66)).trans f1;have c0:=hC1.cell 0;have c1:=hC1.cell 1;simp at c0 c1;clear f1 hr;go_wp2_with fail;with_reducible refine(hsi _ hM1).mono ?_
 rintro e w2 ⟨rfl,f2⟩;have hM2:=hM1.fr f2 (by simp);have hC2:=hC1.fr f2 (by simp);have hF2:=hF1.trans f2;clear f2 hM1 hC1 hF1 c0 c1 hsi;go_wp2_with fail;with_reducible refine(han _).mono ?_
 rintro e w3 ⟨pa,ga,rfl,hA3,hpa,hga,f3⟩;have hC3:=hC2.fr f3 (by simp);have hF3:=hF2.trans f3;have hz2:=hF2.size;have c0:=hC3.cell 0;have c1:=hC3.cell 1;simp at c0 c1;have hF4:=hF3.alloc (.cells #[.int .i64 1129270338,.int .i64 a,.int .i64 s] 3);have hA4:IsA (w3.alloc (.cells #[.int .i64 1129270338,.int .i64 a,.int .i64 s] 3)) pa ga sz (zbv a s 0):=by rw[HL0.out];exact hA3.fr (S:= []) ((Fr.refl [] _).alloc _) (by simp) (by simp)
 have hG4:Blk (w3.alloc (.cells #[.int .i64 1129270338,.int .i64 a,.int .i64 s] 3)) w3.heap.size 3 #[.int .i64 1129270338,.int .i64 a,.int .i64 s] :=Blk.new _ _ _;have hpc:w.heap.size<w2.heap.size:=hC2.lt;have hgs:ga<w3.heap.size:=hA3.row.lt;have hps:pa<w3.heap.size:=hA3.st.lt;clear f3 hA3 han hC2 hM2;go_wp2_with fail;generalize w3.heap.size=gs at*;go_loopw [18] (fun u W=>R pa ga gs u W) (fun u _=>3-(intOf u).toNat);case atStart=>rw[HR.out];exact⟨0,by omega,rfl,hA4,hG4,hC3.alloc _,hF4⟩
 case round=>
  clear hA4 hG4 hF4 hF3 hF2 c0 c1 hC3;rw[HR.out]at hrel;obtain⟨k,hk,rfl,hA,hG,hC,hF⟩:=hrel;have hMr:=hM.fr hF (by simp);have g0:=hG.cell 0;have g1:=hG.cell 1;have g2:=hG.cell 2;simp at g0 g1 g2;have t0:=hMr.fld 0;have t1:=hMr.fld 1;have t2:=hMr.fld 2;simp[fldT,zht]at t0 t1 t2;rcases k with _|_|_|_|k
  ·skip
   go_wp2_with fail;with_reducible refine(hp0 _ _ _ hA).mono ?_
   rintro e W9 ⟨ec,rfl,hA9,f9⟩;go_wp2_with fail;rw[HR.out];exact⟨⟨1,by omega,rfl,hA9,hG.fr f9 (by simp;omega),hC.fr f9 (by simp;omega),hF.step f9 (by simp;omega)⟩,by simp[intOf]⟩
  ·skip
   go_wp2_with fail;with_reducible refine(hp1 _ _ _ hA).mono ?_
   rintro e W9 ⟨ec,rfl,hA9,f9⟩;go_wp2_with fail;rw[HR.out];exact⟨⟨2,by omega,rfl,hA9,hG.fr f9 (by simp;omega),hC.fr f9 (by simp;omega),hF.step f9 (by simp;omega)⟩,by simp[intOf]⟩
  ·skip
   go_wp2_with fail;with_reducible refine(hp2 _ _ _ hA).mono ?_
   rintro e W9 ⟨ec,rfl,hA9,f9⟩;go_wp2_with fail;rw[HR.out];exact⟨⟨3,by omega,rfl,hA9,hG.fr f9 (by simp;omega),hC.fr f9 (by simp;omega),hF.step f9 (by simp;omega)⟩,by simp[intOf]⟩
  ·have c0:=hC.cell 0
   have c1:=hC.cell 1;simp at c0 c1;go_wp2_with fail;have hA5:IsA wr.drew pa ga sz (zbv a s 3):=hA.fr (S:= []) (Fr.refl _ _).drew (by simp) (by simp);have hC5:=hC.drew;have hF5:=hF.drew;have hM5:=hM.fr hF5 (by simp);have hgl:ga<wr.drew.heap.size:=hA5.row.lt;have hpl:pa<wr.drew.heap.size:=hA5.st.lt;have hz5:=hF5.size;clear hA hG hC hF hp0 hp1 hp2 t0 t1 t2 g0 g1 g2 hMr ua us um
   go_region_held3 (fun w'=>w'.cell? ⟨w.heap.size,0,none⟩=some (.int .i64 a)∧w'.cell? ⟨w.heap.size,1,none⟩=some (.int .i64 s)) (first|exact⟨c0,c1⟩|exact⟨((hC9.alloc _).cell 0).trans (by simp),((hC9.alloc _).cell 1).trans (by simp)⟩)
    (first
     |(go_at_call 76;(with_reducible refine(hwa _ hM5).mono ?_);rintro e W9 ⟨pw,bw,lk,rfl,hW9,hpw,hbw,f9⟩;have hA9:=hA5.fr f9 (by simp) (by simp);have hC9:=hC5.fr f9 (by simp);have hF9:=hF5.trans f9;have c0:=hC9.cell 0;have c1:=hC9.cell 1;simp at c0 c1))
   go_wp2_with fail;rw[HP.out];refine⟨⟨W9.heap.size,pw,bw,pa,ga,sz⟩,rfl,?_,?_,hF9.alloc _⟩
   ·exact zui (Blk.new _ _ _) ⟨lk,hW9.fr (S:= []) ((Fr.refl _ _).alloc _) (by simp) (by simp)⟩ (hA9.fr (S:= []) ((Fr.refl _ _).alloc _) (by simp) (by simp)) (by show bw≠ga;omega) H.out (by rw[HSZ.out];exact H4.out)
   ·intro k hk
    have:=hF9.size;simp[MH.blocks]at hk;omega
  ·omega
theorem zeo(w:World)(q:MH)(z:MS)(h:IsM w q z)(x n k:Nat)(hE:x+n≤z.l.length)(hm:∀i,i<n→mayL z.ks ((x+i:Nat):Int) 1 k=true):Calls prog 127 #[.pointer (some ⟨q.m,0,none⟩),.int .i64 x,.int .i64 n,.int .i64 k] w fun e w'=>e= .returned (.bool true)∧IsM w' q z∧Fr [q.pw] w w':=by
 have hn:=h.none;have hlen:=zq2 w q.pa q.ga q.cap z.l h.ar
 have HL:=hid (fun W hM (i:Nat) (hi:i<n)=>by
  have:=zn2 W q z hM ((x+i:Nat):Int) 1 k;have e:z.look ((x+i:Nat):Int) 1 k=z:=by unfold MS.look;rw[hm i hi,if_pos rfl]
  rw[hm i hi,e]at this;exact this)
 have c0:=h.st.cell 0;have c1:=h.st.cell 1;simp at c0 c1;have HM:=hid h;have hmax:=h.ar.byt
 have hsz:z.l.length≤1099511627776:=by
  have:=h.size;obtain⟨a1,a2,a3,a4,a5⟩:=h.cfg;unfold zae zab at this;omega
 generalize z.l.length=m at*;have b1:decide ((n:Int)<0)=false:=by simp
 have b2:decide ((x:Int)<0)=false:=by simp
 have b3':decide (m<x)=false:=by simp;omega
 have b4:decide ((m:Int)-x<n)=false:=by simp;omega
 have w1:=i64_in ((m:Int)-x) (by omega);clear h hmax;go_enter func127,ntmps127;go_wp2_with fail;with_reducible refine hn.mono ?_
 rintro e w' ⟨rfl,rfl⟩;go_wp2_with fail;with_reducible refine hlen.mono ?_
 rintro e w' ⟨rfl,rfl⟩;go_wp2_with fail;with_reducible refine hlen.mono ?_
 rintro e w' ⟨rfl,rfl⟩;go_wp2_with fail;clear c0 c1 hn hlen;go_loopw [49] (fun v W=>∃j:Nat,j≤n∧v= .int .i64 j∧IsM W q z∧Fr [q.pw] w' W) (fun v _=>n-(intOf v).toNat);case atStart=>exact⟨0,by omega,rfl,HM.out,Fr.refl _ _⟩
 case round=>
  obtain⟨j,hj,rfl,hI,hF⟩:=hrel;have HI:=hid hI;have HF:=hid hF;have c0:=hI.st.cell 0;simp at c0;clear hI hF;by_cases e:j<n
  ·have hw:=HL.out _ HI.out j e
   rw[show((x+j:Nat):Int)=(x:Int)+j from Int.natCast_add x j]at hw;have b5':decide (j<n)=true:=by simp;omega
   have w2:=i64_in ((x:Int)+j) (by omega);have w3:=i64_in ((j:Int)+1) (by omega);go_wp2_with fail;with_reducible refine hw.mono ?_
   rintro e w2 ⟨rfl,h2,f2⟩;have H2:=hid h2;have F2:=hid (HF.out.trans f2);clear h2 f2 hw c0;go_wp2_with fail;exact⟨⟨j+1,by omega,by go_num,H2.out,F2.out⟩,by simp[intOf];omega⟩
  ·obtain rfl:j=n:=by omega
   have b5':decide (j<j)=false:=by simp
   go_wp2_with fail;go_ret;exact⟨rfl,HI.out,HF.out⟩
theorem ze9(w:World)(q:MH)(z:MS)(h:IsM w q z)(x n k:Nat)(hE:x+n≤z.l.length)(hm:∀i,i<n→mayL z.ks ((x+i:Nat):Int) 1 k=true):Calls prog 79 #[.pointer (some ⟨q.m,0,none⟩),.int .i64 x,.int .i64 n,.int .i64 k] w fun e w'=>e= .returned (.bool true)∧IsM w' q {z with l:=spl z.l x (List.replicate n 0)}∧Fr [q.pw,q.ga] w w':=by
 have hr:=zeo w q z h x n k hE hm;have HZ:=hid (fun W (hM:IsM W q z)=>znq W q.pa q.ga q.cap z.l hM.ar x n hE);have hl2:(spl z.l x (List.replicate n 0)).length=z.l.length:=zb2 _ _ _ (by rw[List.length_replicate];exact hE)
 have HIS:=hid (show∀W W',IsM W q z→Fr [q.ga] W W'→IsA W' q.pa q.ga q.cap (spl z.l x (List.replicate n 0))→IsM W' q {z with l:=spl z.l x (List.replicate n 0)}from fun W W' hM hf hA=>by
  obtain⟨lk,hw⟩:=hM.wt;obtain⟨n1,n2,n3,n4,n5,n6,n7,n8,n9,n10⟩:=hM.nes;exact⟨hM.st.fr hf (by simp;omega),⟨lk,hw.fr hf (by simp;omega) (by simp;omega)⟩,hA,hM.ne,hM.cfg,hl2.trans hM.size,hl2.trans hM.grains⟩)
 generalize spl z.l x (List.replicate n 0)=l' at*;clear h;go_enter func79,ntmps79;go_wp2_with fail;with_reducible refine hr.mono ?_
 rintro e w1 ⟨rfl,h1,f1⟩;have c1:=h1.st.cell 1;simp at c1;have H1:=hid h1;clear h1 hr;go_wp2_with fail;with_reducible refine(HZ.out _ H1.out).mono ?_
 rintro e w2 ⟨rfl,h2,f2⟩;have H2:=hid (HIS.out _ _ H1.out f2 h2);have F2:=hid ((f1.mono (S':= [q.pw,q.ga]) (fun k hk=> .inl (by simp at hk;simp[hk]))).trans (f2.mono (S':= [q.pw,q.ga]) (fun k hk=> .inl (by simp at hk;simp[hk]))));clear h2 f1 f2;go_wp2_with fail;go_ret;exact⟨rfl,H2.out,F2.out⟩
structure TM where
 a:Nat
 s:Nat
 rt:Nat→Nat
 hd:Nat→Nat→Nat
 sl:Nat→Nat
 bt:Nat→Nat
 kd:Nat→Nat
 ft:Int
def hdA(p:Nat):Nat:=if p=0 then 0 else if p=1 then 2 else if p=2 then 4 else if p=3 then 8 else 12
def hdW(p:Nat):Nat:=if p<2 then 2 else 4
def pOf(r:Nat):Nat:=if r<2 then 0 else if r<4 then 1 else if r<8 then 2 else if r<12 then 3 else 4
def fOf(i:Nat):Nat:=if i<72 then(i-8)/4 else if i<80 then 16 else 17+(i-80)/4
def nb(v j:Nat):Nat:=v/256^j %256
def zln(rt:Nat→Nat)(i:Nat):Nat:=if i<8∨96≤i then 0 else nb (rt (fOf i)) (i-fldA (fOf i))
def ziu(hd:Nat→Nat→Nat)(o:Nat):Nat:=nb (hd (o/16) (pOf (o %16))) (o %16-hdA (pOf (o %16)))
def zah(t:TM)(i:Nat):Nat:=
 if i<128 then zln t.rt i else if i<zaf t.a then ziu t.hd (i-128)else if i<zaf t.a+4*t.s then nb (t.sl ((i-zaf t.a)/4)) ((i-zaf t.a) %4)
 else if i<zab t.a t.s then 0 else t.bt (i-zab t.a t.s)
def zan(t:TM)(g:Nat):Nat:=
 if g<2 then 1 else if g<32 then 2 else if 4*g<zaf t.a then 3 else if 4*g<zaf t.a+4*t.s then 4 else if 4*g<zab t.a t.s then 8 else t.kd (g-zab t.a t.s/4)
def TM.bytes(t:TM):List Nat:=(List.range (zae t.a t.s)).map (zah t)
def TM.kinds(t:TM):List Nat:=(List.range (zae t.a t.s/4)).map (zan t)
def TM.ms(t:TM):MS:={a:=t.a,s:=t.s,ks:=t.kinds,l:=t.bytes,ft:=t.ft}
structure TM.Ok(t:TM):Prop where
 cfg:Cfg t.a t.s
 rt: ∀f,t.rt f<256^fldW f
 hd: ∀i p,t.hd i p<256^hdW p
 sl: ∀i,t.sl i<256^4
 bt: ∀i,t.bt i<256
 kd: ∀g,t.kd g≤8
theorem TM.bytes_len(t:TM):t.bytes.length=zae t.a t.s:=by simp[TM.bytes]
theorem TM.kinds_len(t:TM):t.kinds.length=zae t.a t.s/4:=by simp[TM.kinds]
theorem TM.bytes_get(t:TM)(i:Nat)(h:i<zae t.a t.s):t.bytes[i]?.getD 0=zah t i:=by simp[TM.bytes,h]
theorem TM.kinds_get(t:TM)(i:Nat)(h:i<zae t.a t.s/4):t.kinds[i]?.getD 0=zan t i:=by simp[TM.kinds,h]
def up{α:Type}(f:Nat→α)(i:Nat)(v:α):Nat→α:=fun j=>if j=i then v else f j
theorem zaa{α:Type}(f:Nat→α)(i:Nat)(v:α):up f i v i=v:=if_pos rfl
theorem zac{α:Type}(f:Nat→α){i j:Nat}(v:α)(h:j≠i):up f i v j=f j:=if_neg h
def TM.setRt(t:TM)(f v:Nat):TM:={t with rt:=up t.rt f v}
def TM.setHd(t:TM)(i p v:Nat):TM:={t with hd:=up t.hd i (up (t.hd i) p v)}
def TM.setSl(t:TM)(i v:Nat):TM:={t with sl:=up t.sl i v}
theorem TM.setRt_rt(t:TM)(f v g:Nat):(t.setRt f v).rt g=if g=f then v else t.rt g:=rfl
theorem TM.setHd_hd(t:TM)(i p v j r:Nat):(t.setHd i p v).hd j r=if j=i∧r=p then v else t.hd j r:=by
 show up t.hd i (up (t.hd i) p v) j r=_;by_cases h:j=i
 ·subst h
  rw[zaa];by_cases h2:r=p
  ·rw[h2,zaa,if_pos ⟨rfl,rfl⟩]
  ·rw[zac _ _ h2,if_neg (fun h=>h2 h.2)]
 ·rw[zac _ _ h,if_neg (fun h'=>h h'.1)]
theorem zhj(w:World)(v:Value)(t:TypeId):(w.alloc (.cells #[v] t)).cell? ⟨w.heap.size,0,none⟩=some v:=(Blk.new w t #[v]).cell 0
theorem zh3(ks:List Nat)(x k kind:Nat)(hk:k=1∨k=2∨k=4∨k=8)(hx:x %k=0)(h0:kind≠0)(hl:x+k≤4*ks.length)
  (hg:∀g,x/4≤g→g<(x+k+3)/4→ks[g]?.getD 0=kind):mayL ks x k kind=true:=by
 unfold mayL;rw[decide_eq_true_eq];refine⟨by omega,by omega,by omega,?_⟩;unfold zbd
 rw[if_neg (by
  rintro(h|h)
  ·omega
  ·simp[zc8]at h;omega)]
 have e1:((x:Int)/4).toNat=x/4:=by omega
 have e2:(((x:Int)+k+3)/4).toNat=(x+k+3)/4:=by omega
 rw[e1,e2];unfold zf3;rw[zdl _ _ _ (fun y hy=>by rw[hg _ (by omega) (by omega),hg _ (by omega) (by omega)]),if_pos rfl,hg _ (by omega) (by omega)]
theorem ze2(n x k:Nat)(hk:k=1∨k=2∨k=4∨k=8)(hx:x %k=0)(hl:x+k≤n):zax n x k=0:=by
 unfold zax;rw[if_neg (by simp[widB];omega),if_neg (by omega),if_neg (by omega)]
theorem zyt(l:List Nat)(x k v:Nat)(hk:k=1∨k=2∨k=4∨k=8)(hx:x %k=0)(hl:x+k≤l.length)(hv:v<256^k)(hb:∀j,j<k→l[x+j]?.getD 0=nb v j):ldV l x k=v:=by
 unfold ldV;rw[ze2 _ _ _ hk hx hl,if_pos rfl,Int.toNat_natCast,Int.toNat_natCast,zpe l x v k hb,Nat.mod_eq_of_lt hv]
theorem zo1(l:List Nat)(x k v:Nat)(hk:k=1∨k=2∨k=4∨k=8)(hx:x %k=0)(hl:x+k≤l.length)(hv:v<256^k):putE l x k v=0:=by
 unfold putE
 have:zdg v k=true:=by
  simp[zdg,widB];exact⟨by omega,hv⟩
 rw[this,if_neg (by simp),ze2 _ _ _ hk hx hl]
theorem znj(l m:List Nat)(x k v:Nat)(hk:k=1∨k=2∨k=4∨k=8)(hx:x %k=0)(hl:x+k≤l.length)(hv:v<256^k)(hm:m.length=l.length)
  (hb:∀i,i<l.length→m[i]?.getD 0=if x≤i∧i<x+k then nb v (i-x)else l[i]?.getD 0):putL l x k v=m:=by
 unfold putL;rw[zo1 l x k v hk hx hl hv,if_pos rfl,Int.toNat_natCast,Int.toNat_natCast];apply List.ext_getElem?;intro i;rcases Nat.lt_or_ge i l.length with h|h
 ·have e1:=zil l x v k hl i
  have e2:=hb i h;have:(zd1 l x v k)[i]?.getD 0=m[i]?.getD 0:=by rw[e1,e2];rfl
  have h1:i<(zd1 l x v k).length:=by rw[zbo];exact h
  have h2:i<m.length:=by rw[hm];exact h
  rw[List.getElem?_eq_getElem h1,List.getElem?_eq_getElem h2]at this⊢;simpa using this
 ·rw[List.getElem?_eq_none (by rw[zbo];exact h),List.getElem?_eq_none (by rw[hm];exact h)]
structure At(t:TM)(x k kind v:Nat):Prop where
 wid:k=1∨k=2∨k=4∨k=8
 div:x %k=0
 k0:kind≠0
 fit:x+k≤zae t.a t.s
 lt:v<256^k
 kinds: ∀g,x/4≤g→g<(x+k+3)/4→zan t g=kind
 bytes: ∀j,j<k→zah t (x+j)=nb v j
theorem zcn(a s:Nat):zae a s %4=0∧zae a s %16=0:=by unfold zae zab;omega
theorem At.may{t:TM}{x k kind v:Nat}(h:At t x k kind v):mayL t.ms.ks x k kind=true:=by
 have h4:=zcn t.a t.s;have hf:=h.fit;refine zh3 _ _ _ _ h.wid h.div h.k0 (by show _≤4*t.kinds.length;rw[TM.kinds_len];omega) (fun g h1 h2=> ?_);have:g<zae t.a t.s/4:=by rcases h.wid with e|e|e|e<;>omega
 exact(TM.kinds_get t g this).trans (h.kinds g h1 h2)
theorem At.ld{t:TM}{x k kind v:Nat}(h:At t x k kind v):t.ms.ld x k kind=v:=by
 unfold MS.ld;rw[h.may,if_pos rfl];refine zyt _ _ _ _ h.wid h.div (by show _≤t.bytes.length;rw[TM.bytes_len];exact h.fit) h.lt (fun j hj=> ?_);exact(TM.bytes_get t _ (by have:=h.fit;omega)).trans (h.bytes j hj)
theorem At.look{t:TM}{x k kind v:Nat}(h:At t x k kind v):t.ms.look x k kind=t.ms:=by
 unfold MS.look;rw[h.may,if_pos rfl]
theorem At.stB{t:TM}{x k kind v:Nat}(h:At t x k kind v){v':Nat}(hv:v'<256^k):t.ms.stB x k kind v'=true:=by
 unfold MS.stB;rw[h.may,zo1 _ _ _ _ h.wid h.div (by show _≤t.bytes.length;rw[TM.bytes_len];exact h.fit) hv];rfl
theorem At.sto{t t':TM}{x k kind v:Nat}(h:At t x k kind v){v':Nat}(hv:v'<256^k)(ea:t'.a=t.a)(es:t'.s=t.s)(ek:t'.kinds=t.kinds)(ef:t'.ft=t.ft)
  (hb:∀i,zah t' i=if x≤i∧i<x+k then nb v' (i-x)else zah t i):t.ms.sto x k kind v'=t'.ms:=by
 unfold MS.sto;rw[h.may,if_pos rfl,if_pos rfl]
 have hl:putL t.ms.l x k v'=t'.bytes:=by
  refine znj _ _ _ _ _ h.wid h.div (by show _≤t.bytes.length;rw[TM.bytes_len];exact h.fit) hv (by show t'.bytes.length=t.bytes.length;rw[TM.bytes_len,TM.bytes_len,ea,es]) (fun i hi=> ?_);have hi':i<zae t.a t.s:=by rw[←TM.bytes_len];exact hi
  rw[TM.bytes_get t' i (by rw[ea,es];exact hi'),hb i];have e:t.ms.l[i]?.getD 0=zah t i:=TM.bytes_get t i hi';rw[e]
 rw[hl];unfold TM.ms;rw[ea,es,ek,ef]
theorem zjd(f:Nat)(h:f<21):fldA f=(if f<16 then 8+4*f else if f=16 then 72 else 80+4*(f-17)):=by
 revert f;decide
theorem zhc(f:Nat):fldW f=4∨fldW f=8:=by unfold fldW;split<;>simp
theorem zs1(f j:Nat)(h:f<21)(hj:j<fldW f):fOf (fldA f+j)=f∧8≤fldA f+j∧fldA f+j<96:=by
 rw[zjd f h];unfold fldW at hj;unfold fOf;split at hj<;>(repeat' split)<;>omega
theorem zyd(f i:Nat)(h:f<21)(h1:8≤i)(h2:i<96)(hn:¬(fldA f≤i∧i<fldA f+fldW f)):fOf i≠f:=by
 rw[zjd f h]at hn;unfold fldW at hn;unfold fOf;intro e;split at e<;>(try split at e)<;>(repeat' split at hn)<;>omega
theorem zak{a s:Nat}(h:Cfg a s):zaf a=128+16*a∧240≤zaf a∧zaf a+4*s≤zab a s∧zab a s<zae a s∧zab a s %16=0∧zae a s=zab a s+1024*a∧zaf a %16=0:=by
 obtain⟨a1,a2,s1,s2,s3⟩:=h;unfold zae zab zaf;omega
theorem zrs{t:TM}(h:t.Ok)(f:Nat)(hf:f<21):At t (fldA f) (fldW f) 2 (t.rt f):=by
 have e:=zjd f hf;have hw:fldW f=if f=16 then 8 else 4:=rfl;have hz:=zak h.cfg;refine⟨by rcases zhc f with e|e<;>omega,by rw[e,hw];split<;>(try split)<;>omega,by decide,?_,h.rt f,fun g h1 h2=> ?_,fun j hj=> ?_⟩
 ·rw[e,hw];split<;>(try split)<;>omega
 ·have:2≤g∧g<32:=by rw[e]at h1 h2;rw[hw]at h2;(repeat' split at h2)<;>(repeat' split at h1)<;>omega
  unfold zan;rw[if_neg (by omega),if_pos (by omega)]
 ·obtain⟨h1,h2,h3⟩:=zs1 f j hf hj
  unfold zah zln;rw[if_pos (by omega),if_neg (by omega),h1];congr 1;omega
theorem zf5{t:TM}(h:t.Ok)(f v:Nat)(hf:f<21)(i:Nat):zah (t.setRt f v) i=if fldA f≤i∧i<fldA f+fldW f then nb v (i-fldA f)else zah t i:=by
 have hz:=zak h.cfg;by_cases hi:fldA f≤i∧i<fldA f+fldW f
 ·obtain⟨h1,h2,h3⟩:=zs1 f (i-fldA f) hf (by omega)
  have e:fldA f+(i-fldA f)=i:=by omega
  rw[e]at h1 h2 h3;rw[if_pos hi];unfold zah zln;rw[if_pos (by omega),if_neg (by omega),h1];show nb (up t.rt f v f) _=_;rw[zaa]
 ·rw[if_neg hi]
  unfold zah zln;by_cases h1:i<128
  ·rw[if_pos h1,if_pos h1]
   by_cases h2:i<8∨96≤i
   ·rw[if_pos h2,if_pos h2]
   ·rw[if_neg h2,if_neg h2]
    show nb (up t.rt f v (fOf i)) _=_;rw[zac _ _ (zyd f i hf (by omega) (by omega) hi)]
  ·rw[if_neg h1,if_neg h1]
   rfl
theorem za5{t:TM}(h:t.Ok)(f v:Nat)(hv:v<256^fldW f):(t.setRt f v).Ok:=
 ⟨h.cfg,fun g=>by
  show up t.rt f v g<_;unfold up;split
  ·next e=>rw[e];exact hv
  ·exact h.rt g,h.hd,h.sl,h.bt,h.kd⟩
theorem zmd{t:TM}(h:t.Ok)(f v:Nat)(hf:f<21)(hv:v<256^fldW f):t.ms.sto (fldA f) (fldW f) 2 v=(t.setRt f v).ms:=
 (zrs h f hf).sto hv rfl rfl rfl rfl (zf5 h f v hf)
theorem zh6(p:Nat)(h:p<5):hdA p+hdW p≤16∧(hdW p=2∨hdW p=4)∧hdA p %hdW p=0:=by
 revert p;decide
theorem zt0(p j:Nat)(h:p<5)(hj:j<hdW p):pOf (hdA p+j)=p:=by
 have:∀p,p<5→∀j,j<4→j<hdW p→pOf (hdA p+j)=p:=by decide
 exact this p h j (by have:=(zh6 p h).2.1;omega) hj
theorem zzi(p r:Nat)(h:p<5)(hr:r<16)(hn:¬(hdA p≤r∧r<hdA p+hdW p)):pOf r≠p:=by
 have:∀p,p<5→∀r,r<16→¬(hdA p≤r∧r<hdA p+hdW p)→pOf r≠p:=by decide
 exact this p h r hr hn
def hdAt(i:Nat):Nat:=128+16*i
theorem zuw{t:TM}(h:t.Ok)(i p:Nat)(hi:i<t.a)(hp:p<5):At t (hdAt i+hdA p) (hdW p) 3 (t.hd i p):=by
 have hz:=zak h.cfg;have hl:=zh6 p hp;unfold hdAt;refine⟨by omega,by rcases hl.2.1 with e|e<;>rw[e]at hl⊢<;>omega,by decide,by omega,h.hd i p,fun g h1 h2=> ?_,fun j hj=> ?_⟩
 ·unfold zan
  rw[if_neg (by omega),if_neg (by omega),if_pos (by rcases hl.2.1 with e|e<;>rw[e]at hl h2<;>omega)]
 ·have e:=zt0 p j hp hj
  unfold zah ziu;rw[if_neg (by omega),if_pos (by omega)];have e1:(128+16*i+hdA p+j-128)/16=i:=by omega
  have e2:(128+16*i+hdA p+j-128) %16=hdA p+j:=by omega
  rw[e1,e2,e,Nat.add_sub_cancel_left]
theorem zlw{t:TM}(h:t.Ok)(i p v:Nat)(hi:i<t.a)(hp:p<5)(x:Nat):zah (t.setHd i p v) x=if hdAt i+hdA p≤x∧x<hdAt i+hdA p+hdW p then nb v (x-(hdAt i+hdA p))else zah t x:=by
 have hz:=zak h.cfg;have hl:=zh6 p hp;by_cases hx:hdAt i+hdA p≤x∧x<hdAt i+hdA p+hdW p
 ·rw[if_pos hx]
  unfold hdAt at*;have e:=zt0 p (x-(128+16*i+hdA p)) hp (by omega);unfold zah ziu;rw[if_neg (by omega),if_pos (by show x<zaf t.a;omega)];have e1:(x-128)/16=i:=by omega
  have e2:(x-128) %16=hdA p+(x-(128+16*i+hdA p)):=by omega
  rw[e1,e2,e];show nb (up t.hd i (up (t.hd i) p v) i p) _=_;rw[zaa,zaa,Nat.add_sub_cancel_left]
 ·rw[if_neg hx]
  unfold zah;by_cases h1:x<128
  ·rw[if_pos h1,if_pos h1];rfl
  ·rw[if_neg h1,if_neg h1]
   by_cases h2:x<zaf t.a
   ·rw[if_pos h2,if_pos (show x<zaf (t.setHd i p v).a from h2)]
    unfold ziu;show nb (up t.hd i (up (t.hd i) p v) ((x-128)/16) _) _=_;by_cases h3:(x-128)/16=i
    ·rw[h3,zaa]
     unfold hdAt at hx;rw[zac _ _ (zzi p _ hp (by omega) (by omega))]
    ·rw[zac _ _ h3]
   ·rw[if_neg h2,if_neg (show¬x<zaf (t.setHd i p v).a from h2)]
    rfl
theorem zcf{t:TM}(h:t.Ok)(i p v:Nat)(hv:v<256^hdW p):(t.setHd i p v).Ok:=
 ⟨h.cfg,h.rt,fun j r=>by
  show up t.hd i (up (t.hd i) p v) j r<_;by_cases e:j=i
  ·rw[e,zaa]
   by_cases e2:r=p
   ·rw[e2,zaa];exact hv
   ·rw[zac _ _ e2];exact h.hd i r
  ·rw[zac _ _ e];exact h.hd j r,h.sl,h.bt,h.kd⟩
theorem zoy{t:TM}(h:t.Ok)(i p v:Nat)(hi:i<t.a)(hp:p<5)(hv:v<256^hdW p):t.ms.sto (hdAt i+hdA p:Nat) (hdW p) 3 v=(t.setHd i p v).ms:=
 (zuw h i p hi hp).sto hv rfl rfl rfl rfl (zlw h i p v hi hp)
def slAt(t:TM)(i:Nat):Nat:=zaf t.a+4*i
theorem zus{t:TM}(h:t.Ok)(i:Nat)(hi:i<t.s):At t (slAt t i) 4 4 (t.sl i):=by
 have hz:=zak h.cfg;unfold slAt;refine⟨by omega,by omega,by decide,by omega,h.sl i,fun g h1 h2=> ?_,fun j hj=> ?_⟩
 ·unfold zan
  rw[if_neg (by omega),if_neg (by omega),if_neg (by omega),if_pos (by omega)]
 ·unfold zah
  rw[if_neg (by omega),if_neg (by omega),if_pos (by omega)];have e1:(zaf t.a+4*i+j-zaf t.a)/4=i:=by omega
  have e2:(zaf t.a+4*i+j-zaf t.a) %4=j:=by omega
  rw[e1,e2]
theorem zlh{t:TM}(h:t.Ok)(i v:Nat)(hi:i<t.s)(x:Nat):zah (t.setSl i v) x=if slAt t i≤x∧x<slAt t i+4 then nb v (x-slAt t i)else zah t x:=by
 have hz:=zak h.cfg;by_cases hx:slAt t i≤x∧x<slAt t i+4
 ·rw[if_pos hx]
  unfold slAt at*;unfold zah;rw[if_neg (by omega),if_neg (show¬x<zaf (t.setSl i v).a by show¬x<zaf t.a;omega),if_pos (show x<zaf (t.setSl i v).a+4*(t.setSl i v).s by show x<zaf t.a+4*t.s;omega)];have e1:(x-zaf t.a)/4=i:=by omega
  have e2:(x-zaf t.a) %4=x-(zaf t.a+4*i):=by omega
  show nb (up t.sl i v ((x-zaf t.a)/4)) ((x-zaf t.a) %4)=_;rw[e1,e2,zaa]
 ·rw[if_neg hx]
  unfold zah;by_cases h1:x<128
  ·rw[if_pos h1,if_pos h1];rfl
  ·rw[if_neg h1,if_neg h1]
   by_cases h2:x<zaf t.a
   ·rw[if_pos h2,if_pos (show x<zaf (t.setSl i v).a from h2)];rfl
   ·rw[if_neg h2,if_neg (show¬x<zaf (t.setSl i v).a from h2)]
    by_cases h3:x<zaf t.a+4*t.s
    ·rw[if_pos h3,if_pos (show x<zaf (t.setSl i v).a+4*(t.setSl i v).s from h3)]
     unfold slAt at hx;show nb (up t.sl i v ((x-zaf t.a)/4)) ((x-zaf t.a) %4)=_;rw[zac _ _ (by omega)]
    ·rw[if_neg h3,if_neg (show¬x<zaf (t.setSl i v).a+4*(t.setSl i v).s from h3)]
     rfl
theorem zso{t:TM}(h:t.Ok)(i v:Nat)(hv:v<256^4):(t.setSl i v).Ok:=
 ⟨h.cfg,h.rt,h.hd,fun j=>by
  show up t.sl i v j<_;unfold up;split
  ·exact hv
  ·exact h.sl j,h.bt,h.kd⟩
theorem zmp{t:TM}(h:t.Ok)(i v:Nat)(hi:i<t.s)(hv:v<256^4):t.ms.sto (slAt t i) 4 4 v=(t.setSl i v).ms:=
 (zus h i hi).sto hv rfl rfl rfl rfl (zlh h i v hi)
structure IsT(w:World)(q:MH)(t:TM):Prop where
 ok:t.Ok
 m:IsM w q t.ms
 tab:TabM w
 hi: ∀k∈q.blocks,3≤k
section
variable {w w' : World} {q : MH} {t : TM}
theorem IsT.fr{S:List Nat}(h:IsT w q t)(hf:Fr S w w')(hS:∀k∈q.blocks,k∉S)(hT:∀k,k<3→k∉S):IsT w' q t:=⟨h.ok,h.m.fr hf hS,⟨fun i=>(hf.cell (p:=⟨2,i,none⟩) (by have:=h.tab.size;simp;omega) (by simpa using hT _ (by decide))).trans (h.tab.cls i),fun i=>(hf.cell (p:=⟨0,i,none⟩) (by have:=h.tab.size;simp;omega) (by simpa using hT _ (by decide))).trans (h.tab.fld i),Nat.le_trans h.tab.size hf.size⟩,h.hi⟩
theorem IsT.fr0(h:IsT w q t)(hf:Fr [] w w'):IsT w' q t:=h.fr hf (by simp) (by simp)
theorem IsT.alloc(h:IsT w q t)(o:Obj):IsT (w.alloc o) q t:=h.fr0 ((Fr.refl [] w).alloc o)
theorem IsT.drew(h:IsT w q t):IsT w.drew q t:=h.fr0 (Fr.refl [] w).drew
theorem IsT.lt(h:IsT w q t):∀k∈q.blocks,k<w.heap.size:=h.m.lt
end
theorem Fr.pw{q:MH}{w w':World}(h:Fr [q.pw] w w'):Fr q.blocks w w':=h.mono (fun _ hm=>by simp at hm;simp[MH.blocks,hm])
theorem Fr.pwga{q:MH}{w w':World}(h:Fr [q.pw,q.ga] w w'):Fr q.blocks w w':=h.mono (fun _ hm=>by simp at hm;rcases hm with e|e<;>simp[MH.blocks,e])
theorem Fr.nil{S:List Nat}{w w':World}(h:Fr [] w w'):Fr S w w':=h.mono (fun _ hm=>by simp at hm)
theorem zjj{w:World}{q:MH}{t:TM}(h:IsT w q t){x k kind v:Nat}(ha:At t x k kind v):Calls prog 122 #[.pointer (some ⟨q.m,0,none⟩),.int .i64 x,.int .i64 k,.int .i64 kind] w fun e w'=>e= .returned (.int .u64 v)∧IsT w' q t∧Fr q.blocks w w':=by
 refine(zz7 w q t.ms h.m x k kind).mono fun e w' ⟨he,hm,hf⟩=> ?_;rw[ha.ld]at he;rw[ha.look]at hm;exact⟨he,⟨h.ok,hm,h.tab.fr hf.pw h.hi,h.hi⟩,hf.pw⟩
theorem zkd{w:World}{q:MH}{t t':TM}(h:IsT w q t){x k kind v v':Nat}(ha:At t x k kind v)(hv:v'<256^k)(hok:t'.Ok)(hs:t.ms.sto x k kind v'=t'.ms):Calls prog 170 #[.pointer (some ⟨q.m,0,none⟩),.int .i64 x,.int .i64 k,.int .i64 kind,.int .u64 v'] w fun e w'=>e= .returned (.bool true)∧IsT w' q t'∧Fr q.blocks w w':=by
 have h64:v'<18446744073709551616:=by
  have:256^k≤256^8:=Nat.pow_le_pow_right (by decide) (by rcases ha.wid with e|e|e|e<;>omega);omega
 refine(zp3 w q t.ms h.m x k kind v' h64).mono fun e w' ⟨he,hm,hf⟩=> ?_;rw[ha.stB hv]at he;rw[hs]at hm;exact⟨he,⟨hok,hm,h.tab.fr hf.pwga h.hi,h.hi⟩,hf.pwga⟩
theorem zqu{w:World}{q:MH}{t:TM}(h:IsT w q t)(f:Nat)(hf:f<21)(x:Int)(hx:x=f):Calls prog 45 #[.pointer (some ⟨q.m,0,none⟩),.int .i64 x] w fun e w'=>e= .returned (.int .u64 (t.rt f))∧IsT w' q t∧Fr q.blocks w w':=by
 have ha:=zrs h.ok f hf;subst hx;have hl:t.ms.ld (fldA f) (fldW f) 2=t.rt f:=ha.ld;have hk:t.ms.look (fldA f) (fldW f) 2=t.ms:=ha.look;refine(z0l w h.tab q t.ms h.m f hf).mono fun e w' ⟨he,hm,hf⟩=> ?_;rw[hl]at he;rw[hk]at hm;exact⟨he,⟨h.ok,hm,h.tab.fr hf.pw h.hi,h.hi⟩,hf.pw⟩
theorem zcg{w:World}{q:MH}{t:TM}(h:IsT w q t)(f:Nat)(hf:f<21)(v:Nat)(hv:v<256^fldW f)(x:Int)(hx:x=f)(u:Int)(hu:u=v):Calls prog 83 #[.pointer (some ⟨q.m,0,none⟩),.int .i64 x,.int .u64 u] w fun e w'=>e= .returned (.bool true)∧IsT w' q (t.setRt f v)∧Fr q.blocks w w':=by
 have ha:=zrs h.ok f hf
 have h64:v<18446744073709551616:=by
  rcases zhc f with e|e
  ·rw[e]at hv;exact Nat.lt_trans hv (by decide)
  ·rw[e]at hv;exact hv
 subst hx hu;refine(zqn w h.tab q t.ms h.m f hf v h64).mono fun e w' ⟨he,hm,hf'⟩=> ?_;have hb:t.ms.stB (fldA f) (fldW f) 2 v=true:=ha.stB hv;rw[hb]at he;rw[zmd h.ok f v hf hv]at hm;exact⟨he,⟨za5 h.ok f v hv,hm,h.tab.fr hf'.pwga h.hi,h.hi⟩,hf'.pwga⟩
theorem zca{w:World}{q:MH}{t:TM}(h:IsT w q t):Calls prog 81 #[.pointer (some ⟨q.m,0,none⟩)] w fun e w'=>e= .returned (cfgV t.a t.s)∧Fr [] w w':=zuo w q t.ms h.m
theorem zi8{w:World}{q:MH}{t:TM}(h:IsT w q t):Calls prog 16 #[.pointer (some ⟨q.m,0,none⟩)] w fun e w'=>e= .returned (.int .i64 t.ft)∧Fr [] w w':=zwk w q t.ms h.m
def zT(a s:Nat):TM:={a:=a,s:=s,rt:=fun _=>0,hd:=fun _ _=>0,sl:=fun _=>0,bt:=fun _=>0,kd:=fun _=>7,ft:=0}
def newG(g a s:Nat):TM:=(((zT a s).setRt 0 g).setRt 1 a).setRt 2 s
def newT(a s:Nat):TM:=newG 1129270338 a s
theorem zvn{a s:Nat}(h:Cfg a s):(zT a s).Ok:=⟨h,fun f=>Nat.pow_pos (by decide),fun i p=>Nat.pow_pos (by decide),fun i=>Nat.pow_pos (by decide),fun i=>Nat.zero_lt_succ 255,fun g=>by show 7≤8;decide⟩
theorem nb_0(j:Nat):nb 0 j=0:=by unfold nb;rw[Nat.zero_div]
theorem zu6(a s i:Nat):zah (zT a s) i=0:=by
 unfold zah zln ziu;show(if _ then(if _ then 0 else nb 0 _)else if _ then nb 0 _ else if _ then nb 0 _ else if _ then 0 else 0)=0;simp only[nb_0,ite_self]
theorem zqs(a s:Nat):nl0 a s=(zT a s).bytes:=by
 unfold nl0 TM.bytes;apply List.ext_getElem
 ·simp;rfl
 ·intro i h1 h2
  simp[zu6]
theorem zjv{t:TM}(h:t.Ok)(f v:Nat)(hf:f<21)(hv:v<256^fldW f):putL t.bytes (fldA f) (fldW f) v=(t.setRt f v).bytes:=by
 have ha:=zrs h f hf;refine znj _ _ _ _ _ ha.wid ha.div (by rw[TM.bytes_len];exact ha.fit) hv (by rw[TM.bytes_len,TM.bytes_len];rfl) (fun i hi=> ?_);rw[TM.bytes_len]at hi;rw[TM.bytes_get _ _ hi,TM.bytes_get (t.setRt f v) i hi,zf5 h f v hf i]
theorem zwm{g a s:Nat}(hg:g<4294967296)(h:Cfg a s):(newG g a s).Ok:=by
 have h2:=h.a2;have h3:=h.s3;have k1:=za5 (zvn h) 0 g hg;have k2:=za5 k1 1 a (show a<4294967296 by omega);exact za5 k2 2 s (show s<4294967296 by omega)
theorem zl8{g a s:Nat}(hg:g<4294967296)(h:Cfg a s):nl3 g a s=(newG g a s).bytes:=by
 have h2:=h.a2;have h3:=h.s3;have k1:=za5 (zvn h) 0 g hg;have k2:=za5 k1 1 a (show a<4294967296 by omega);have e1:nl1 g a s=((zT a s).setRt 0 g).bytes:=by unfold nl1;rw[zqs];exact zjv (zvn h) 0 g (by decide) hg
 have e2:nl2 g a s=(((zT a s).setRt 0 g).setRt 1 a).bytes:=by unfold nl2;rw[e1];exact zjv k1 1 a (by decide) (show a<4294967296 by omega)
 unfold nl3 newG;rw[e2];exact zjv k2 2 s (by decide) (show s<4294967296 by omega)
def mk1(x v:Nat)(r:Rn):Nat:=if r.1/4≤x∧x<(r.1+r.2.1)/4 then r.2.2 else v
theorem zif(x:Nat):∀(l:List Rn) (ks:List Nat),x<ks.length→(l.foldl zei ks)[x]?.getD 0=l.foldl (mk1 x) (ks[x]?.getD 0)
 | [],ks,h=>rfl
 |r::l,ks,h=>by
  rw[List.foldl_cons,List.foldl_cons,zif x l _ (by rw[zhq];exact h)];congr 1;unfold zei mk1;rw[zdj _ _ _ _ _ h];rfl
theorem zbb(x v:Nat)(l:List Rn)(e k m:Nat)(hm:zao l=m)(hme:m≤e)(h4:m %4=0)(h5:e %4=0):(zau l e k).foldl (mk1 x) v=if m/4≤x∧x<e/4 then k else l.foldl (mk1 x) v:=by
 unfold zau;rw[hm];split
 ·rw[List.foldl_append]
  show mk1 x _ _=_;unfold mk1;simp only;have:m+(e-m)=e:=by omega
  rw[this]
 ·rw[if_neg (by omega)]
theorem zq0{a s:Nat}(h:Cfg a s)(x:Nat)(hx:x<zae a s/4):(newK a s)[x]?.getD 0=zan (zT a s) x:=by
 obtain⟨e1,e2,e3,e4,e5,e6⟩:=zmh a s h;have hz:=zak h;unfold newK;rw[zif x _ _ (by simpa using hx)];unfold zfy;rw[zbb _ _ _ _ _ _ e5 (by omega) (by omega) (by omega)];unfold l5;rw[zbb _ _ _ _ _ _ e4 (by omega) (by omega) (by omega)];unfold l4;rw[zbb _ _ _ _ _ _ e3 (by omega) (by omega) (by omega)];unfold l3;rw[zbb _ _ _ _ _ _ e2 (by omega) (by omega) (by omega)];unfold l2;rw[zbb _ _ _ _ _ _ e1 (by omega) (by omega) (by omega)];unfold l1;rw[zbb _ _ _ _ _ 0 rfl (by omega) (by omega) (by omega)];unfold zan;show _=if x<2 then 1 else if x<32 then 2 else if 4*x<zaf a then 3 else if 4*x<zaf a+4*s then 4 else if 4*x<zab a s then 8 else 7;have zz:([] :List Rn).foldl (mk1 x) ((List.replicate (zae a s/4) 0)[x]?.getD 0)=0:=by show(List.replicate (zae a s/4) 0)[x]?.getD 0=0;rw[List.getElem?_replicate,if_pos hx];rfl
 rw[zz];by_cases c1:x<2
 ·rw[if_pos c1,if_neg (by omega),if_neg (by omega),if_neg (by omega),if_neg (by omega),if_neg (by omega),if_pos (by omega)]
 rw[if_neg c1];by_cases c2:x<32
 ·rw[if_pos c2,if_neg (by omega),if_neg (by omega),if_neg (by omega),if_neg (by omega),if_pos (by omega)]
 rw[if_neg c2];by_cases c3:4*x<zaf a
 ·rw[if_pos c3,if_neg (by omega),if_neg (by omega),if_neg (by omega),if_pos (by omega)]
 rw[if_neg c3];by_cases c4:4*x<zaf a+4*s
 ·rw[if_pos c4,if_neg (by omega),if_neg (by omega),if_pos (by omega)]
 rw[if_neg c4];by_cases c5:4*x<zab a s
 ·rw[if_pos c5,if_neg (by omega),if_pos (by omega)]
 rw[if_neg c5,if_pos (by omega)]
theorem zw6{a s:Nat}(h:Cfg a s):newK a s=(zT a s).kinds:=by
 apply List.ext_getElem?;intro x;rcases Nat.lt_or_ge x (zae a s/4)with hx|hx
 ·have e:=(zq0 h x hx).trans (TM.kinds_get (zT a s) x hx).symm
  have h1:x<(newK a s).length:=by rw[zg3];exact hx
  have h2:x<(zT a s).kinds.length:=by rw[TM.kinds_len];exact hx
  rw[List.getElem?_eq_getElem h1,List.getElem?_eq_getElem h2]at e⊢;simpa using e
 ·rw[List.getElem?_eq_none (by rw[zg3];exact hx),List.getElem?_eq_none (by rw[TM.kinds_len];exact hx)]
theorem zvw{a s:Nat}(h:Cfg a s):newM a s=(newT a s).ms:=by
 have e:∀g,g<4294967296→nlk g a s 3=(newG g a s).bytes:=fun g hg=>by rw[zq3,zl8 hg h]
 have k:newL a s=(newG 1129270338 a s).bytes:=by
  unfold newL zbv;exact e _ (by decide)
 unfold newM newT;rw[k,zw6 h];generalize(1129270338:Nat)=g;rfl
theorem zpm{a s:Nat}(h:Cfg a s):(newT a s).Ok:=zwm (by decide) h
def NewT(w:World)(a s:Nat)(e:Ending)(w':World):Prop:=
 ∃q:MH,e= .returned (.pointer (some ⟨q.m,0,none⟩))∧IsT w' q (newT a s)∧(∀k∈q.blocks,w.heap.size≤k)∧Fr [] w w'
theorem tnew(w:World)(hM:TabM w)(a s:Nat)(h:Cfg a s):Calls prog 28 #[cfgV a s] w (NewT w a s):=by
 refine(zrm w hM a s h).mono fun e w' ⟨q,he,hm,hq,hf⟩=>⟨q,he,⟨zpm h,?_,hM.fr hf (by simp),fun k hk=>Nat.le_trans hM.size (hq k hk)⟩,hq,hf⟩;rw[←zvw h];exact hm
end Go.Proofs.YtolhkhdbgnciiaaGreatDoor
