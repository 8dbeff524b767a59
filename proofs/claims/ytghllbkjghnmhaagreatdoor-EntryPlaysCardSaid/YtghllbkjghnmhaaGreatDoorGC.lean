/- Several texts in one. -/
import Derived.Test.YtghllbkjghnmhaaGreatDoorGA
import Derived.RangeFuncBound
import Derived.Shelf.RegionOpen
import Derived.LoopNIn
import Derived.LoopIn
import Derived.Maps.OwnIn
import Derived.Deep.RegionLaw
namespace Go.Proofs.YtghllbkjghnmhaaGreatDoor
open _root_.Go.Proofs.Tryz
open Go.Lib (hid)
open Go.IntWalk (i64_in)
set_option linter.unusedVariables false
set_option linter.unusedSimpArgs false
open Go.RowKit
set_option maxRecDepth 100000
set_option maxHeartbeats 4000000
structure MH where
 m:Nat
 pw:Nat
 bw:Nat
 pa:Nat
 ga:Nat
 cap:Nat
instance ziQ:Coe MH Value:=⟨fun q=> .pointer (some ⟨q.m,0,none⟩)⟩
structure MS where
 a:Nat
 s:Nat
 ks:List Nat
 l:List Nat
 ft:Int
def MH.blocks(q:MH):List Nat:= [q.m,q.pw,q.bw,q.pa,q.ga]
structure IsM(w:World)(q:MH)(z:MS):Prop where
 st:Blk w q.m 107 #[some q.pw,some q.pa,z.a,z.s]
 wt: ∃lk,IsW w q.pw q.bw z.ks lk z.ft
 ar:IsA w q.pa q.ga q.cap z.l
 ne:q.bw≠q.ga
 cfg:Cfg z.a z.s
 size:z.l.length=zdw z.a z.s
 grains:z.l.length=4*z.ks.length
section
variable{w w':World}{q:MH}{z:MS}
theorem IsM.fr{S:List Nat}(h:IsM w q z)(hf:Fr S w w')(hS:∀k∈q.blocks,k∉S):IsM w' q z:=by
 simp only[MH.blocks,List.mem_cons,List.not_mem_nil,or_false,forall_eq_or_imp,forall_eq]at hS;obtain⟨h1,h2,h3,h4,h5⟩:=hS;obtain⟨lk,hw⟩:=h.wt;exact⟨h.st.fr hf h1,⟨lk,hw.fr hf h2 h3⟩,h.ar.fr hf h4 h5,h.ne,h.cfg,h.size,h.grains⟩
theorem IsM.fr0(h:IsM w q z)(hf:Fr [] w w'):IsM w' q z:=h.fr hf (by simp)
theorem IsM.lt(h:IsM w q z):∀k∈q.blocks,k<w.heap.size:=by
 obtain⟨lk,hw⟩:=h.wt;simp only[MH.blocks,List.mem_cons,List.not_mem_nil,or_false,forall_eq_or_imp,forall_eq];exact⟨h.st.lt,hw.st.lt,hw.row.lt,h.ar.st.lt,h.ar.row.lt⟩
theorem IsM.nes(h:IsM w q z):q.m≠q.pw∧q.m≠q.bw∧q.m≠q.pa∧q.m≠q.ga∧q.pw≠q.bw∧q.pw≠q.pa∧q.pw≠q.ga∧q.bw≠q.pa∧q.bw≠q.ga∧q.pa≠q.ga:=by
 obtain⟨lk,hw⟩:=h.wt;obtain⟨cur,hr,_⟩:=h.ar.row;exact⟨h.st.ne_ hw.st (by decide),h.st.ne_ hw.row (by decide),h.st.ne_ h.ar.st (by decide),h.st.ne_ hr (by decide),hw.st.ne_ hw.row (by decide),hw.st.ne_ h.ar.st (by decide),hw.st.ne_ hr (by decide),hw.row.ne_ h.ar.st (by decide),h.ne,h.ar.st.ne_ hr (by decide)⟩
end
theorem zeq(w:World)(m pa:Nat)(h:w.cell? ⟨m,1,none⟩=some (some pa:Value)):Calls prog 44 #[some m] w (zE false w):=by
 go_in;go_wp2;go_ret;exact⟨rfl,rfl⟩
theorem IsM.none{w:World}{q:MH}{z:MS}(h:IsM w q z):Calls prog 44 #[q] w (zE false w):=
 zeq w q.m q.pa (h.st.cell 1)
def MS.look(z:MS)(x wd k:Int):MS:={z with ft:=if mayL z.ks x wd k then z.ft else wrap64 (z.ft+1)}
def MS.ld(z:MS)(x wd k:Int):Nat:=if mayL z.ks x wd k then ldV z.l x wd else 0
def MS.stB(z:MS)(x wd k:Int)(v:Nat):Bool:=mayL z.ks x wd k&&putE z.l x wd v==0
def MS.sto(z:MS)(x wd k:Int)(v:Nat):MS:={z with ft:=if mayL z.ks x wd k then z.ft else wrap64 (z.ft+1),l:=if mayL z.ks x wd k then putL z.l x wd v else z.l}
theorem zer(l:List Nat)(x wd:Int)(v:Nat):(putL l x wd v).length=l.length:=by
 unfold putL;split
 ·exact zaq _ _ _ _
 ·rfl
theorem zes(w:World)(q:MH)(z:MS)(h:IsM w q z)(x n k:Int):Calls prog 208 #[some q.pw,x,n,k] w fun e w'=>
  e= .returned (.bool (mayL z.ks x n k))∧IsM w' q (z.look x n k)∧Fr [q.pw] w w':=by
 obtain⟨lk,hw⟩:=h.wt;obtain⟨n1,_,_,_,_,n6,n7,n8,n9,n10⟩:=h.nes;refine(zcs w q.pw q.bw z.ks lk z.ft x n k hw).mono fun e w' ⟨he,⟨lk',hw'⟩,hf⟩=>⟨he,⟨h.st.fr hf (by simp;omega),⟨lk',hw'⟩,h.ar.fr hf (by simp;omega) (by simp;omega),h.ne,h.cfg,h.size,h.grains⟩,hf⟩
theorem zet(w:World)(q:MH)(z:MS)(h:IsM w q z)(x wd k:Int):Calls prog 109 #[q,x,wd,k] w (zR (.int .u64 (z.ld x wd k)) fun w'=>IsM w' q (z.look x wd k)∧Fr [q.pw] w w'):=by
 have hn:=h.none;have hL:=fun W hM=>zes W q z hM x wd k;have c0:=h.st.cell 0;have c1:=h.st.cell 1;simp at c0 c1;have hg:∀W,IsM W q (z.look x wd k)→Calls prog 209 #[some q.pa,x,wd] W (zE (.tuple #[.int .u64 (ldV z.l x wd),(za6 z.l.length x wd)]) W):=fun W hM=>zcz W q.pa q.ga q.cap z.l hM.ar x wd;unfold MS.ld;generalize ldV z.l x wd=v at*;generalize za6 z.l.length x wd=pe at*;generalize z.look x wd k=z' at*;generalize mayL z.ks x wd k=may at*;cases may
 ·rw[if_neg (by simp)]
  go_in;go_wp2_with fail;go_call hn as e w' ⟨rfl,rfl⟩;go_wp2_with fail;go_call hL _ h as e w1 ⟨rfl,hM1,f1⟩;go_wp2;go_ret;exact⟨rfl,hM1,f1⟩
 ·rw[if_pos rfl]
  go_in;go_wp2_with fail;go_call hn as e w' ⟨rfl,rfl⟩;go_wp2_with fail;go_call hL _ h as e w1 ⟨rfl,hM1,f1⟩;have d1:=hM1.st.cell 1;simp at d1;clear c0 c1;go_wp2_with fail;go_call hg _ hM1 as e w' ⟨rfl,rfl⟩;go_wp2;go_ret;exact⟨rfl,hM1,f1⟩
theorem zeu(w:World)(q:MH)(z:MS)(h:IsM w q z)(x wd k:Int)(v:Nat)(hv:v<18446744073709551616):Calls prog 165 #[q,x,wd,k,.int .u64 v] w (zR (.bool (z.stB x wd k v)) fun w'=>IsM w' q (z.sto x wd k v)∧Fr [q.pw,q.ga] w w'):=by
 have hn:=h.none;have hL:=fun W hM=>zes W q z hM x wd k;have c0:=h.st.cell 0;have c1:=h.st.cell 1;simp at c0 c1
 have hp:∀W,IsM W q (z.look x wd k)→Calls prog 72 #[some q.pa,x,wd,.int .u64 v] W (zR (putE z.l x wd v) fun w'=>IsM w' q {z.look x wd k with l:=putL z.l x wd v}∧Fr [q.ga] W w'):=fun W hM=>by
  obtain⟨_,_,_,n4,_,_,n7,_,n9,_⟩:=hM.nes;refine(zc3 W q.pa q.ga q.cap z.l hM.ar x wd v hv).mono fun e w' ⟨he,ha,hf⟩=>⟨he,?_,hf⟩;obtain⟨lk,hw⟩:=hM.wt;exact⟨hM.st.fr hf (by simp;omega),⟨lk,hw.fr hf (by simp;omega) (by simp;omega)⟩,ha,hM.ne,hM.cfg,(zer _ _ _ _).trans hM.size,(zer _ _ _ _).trans hM.grains⟩
 have hst0:mayL z.ks x wd k=false→z.sto x wd k v=z.look x wd k:=fun e=>by simp[MS.sto,MS.look,e]
 have hst1:mayL z.ks x wd k=true→z.sto x wd k v={z.look x wd k with l:=putL z.l x wd v}:=fun e=>by simp[MS.sto,MS.look,e]
 unfold MS.stB;generalize putE z.l x wd v=pe at*;generalize({z.look x wd k with l:=putL z.l x wd v}:MS)=z2 at*;generalize z.look x wd k=z' at*;generalize z.sto x wd k v=z3 at*;generalize mayL z.ks x wd k=may at*;cases may
 ·have e3:=hst0 rfl
  subst e3;rw[Bool.false_and];clear hst0 hst1;go_in;go_wp2_with fail;go_call hn as e w' ⟨rfl,rfl⟩;go_wp2_with fail;go_call hL _ h as e w1 ⟨rfl,hM1,f1⟩;go_wp2;go_ret;exact⟨rfl,hM1,f1.mono (fun _ hm=>by simp at hm;simp[hm])⟩
 ·have e3:=hst1 rfl
  subst e3;rw[Bool.true_and];have hb:(pe==0)=((pe:Int)==0):=by rw[Bool.eq_iff_iff];first|(simp;done)|(simp;omega)
  rw[hb];clear hst0 hst1 hb;go_in;go_wp2_with fail;go_call hn as e w' ⟨rfl,rfl⟩;go_wp2_with fail;go_call hL _ h as e w1 ⟨rfl,hM1,f1⟩;have d1:=hM1.st.cell 1;simp at d1;clear c0 c1;go_wp2_with fail;go_call hp _ hM1 as e w2 ⟨rfl,hM2,f2⟩;go_wp2;go_ret;exact⟨rfl,hM2,(f1.mono (fun _ hm=>by simp at hm;simp[hm])).trans (f2.mono (fun _ hm=>by simp at hm;simp[hm]))⟩
def fldL:List Nat:= [8,12,16,20,24,28,32,36,40,44,48,52,56,60,64,68,72,80,84,88,92]
def fldA(f:Nat):Nat:=fldL[f]?.getD 0
def fldW(f:Nat):Nat:=if f=16 then 8 else 4
theorem zev(f:Nat)(h:f<21):fldT[f]?=some (.int .i64 (fldA f)):=by
 rcases f with _|_|_|_|_|_|_|_|_|_|_|_|_|_|_|_|_|_|_|_|_|f<;>first|rfl|omega
theorem zew(w:World)(hM:TabM w)(f:Nat)(h:f<21):Calls prog 108 #[f] w (zE (.tuple #[(fldA f),(fldW f)]) w):=by
 have hc:=(hM.fld f).trans (zev f h);have b0:=dF ((f:Int)<0);have b1:=dF ((21:Int)≤f);have b2:=dF (21≤f);have h1:(f:Int)<21:=by omega
 unfold fldW;generalize fldA f=x at*;by_cases h16:f=16
 ·have b3:((f:Int)==16)=true:=by simp;omega
  rw[if_pos h16];clear h16;go_in;go_wp2;go_ret2;exact⟨rfl,rfl⟩
 ·have b3:((f:Int)==16)=false:=by simp;omega
  rw[if_neg h16];clear h16;go_in;go_wp2;go_ret2;exact⟨rfl,rfl⟩
theorem zex(f:Nat):4≤fldW f∧fldW f≤8:=by unfold fldW;split<;>omega
theorem zey(w:World)(hM:TabM w)(q:MH)(z:MS)(h:IsM w q z)(f:Nat)(hf:f<21):Calls prog 50 #[q,f] w (zR (.int .u64 (z.ld (fldA f) (fldW f) 2)) fun w'=>IsM w' q (z.look (fldA f) (fldW f) 2)∧Fr [q.pw] w w'):=by
 have hfl:=zew w hM f hf;have hld:=zet w q z h (fldA f) (fldW f) 2;have hw:=zex f;generalize z.ld (fldA f) (fldW f) 2=v at*;generalize z.look (fldA f) (fldW f) 2=z' at*;generalize fldA f=x at*;generalize fldW f=y at*;have b0:((y:Int)==0)=false:=by simp;omega
 clear h hM;go_in;go_wp2_with fail;go_call hfl as e w' ⟨rfl,rfl⟩;go_wp2_with fail;go_call hld as e w2 ⟨rfl,hM2,f2⟩;go_wp2;go_ret;exact⟨rfl,hM2,f2⟩
theorem zez(w:World)(hM:TabM w)(q:MH)(z:MS)(h:IsM w q z)(f:Nat)(hf:f<21)(v:Nat)(hv:v<18446744073709551616):Calls prog 80 #[q,f,.int .u64 v] w (zR (.bool (z.stB (fldA f) (fldW f) 2 v)) fun w'=>IsM w' q (z.sto (fldA f) (fldW f) 2 v)∧Fr [q.pw,q.ga] w w'):=by
 have hfl:=zew w hM f hf;have hst:=zeu w q z h (fldA f) (fldW f) 2 v hv;have hw:=zex f;generalize z.stB (fldA f) (fldW f) 2 v=r at*;generalize z.sto (fldA f) (fldW f) 2 v=z' at*;generalize fldA f=x at*;generalize fldW f=y at*;have b0:=dT ((0:Int)<y);clear h hM;go_in;go_wp2_with fail;go_call hfl as e w' ⟨rfl,rfl⟩;go_wp2_with fail;go_call hst as e w2 ⟨rfl,hM2,f2⟩;go_wp2;go_ret;exact⟨rfl,hM2,f2⟩
theorem ze0(w:World)(q:MH)(z:MS)(h:IsM w q z):Calls prog 78 #[q] w (zN (cfgV z.a z.s) w):=by
 have hn:=(h.fr0 ((Fr.refl [] w).alloc (.cells #[(0:Int),(0:Int)] 62))).none;have c2:=h.st.cell 2;have c3:=h.st.cell 3;have hl:=h.st.lt;simp at c2 c3;unfold cfgV;generalize z.a=a at*;generalize z.s=s at*;clear h;go_in;go_wp2_with fail;go_call hn as e w' ⟨rfl,rfl⟩;go_wp2;go_returns;exact⟨rfl,(Fr.refl [] w).alloc _⟩
theorem ze1(w:World)(q:MH)(z:MS)(h:IsM w q z):Calls prog 11 #[q] w (zN z.ft w):=by
 have hn:=h.none;have c0:=h.st.cell 0;obtain⟨lk,hw⟩:=h.wt;have hf:=fun W hW=>zcb W q.pw q.bw z.ks lk z.ft hW;simp at c0;have hl:=hw.st.lt;generalize z.ft=t at*;generalize z.ks=ks at*;clear h;go_in;go_wp2_with fail;go_call hn as e w' ⟨rfl,rfl⟩
 have hcf:∀W,IsW W q.pw q.bw ks lk t→Calls prog 45 #[.agg #[some q.pw]] W (zN t W):=fun W hW=>by
  have hfa:=hf _ (hW.fr (S:= []) ((Fr.refl _ _).alloc (.cells #[some q.pw] 102)) (by simp) (by simp));clear hf hW hw;go_in;go_wp2_with fail;go_call hfa as e w' ⟨rfl,rfl⟩;go_wp2;go_ret;exact⟨rfl,(Fr.refl [] W).alloc _⟩
 go_wp2_with fail;go_call hcf _ hw as e w2 ⟨rfl,f2⟩;go_wp2;go_ret;exact⟨rfl,f2⟩
def ze2(n:Nat)(r:Rn):Prop:=r.1 %4=0∧r.2.1 %4=0∧r.1+r.2.1≤n∧r.2.2≤8
theorem ze3(n:Nat)(l:List Rn)(e k:Nat)(h:∀r∈l,ze2 n r)(h4:zd6 l %4=0)(he:e %4=0)(hn:e≤n)(hk:k≤8):∀r∈zd7 l e k,ze2 n r:=by
 unfold zd7;split
 ·intro r hr
  rcases List.mem_append.1 hr with hr|hr
  ·exact h r hr
  ·simp at hr
   subst hr;refine⟨h4,?_,?_,hk⟩<;>simp<;>omega
 ·exact h
theorem ze4(a s:Nat)(h:Cfg a s):∀r∈zej a s,ze2 (zdw a s) r:=by
 obtain⟨e1,e2,e3,e4,e5,e6⟩:=zem a s h;obtain⟨a1,a2,s1,s2,s3⟩:=h;have z:zdu a=128+16*a:=rfl;have zb:zdv a s %4=0∧zdu a+4*s≤zdv a s∧zdw a s=zdv a s+1024*a:=by unfold zdw zdu zdv;omega
 obtain⟨z1,z2,z3⟩:=zb;have k1:=ze3 (zdw a s) [] 8 1 (by simp) (by decide) (by omega) (by omega) (by omega);have k2:=ze3 (zdw a s) l1 128 2 k1 (by rw[e1]) (by omega) (by omega) (by omega);have k3:=ze3 (zdw a s) l2 (zdu a) 3 k2 (by rw[e2]) (by omega) (by omega) (by omega);have k4:=ze3 (zdw a s) (l3 a) (zdu a+4*s) 4 k3 (by rw[e3];omega) (by omega) (by omega) (by omega);have k5:=ze3 (zdw a s) (l4 a s) (zdv a s) 8 k4 (by rw[e4];omega) (by omega) (by omega) (by omega);exact ze3 (zdw a s) (l5 a s) (zdw a s) 7 k5 (by rw[e5];omega) (by omega) (by omega) (by omega)
def ze5(ks:List Nat)(r:Rn):List Nat:=setR ks (r.1/4) ((r.1+r.2.1)/4) r.2.2
theorem ze6(ks:List Nat)(r:Rn):(ze5 ks r).length=ks.length:=zcc _ _ _ _
theorem ze7(l:List Rn):∀ks:List Nat,(l.foldl ze5 ks).length=ks.length:=by
 induction l with
 |nil=>intro ks;rfl
 |cons r l ih=>intro ks;rw[List.foldl_cons,ih,ze6]
def newK(a s:Nat):List Nat:=(zej a s).foldl ze5 (List.replicate (zdw a s/4) 0)
theorem ze8(a s:Nat):(newK a s).length=zdw a s/4:=by unfold newK;rw[ze7,List.length_replicate]
def ze9(w:World)(pw bw base:Nat)(v:Value)(L:List Rn)(K0:List Nat)(u:Value)(W:World):Prop:=
 ∃k:Nat,k≤L.length∧u= .int .i64 k∧(∃lk,IsW W pw bw ((L.take k).foldl ze5 K0) lk 0)∧OwnR W base v L∧Fr [] w W
def WatP(w:World)(a s:Nat)(e:Ending)(w':World):Prop:=
 ∃pw bw lk,e= .returned (some pw)∧IsW w' pw bw (newK a s) lk 0∧w.heap.size≤pw∧w.heap.size≤bw∧Fr [] w w'
theorem zfa{w w':World}{base n size:Nat}{e:TypeId}{v:Value}{xs:List Value}{b:Nat}{t:TypeId}{cs:Array Value}(h:w.ownsRow base e size v n xs)(hf:Fr [b] w w')(hb:Blk w b t cs)(hne:t≠e):w'.ownsRow base e size v n xs:=by
 obtain⟨h1,h2|⟨g',cap,cur,rfl,hgb,hh,h3⟩⟩:=h
 ·exact⟨h1,.inl h2⟩
 ·refine⟨h1,.inr ⟨g',cap,cur,rfl,hgb,Blk.fr (S:= [b]) hh hf (by simp;exact fun e=>by subst e;exact(Blk.ne_ hb hh hne) rfl),h3⟩⟩
theorem zfb(w:World)(hM:TabM w)(a s:Nat)(h:Cfg a s):Calls prog 73 #[cfgV a s] w (WatP w a s):=by
 have hsi:=fun W h'=>zd2 W h' a s h;have hru:=fun W h'=>zep W h' a s h;have hszl:=zdx a s h
 have hsz4:zdw a s %4=0∧4≤zdw a s:=by
  obtain⟨a1,a2,s1,_,s3⟩:=h;unfold zdw zdv;omega
 have HOK:=ze4 a s h;obtain⟨m,hm⟩:∃m,m=zdw a s/4:=⟨_,rfl⟩
 have hnw:∀W,Calls prog 155 #[(zdw a s)] W fun e w'=>∃p b,e= .returned (some p)∧IsW w' p b (List.replicate m 0) 0 0∧W.heap.size≤p∧W.heap.size≤b∧Fr [] W w':=fun W=>by
  have:=zca W m (by omega) (by omega);rw[show(4*(m:Int))=(zdw a s:Int)by omega]at this;exact this
 obtain⟨P,hP⟩:∃P,P=WatP w a s:=⟨_,rfl⟩;rw[←hP];have HP:=hid hP;have HK:=hid (show newK a s=(zej a s).foldl ze5 (List.replicate m 0)by unfold newK;rw[hm]);have hlen:=(zen a s).2.2.2.2.2;clear hP hsz4;generalize zej a s=L at*;generalize hsz:zdw a s=sz at*;have HMM:=hid hm;clear hsz hm;unfold cfgV at*;unfold zeo at hru;go_in;go_wp2_with fail;go_call hsi _ (hM.alloc _) as e w1 ⟨rfl,f1⟩;have hM1:=(hM.alloc (.cells #[a,s] 62)).fr f1 (by simp);have hC1:=(Blk.new w 62 #[.int .i64 a,.int .i64 s]).fr f1 (by simp);have hF1:=((Fr.refl [] w).alloc (.cells #[a,s] 62)).trans f1;clear f1 hsi hM;go_wp2_with fail;go_call hnw _ as e w2 ⟨pw,bw,rfl,hW2,hpw,hbw,f2⟩;have hM2:=hM1.fr f2 (by simp);have hC2:=hC1.fr f2 (by simp);have hF2:=hF1.trans f2;have hz1:=hF1.size;have c0:=hC2.cell 0;have c1:=hC2.cell 1;simp at c0 c1;clear f2 hnw hM1 hC1 hF1;go_wp2_with fail;go_call hru _ hM2 as e w3 ⟨v,rfl,hO3,f3⟩;have hW3:=hW2.fr f3 (by simp) (by simp);have hF3:=hF2.trans f3;clear f3 hru hM2 hC2 c0 c1;obtain⟨A,kc,hv⟩:=zeg hO3;generalize hln:L.length=n at*;subst hv;have HLN:=hid hln;have hln2:L.length≤n:=by omega
 clear hln;go_wp2;have HR:=hid (show∀u W,ze9 w pw bw w2.heap.size (.slice A n kc) L (List.replicate m 0) u W=(∃k:Nat,k≤L.length∧u= .int .i64 k∧(∃lk,IsW W pw bw ((L.take k).foldl ze5 (List.replicate m 0)) lk 0)∧OwnR W w2.heap.size (.slice A n kc) L∧Fr [] w W)from fun _ _=>rfl);generalize ze9 w pw bw w2.heap.size (.slice A n kc) L (List.replicate m 0)=R at*;go_loopw [12] (fun u W=>R u W) (fun u _=>n-(intOf u).toNat);case atStart=>rw[HR.out];exact⟨0,by omega,rfl,⟨0,by simpa using hW3⟩,hO3,hF3⟩
 case round=>
  clear hW2 hW3 hO3 hF2 hF3;rw[HR.out]at hrel;obtain⟨k,hk,rfl,⟨lk,hW⟩,hO,hF⟩:=hrel;rw[HLN.out]at hk;by_cases hlt:k<n
  ·obtain⟨r,hr⟩:∃r,L[k]?=some r:=⟨_,List.getElem?_eq_getElem (by rw[HLN.out];exact hlt)⟩
   have hrok:=HOK r (List.mem_of_getElem? hr);obtain⟨g,cap,hv,_⟩:=World.ownsRow.form hO (by rw[HLN.out];omega);have hcells:=World.ownsRow.cells hO (g:=g) (by rw[hv];rfl);injection hv with hA hnn hcc;subst hA;clear hnn hcc;obtain⟨e1,e2,e3⟩:=zd5 L k r hr;have hadd:∀j,(⟨g,0,none⟩:Addr).add j=⟨g,j,none⟩:=fun j=>by unfold Addr.add;split<;>simp_all
   have q1:=hcells _ _ e1;have q2:=hcells _ _ e2;have q3:=hcells _ _ e3;rw[hadd,Nat.mul_comm]at q1 q2 q3;obtain⟨ra,rl,rk⟩:=r;obtain⟨o1,o2,o3,o4⟩:=hrok;simp only at o1 o2 o3 o4 q1 q2 q3;have hkl:=hW.len;have hklen:((L.take k).foldl ze5 (List.replicate m 0)).length=m:=by rw[ze7,List.length_replicate]
   have hmm:=HMM.out
   have hmk:∀W,IsW W pw bw ((L.take k).foldl ze5 (List.replicate m 0)) lk 0→Calls prog 157 #[some pw,ra,rl,rk] W (zR (0:Int) fun w'=>IsW w' pw bw ((L.take (k+1)).foldl ze5 (List.replicate m 0)) lk 0∧Fr [bw] W w'):=fun W hW=>by
    have:=zcg W pw bw ((L.take k).foldl ze5 (List.replicate m 0)) lk 0 ra rl (ra/4) ((ra+rl)/4) rk hW (by omega) (by rw[hklen];omega) o4 (by omega) (by omega);rw[List.take_add_one,hr,Option.toList_some,List.foldl_append,List.foldl_cons,List.foldl_nil];exact this
   clear e1 e2 e3 hadd hcells hr hkl hklen hmm o1 o2 o3 o4;have hix:(k:Int)<n:=by omega
   go_wp2_with fail;go_call hmk _ (hW.fr (S:= []) ((Fr.refl [] _).alloc _) (by simp) (by simp)) as e W9 ⟨rfl,hW9,f9⟩;go_wp2;rw[HR.out];refine⟨⟨k+1,by rw[HLN.out];omega,by go_num,⟨lk,hW9⟩,?_,?_⟩,by simp[intOf];omega⟩
   ·exact zfa (World.ownsRow.alloc hO _) f9 (hW.row.alloc _) (by decide)
   ·exact(hF.alloc _).step f9 (by simp;omega)
  ·obtain rfl:k=n:=by omega
   go_wp2;rw[HP.out];rw[List.take_of_length_le (by omega)]at hW;refine⟨pw,bw,lk,rfl,?_,?_,?_,hF⟩
   ·rw[HK.out];exact hW
   ·omega
   ·omega
def nl0(a s:Nat):List Nat:=List.replicate (zdw a s) 0
def nl1(g a s:Nat):List Nat:=putL (nl0 a s) 8 4 g
def nl2(g a s:Nat):List Nat:=putL (nl1 g a s) 12 4 a
def nl3(g a s:Nat):List Nat:=putL (nl2 g a s) 16 4 s
theorem zfc(g a s:Nat):(nl3 g a s).length=zdw a s:=by
 rw[nl3,zer,nl2,zer,nl1,zer,nl0,List.length_replicate]
def nlk(g a s k:Nat):List Nat:=if k=0 then nl0 a s else if k=1 then nl1 g a s else if k=2 then nl2 g a s else nl3 g a s
theorem zfd(g a s:Nat):nlk g a s 0=nl0 a s:=by rw[nlk,if_pos rfl]
theorem zfe(g a s:Nat):nlk g a s 1=nl1 g a s:=by rw[nlk,if_neg (by decide),if_pos rfl]
theorem zff(g a s:Nat):nlk g a s 2=nl2 g a s:=by rw[nlk,if_neg (by decide),if_neg (by decide),if_pos rfl]
theorem zfg(g a s:Nat):nlk g a s 3=nl3 g a s:=by rw[nlk,if_neg (by decide),if_neg (by decide),if_neg (by decide)]
theorem zfh(g a s:Nat):putL (nlk g a s 0) 8 4 g=nlk g a s 1:=by rw[zfd,zfe,nl1]
theorem zfi(g a s:Nat):putL (nlk g a s 1) 12 4 a=nlk g a s 2:=by rw[zfe,zff,nl2]
theorem zfj(g a s:Nat):putL (nlk g a s 2) 16 4 s=nlk g a s 3:=by rw[zff,zfg,nl3]
def zfk(a s:Nat):Nat→List Nat:=nlk 1129270338 a s
def newL(a s:Nat):List Nat:=zfk a s 3
theorem zfl(a s:Nat):zfk a s 0=List.replicate (zdw a s) 0:=zfd _ a s
theorem zfm(a s:Nat):putL (zfk a s 0) 8 4 1129270338=zfk a s 1:=zfh _ a s
theorem zfn(a s:Nat):putL (zfk a s 1) 12 4 a=zfk a s 2:=zfi _ a s
theorem zfo(a s:Nat):putL (zfk a s 2) 16 4 s=zfk a s 3:=zfj _ a s
def newM(a s:Nat):MS:={a:=a,s:=s,ks:=newK a s,l:=newL a s,ft:=0}
theorem zfp(a s:Nat):(newL a s).length=zdw a s:=(congrArg List.length (zfg _ a s)).trans (zfc _ a s)
theorem zfq(a s:Nat):(zfk a s 3).length=zdw a s:=(congrArg List.length (zfg _ a s)).trans (zfc _ a s)
theorem zfr(a s:Nat):zfk a s 3=(newM a s).l:=by
 unfold newM;simp only;rw[newL]
theorem zfs{w:World}{q:MH}{a s:Nat}(st:Blk w q.m 107 #[some q.pw,some q.pa,a,s])(wt:∃lk,IsW w q.pw q.bw (newK a s) lk 0)
  (ar:IsA w q.pa q.ga q.cap (zfk a s 3)) (ne:q.bw≠q.ga) (cfg:Cfg a s) (h4:zdw a s %4=0):IsM w q (newM a s):=by
 have e1:(newM a s).a=a:=rfl;have e2:(newM a s).s=s:=rfl;have e3:(newM a s).ks=newK a s:=rfl;have e4:(newM a s).ft=0:=rfl;have e5:=zfr a s;have hl:(zfk a s 3).length=zdw a s:=zfq a s;have hk:=ze8 a s;generalize newM a s=z at*;generalize zfk a s 3=l at*;generalize newK a s=ks at*;obtain⟨za,zs,zk,zl,zf⟩:=z;simp only at e1 e2 e3 e4 e5;subst e1 e2 e3 e4 e5;exact⟨st,wt,ar,ne,cfg,hl,by simp only;omega⟩
def NewP(w:World)(a s:Nat)(e:Ending)(w':World):Prop:=
 ∃q:MH,e= .returned q∧IsM w' q (newM a s)∧(∀k∈q.blocks,w.heap.size≤k)∧Fr [] w w'
def zft(w:World)(a s pa ga gs:Nat)(u:Value)(W:World):Prop:=
 ∃k:Nat,k≤3∧u= .int .i64 k∧IsA W pa ga (zdw a s) (zfk a s k)∧Blk W gs 3 #[(1129270338:Int),a,s] ∧Blk W w.heap.size 62 #[a,s] ∧Fr [] w W
theorem zfu(w:World)(hM:TabM w)(a s:Nat)(h:Cfg a s):Calls prog 20 #[cfgV a s] w (NewP w a s):=by
 have hr:=fun W h'=>zdt W h' a s h;have hsi:=fun W h'=>zd2 W h' a s h;have hwa:=fun W h'=>zfb W h' a s h;unfold WatP at hwa;have hszl:=zdx a s h
 have hmay:zcv (zdw a s)=true:=by
  obtain⟨a1,a2,s1,_,s3⟩:=h;have h3:zdw a s %16=0∧16≤zdw a s:=by unfold zdw zdv;omega
  simp[zcv];omega
 have h4:zdw a s %4=0:=by
  obtain⟨_,_⟩:=h;unfold zdw zdv;omega
 have han:=fun W=>zcy W (zdw a s) hmay;have ha2:=h.a2;have hs3:=h.s3
 have hp0:∀W pa ga,IsA W pa ga (zdw a s) (zfk a s 0)→Calls prog 72 #[some pa,(8:Int),(4:Int),.int .u64 1129270338] W fun e w'=>∃ec,e= .returned (.int .i64 ec)∧IsA w' pa ga (zdw a s) (zfk a s 1)∧Fr [ga] W w':=fun W pa ga hA=>
  (zc3 W pa ga _ _ hA 8 4 1129270338 (by omega)).mono fun e w' ⟨he,h1,h2⟩=>⟨_,he,zfm a s▸h1,h2⟩
 have hp1:∀W pa ga,IsA W pa ga (zdw a s) (zfk a s 1)→Calls prog 72 #[some pa,(12:Int),(4:Int),.int .u64 a] W fun e w'=>∃ec,e= .returned (.int .i64 ec)∧IsA w' pa ga (zdw a s) (zfk a s 2)∧Fr [ga] W w':=fun W pa ga hA=>
  (zc3 W pa ga _ _ hA 12 4 a (by omega)).mono fun e w' ⟨he,h1,h2⟩=>⟨_,he,zfn a s▸h1,h2⟩
 have hp2:∀W pa ga,IsA W pa ga (zdw a s) (zfk a s 2)→Calls prog 72 #[some pa,(16:Int),(4:Int),.int .u64 s] W fun e w'=>∃ec,e= .returned (.int .i64 ec)∧IsA w' pa ga (zdw a s) (zfk a s 3)∧Fr [ga] W w':=fun W pa ga hA=>
  (zc3 W pa ga _ _ hA 16 4 s (by omega)).mono fun e w' ⟨he,h1,h2⟩=>⟨_,he,zfo a s▸h1,h2⟩
 obtain⟨P,hP⟩:∃P,P=NewP w a s:=⟨_,rfl⟩;rw[←hP];have HP:=hid hP;have H4:=hid h4;have HL0:=hid (zfl a s);have HNL:=hid (zfp a s);have HR:=hid (show∀pa ga gs u W,zft w a s pa ga gs u W=(∃k:Nat,k≤3∧u= .int .i64 k∧IsA W pa ga (zdw a s) (zfk a s k)∧Blk W gs 3 #[(1129270338:Int),a,s]∧Blk W w.heap.size 62 #[a,s]∧Fr [] w W)from fun _ _ _ _ _=>rfl);generalize zft w a s=R at*;have ua:=zaw a (by omega);have us:=zaw s (by omega);have um:IntKind.u64.wrap 1129270338=1129270338:=zaw 1129270338 (by omega);clear hP h4 hmay;generalize hsz:zdw a s=sz at*;have HSZ:=hid hsz;clear hsz;unfold cfgV at*;go_in;go_wp2_with fail;go_call hr _ (hM.alloc _) as e w1 ⟨rfl,f1⟩;have hM1:=(hM.alloc (.cells #[a,s] 62)).fr f1 (by simp);have hC1:=(Blk.new w 62 #[.int .i64 a,.int .i64 s]).fr f1 (by simp);have hF1:=((Fr.refl [] w).alloc (.cells #[a,s] 62)).trans f1;have c0:=hC1.cell 0;have c1:=hC1.cell 1;simp at c0 c1;clear f1 hr;go_wp2_with fail;go_call hsi _ hM1 as e w2 ⟨rfl,f2⟩;have hM2:=hM1.fr f2 (by simp);have hC2:=hC1.fr f2 (by simp);have hF2:=hF1.trans f2;clear f2 hM1 hC1 hF1 c0 c1 hsi;go_wp2_with fail;go_call han _ as e w3 ⟨pa,ga,rfl,hA3,hpa,hga,f3⟩;have hC3:=hC2.fr f3 (by simp);have hF3:=hF2.trans f3;have c0:=hC3.cell 0;have c1:=hC3.cell 1;simp at c0 c1;have hF4:=hF3.alloc (.cells #[(1129270338:Int),a,s] 3);have hA4:IsA (w3.alloc (.cells #[(1129270338:Int),a,s] 3)) pa ga sz (zfk a s 0):=by rw[HL0.out];exact hA3.fr (S:= []) ((Fr.refl [] _).alloc _) (by simp) (by simp)
 have hG4:Blk (w3.alloc (.cells #[(1129270338:Int),a,s] 3)) w3.heap.size 3 #[.int .i64 1129270338,.int .i64 a,.int .i64 s] :=Blk.new _ _ _;have hpc:w.heap.size<w2.heap.size:=hC2.lt;have hgs:ga<w3.heap.size:=hA3.row.lt;have hps:pa<w3.heap.size:=hA3.st.lt;clear f3 hA3 han hC2 hM2;go_wp2;generalize w3.heap.size=gs at*;go_loopw [18] (fun u W=>R pa ga gs u W) (fun u _=>3-(intOf u).toNat);case atStart=>rw[HR.out];exact⟨0,by omega,rfl,hA4,hG4,hC3.alloc _,hF4⟩
 case round=>
  clear hA4 hG4 hF4 hF3 hF2 c0 c1 hC3;rw[HR.out]at hrel;obtain⟨k,hk,rfl,hA,hG,hC,hF⟩:=hrel;have hMr:=hM.fr hF (by simp);have g0:=hG.cell 0;have g1:=hG.cell 1;have g2:=hG.cell 2;simp at g0 g1 g2;have t0:=hMr.fld 0;have t1:=hMr.fld 1;have t2:=hMr.fld 2;simp[fldT,zdn]at t0 t1 t2;rcases k with _|_|_|_|k
  ·skip
   go_wp2_with fail;go_call hp0 _ _ _ hA as e W9 ⟨ec,rfl,hA9,f9⟩;go_wp2;rw[HR.out];exact⟨⟨1,by omega,rfl,hA9,hG.fr f9 (by simp;omega),hC.fr f9 (by simp;omega),hF.step f9 (by simp;omega)⟩,by simp[intOf]⟩
  ·skip
   go_wp2_with fail;go_call hp1 _ _ _ hA as e W9 ⟨ec,rfl,hA9,f9⟩;go_wp2;rw[HR.out];exact⟨⟨2,by omega,rfl,hA9,hG.fr f9 (by simp;omega),hC.fr f9 (by simp;omega),hF.step f9 (by simp;omega)⟩,by simp[intOf]⟩
  ·skip
   go_wp2_with fail;go_call hp2 _ _ _ hA as e W9 ⟨ec,rfl,hA9,f9⟩;go_wp2;rw[HR.out];exact⟨⟨3,by omega,rfl,hA9,hG.fr f9 (by simp;omega),hC.fr f9 (by simp;omega),hF.step f9 (by simp;omega)⟩,by simp[intOf]⟩
  ·have c0:=hC.cell 0
   have c1:=hC.cell 1;simp at c0 c1;go_wp2_with fail;have hA5:IsA wr.drew pa ga sz (zfk a s 3):=hA.fr (S:= []) (Fr.refl _ _).drew (by simp) (by simp);have hC5:=hC.drew;have hF5:=hF.drew;have hM5:=hM.fr hF5 (by simp);have hgl:ga<wr.drew.heap.size:=hA5.row.lt;have hpl:pa<wr.drew.heap.size:=hA5.st.lt;clear hA hG hC hF hp0 hp1 hp2 t0 t1 t2 g0 g1 g2 hMr ua us um
   go_region_held3 (fun w'=>w'.cell? ⟨w.heap.size,0,none⟩=some (.int .i64 a)∧w'.cell? ⟨w.heap.size,1,none⟩=some (.int .i64 s)) (first|exact⟨c0,c1⟩|exact⟨((hC9.alloc _).cell 0).trans (by simp),((hC9.alloc _).cell 1).trans (by simp)⟩)
    (first
     |(go_at_call 73;(with_reducible refine(hwa _ hM5).mono ?_);rintro e W9 ⟨pw,bw,lk,rfl,hW9,hpw,hbw,f9⟩;have hA9:=hA5.fr f9 (by simp) (by simp);have hC9:=hC5.fr f9 (by simp);have hF9:=hF5.trans f9;have c0:=hC9.cell 0;have c1:=hC9.cell 1;simp at c0 c1))
   go_wp2;rw[HP.out];refine⟨⟨W9.heap.size,pw,bw,pa,ga,sz⟩,rfl,?_,?_,hF9.alloc _⟩
   ·exact zfs (Blk.new _ _ _) ⟨lk,hW9.fr (S:= []) ((Fr.refl _ _).alloc _) (by simp) (by simp)⟩ (hA9.fr (S:= []) ((Fr.refl _ _).alloc _) (by simp) (by simp)) (by show bw≠ga;omega) h (by rw[HSZ.out];exact H4.out)
   ·intro k hk
    have:=hF9.size;simp[MH.blocks]at hk;omega
  ·omega
theorem zfv(w:World)(q:MH)(z:MS)(h:IsM w q z)(x n k:Nat)(hE:x+n≤z.l.length)(hm:∀i,i<n→mayL z.ks ((x+i:Nat):Int) 1 k=true):Calls prog 161 #[q,x,n,k] w (zR true fun w'=>IsM w' q z∧Fr [q.pw] w w'):=by
 have hn:=h.none;have hlen:=zc6 w q.pa q.ga q.cap z.l h.ar
 have HL:=hid (fun W hM (i:Nat) (hi:i<n)=>by
  have:=zes W q z hM ((x+i:Nat):Int) 1 k;have e:z.look ((x+i:Nat):Int) 1 k=z:=by unfold MS.look;rw[hm i hi,if_pos rfl]
  rw[hm i hi,e]at this;exact this)
 have c0:=h.st.cell 0;have c1:=h.st.cell 1;simp at c0 c1;have hmax:=h.ar.byt
 have hsz:z.l.length≤1099511627776:=by
  have:=h.size;obtain⟨_,_,a3,a4,a5⟩:=h.cfg;unfold zdw zdv at this;omega
 generalize z.l.length=m at*;have b1:=dF ((n:Int)<0);have b2:=dF ((x:Int)<0);have b3':=dF (m<x);have b4:=dF ((m:Int)-x<n);have w1:=i6 ((m:Int)-x);clear hmax;go_in;go_wp2_with fail;go_call hn as e w' ⟨rfl,rfl⟩;go_wp2_with fail;go_call hlen as e w' ⟨rfl,rfl⟩;go_wp2_with fail;go_call hlen as e w' ⟨rfl,rfl⟩;go_wp2;clear c0 c1 hn hlen;go_loopw [49] (fun v W=>∃j:Nat,j≤n∧v= .int .i64 j∧IsM W q z∧Fr [q.pw] w' W) (fun v _=>n-(intOf v).toNat);case atStart=>exact⟨0,by omega,rfl,h,Fr.refl _ _⟩
 case round=>
  obtain⟨j,hj,rfl,hI,hF⟩:=hrel;have c0:=hI.st.cell 0;simp at c0;by_cases e:j<n
  ·have hw:=HL.out _ hI j e
   rw[show((x+j:Nat):Int)=(x:Int)+j from Int.natCast_add x j]at hw;have b5':=dT (j<n);have w2:=i6 ((x:Int)+j);have w3:=i6 ((j:Int)+1);go_wp2_with fail;go_call hw as e w2 ⟨rfl,h2,f2⟩;have F2:=hF.trans f2;clear f2 hw c0;go_wp2;exact⟨⟨j+1,by omega,by go_num,h2,F2⟩,by simp[intOf];omega⟩
  ·obtain rfl:j=n:=by omega
   go_wp2;go_ret;exact⟨rfl,hI,hF⟩
theorem zfw(w:World)(q:MH)(z:MS)(h:IsM w q z)(x n k:Nat)(hE:x+n≤z.l.length)(hm:∀i,i<n→mayL z.ks ((x+i:Nat):Int) 1 k=true):Calls prog 76 #[q,x,n,k] w (zR true fun w'=>IsM w' q {z with l:=spl z.l x (List.replicate n 0)}∧Fr [q.pw,q.ga] w w'):=by
 have hr:=zfv w q z h x n k hE hm;have HZ:=hid (fun W (hM:IsM W q z)=>zdj W q.pa q.ga q.cap z.l hM.ar x n hE);have hl2:(spl z.l x (List.replicate n 0)).length=z.l.length:=zda _ _ _ (by rw[List.length_replicate];exact hE)
 have HIS:=(show∀W W',IsM W q z→Fr [q.ga] W W'→IsA W' q.pa q.ga q.cap (spl z.l x (List.replicate n 0))→IsM W' q {z with l:=spl z.l x (List.replicate n 0)}from fun W W' hM hf hA=>by
  obtain⟨lk,hw⟩:=hM.wt;obtain⟨_,_,_,n4,_,_,n7,_,n9,_⟩:=hM.nes;exact⟨hM.st.fr hf (by simp;omega),⟨lk,hw.fr hf (by simp;omega) (by simp;omega)⟩,hA,hM.ne,hM.cfg,hl2.trans hM.size,hl2.trans hM.grains⟩)
 generalize spl z.l x (List.replicate n 0)=l' at*;clear h;go_in;go_wp2_with fail;go_call hr as e w1 ⟨rfl,h1,f1⟩;have c1:=h1.st.cell 1;simp at c1;clear hr;go_wp2_with fail;go_call HZ.out _ h1 as e w2 ⟨rfl,h2,f2⟩;have H2:=HIS _ _ h1 f2 h2;have F2:=(f1.mono (S':= [q.pw,q.ga]) (fun k hk=> .inl (by simp at hk;simp[hk]))).trans (f2.mono (S':= [q.pw,q.ga]) (fun k hk=> .inl (by simp at hk;simp[hk])));clear h2 f1 f2;go_wp2;go_ret;exact⟨rfl,H2,F2⟩
structure TM where
 a:Nat
 s:Nat
 rt:Nat→Nat
 hd:Nat→Nat→Nat
 sl:Nat→Nat
 bt:Nat→Nat
 kd:Nat→Nat
 ft:Int
def hdA(p:Nat):Nat:=if p=0 then 0 else if p=1 then 2 else if p=2 then 4 else if p=3 then 8 else 12
def hdW(p:Nat):Nat:=if p<2 then 2 else 4
def pOf(r:Nat):Nat:=if r<2 then 0 else if r<4 then 1 else if r<8 then 2 else if r<12 then 3 else 4
def fOf(i:Nat):Nat:=if i<72 then(i-8)/4 else if i<80 then 16 else 17+(i-80)/4
def nb(v j:Nat):Nat:=v/256^j %256
def zfx(rt:Nat→Nat)(i:Nat):Nat:=if i<8∨96≤i then 0 else nb (rt (fOf i)) (i-fldA (fOf i))
def zfy(hd:Nat→Nat→Nat)(o:Nat):Nat:=nb (hd (o/16) (pOf (o %16))) (o %16-hdA (pOf (o %16)))
def zfz(t:TM)(i:Nat):Nat:=
 if i<128 then zfx t.rt i else if i<zdu t.a then zfy t.hd (i-128)else if i<zdu t.a+4*t.s then nb (t.sl ((i-zdu t.a)/4)) ((i-zdu t.a) %4)
 else if i<zdv t.a t.s then 0 else t.bt (i-zdv t.a t.s)
def zf0(t:TM)(g:Nat):Nat:=
 if g<2 then 1 else if g<32 then 2 else if 4*g<zdu t.a then 3 else if 4*g<zdu t.a+4*t.s then 4 else if 4*g<zdv t.a t.s then 8 else t.kd (g-zdv t.a t.s/4)
def TM.bytes(t:TM):List Nat:=(List.range (zdw t.a t.s)).map (zfz t)
def TM.kinds(t:TM):List Nat:=(List.range (zdw t.a t.s/4)).map (zf0 t)
def TM.ms(t:TM):MS:={a:=t.a,s:=t.s,ks:=t.kinds,l:=t.bytes,ft:=t.ft}
structure TM.Ok(t:TM):Prop where
 cfg:Cfg t.a t.s
 rt: ∀f,t.rt f<256^fldW f
 hd: ∀i p,t.hd i p<256^hdW p
 sl: ∀i,t.sl i<256^4
 bt: ∀i,t.bt i<256
 kd: ∀g,t.kd g≤8
theorem TM.bytes_len(t:TM):t.bytes.length=zdw t.a t.s:=by simp[TM.bytes]
theorem TM.kinds_len(t:TM):t.kinds.length=zdw t.a t.s/4:=by simp[TM.kinds]
theorem TM.bytes_get(t:TM)(i:Nat)(h:i<zdw t.a t.s):t.bytes[i]?.getD 0=zfz t i:=by simp[TM.bytes,h]
theorem TM.kinds_get(t:TM)(i:Nat)(h:i<zdw t.a t.s/4):t.kinds[i]?.getD 0=zf0 t i:=by simp[TM.kinds,h]
def up{α:Type}(f:Nat→α)(i:Nat)(v:α):Nat→α:=fun j=>if j=i then v else f j
theorem zf1{α:Type}(f:Nat→α)(i:Nat)(v:α):up f i v i=v:=if_pos rfl
theorem zf2{α:Type}(f:Nat→α){i j:Nat}(v:α)(h:j≠i):up f i v j=f j:=if_neg h
def TM.setRt(t:TM)(f v:Nat):TM:={t with rt:=up t.rt f v}
def TM.setHd(t:TM)(i p v:Nat):TM:={t with hd:=up t.hd i (up (t.hd i) p v)}
def TM.setSl(t:TM)(i v:Nat):TM:={t with sl:=up t.sl i v}
theorem TM.setRt_rt(t:TM)(f v g:Nat):(t.setRt f v).rt g=if g=f then v else t.rt g:=rfl
theorem TM.setHd_hd(t:TM)(i p v j r:Nat):(t.setHd i p v).hd j r=if j=i∧r=p then v else t.hd j r:=by
 show up t.hd i (up (t.hd i) p v) j r=_;by_cases h:j=i
 ·subst h
  rw[zf1];by_cases h2:r=p
  ·rw[h2,zf1,if_pos ⟨rfl,rfl⟩]
  ·rw[zf2 _ _ h2,if_neg (fun h=>h2 h.2)]
 ·rw[zf2 _ _ h,if_neg (fun h'=>h h'.1)]
theorem zf3(w:World)(v:Value)(t:TypeId):(w.alloc (.cells #[v] t)).cell? ⟨w.heap.size,0,none⟩=some v:=(Blk.new w t #[v]).cell 0
theorem zf4(ks:List Nat)(x k kind:Nat)(hk:k=1∨k=2∨k=4∨k=8)(hx:x %k=0)(h0:kind≠0)(hl:x+k≤4*ks.length)
  (hg:∀g,x/4≤g→g<(x+k+3)/4→ks[g]?.getD 0=kind):mayL ks x k kind=true:=by
 unfold mayL;rw[decide_eq_true_eq];refine⟨by omega,by omega,by omega,?_⟩;unfold zck
 rw[if_neg (by
  rintro(h|h)
  ·omega
  ·simp[zb5]at h;omega)]
 have e1:((x:Int)/4).toNat=x/4:=by omega
 have e2:(((x:Int)+k+3)/4).toNat=(x+k+3)/4:=by omega
 rw[e1,e2];unfold zcj;rw[zch _ _ _ (fun y hy=>by rw[hg _ (by omega) (by omega),hg _ (by omega) (by omega)]),if_pos rfl,hg _ (by omega) (by omega)]
theorem zf5(n x k:Nat)(hk:k=1∨k=2∨k=4∨k=8)(hx:x %k=0)(hl:x+k≤n):za6 n x k=0:=by
 unfold za6;rw[if_neg (by simp[widB];omega),if_neg (by omega),if_neg (by omega)]
theorem zf6(l:List Nat)(x k v:Nat)(hk:k=1∨k=2∨k=4∨k=8)(hx:x %k=0)(hl:x+k≤l.length)(hv:v<256^k)(hb:∀j,j<k→l[x+j]?.getD 0=nb v j):ldV l x k=v:=by
 unfold ldV;rw[zf5 _ _ _ hk hx hl,if_pos rfl,Int.toNat_natCast,Int.toNat_natCast,zau l x v k hb,Nat.mod_eq_of_lt hv]
theorem zf7(l:List Nat)(x k v:Nat)(hk:k=1∨k=2∨k=4∨k=8)(hx:x %k=0)(hl:x+k≤l.length)(hv:v<256^k):putE l x k v=0:=by
 unfold putE
 have:zct v k=true:=by
  simp[zct,widB];exact⟨by omega,hv⟩
 rw[this,if_neg (by simp),zf5 _ _ _ hk hx hl]
theorem zf8(l m:List Nat)(x k v:Nat)(hk:k=1∨k=2∨k=4∨k=8)(hx:x %k=0)(hl:x+k≤l.length)(hv:v<256^k)(hm:m.length=l.length)
  (hb:∀i,i<l.length→m[i]?.getD 0=if x≤i∧i<x+k then nb v (i-x)else l[i]?.getD 0):putL l x k v=m:=by
 unfold putL;rw[zf7 l x k v hk hx hl hv,if_pos rfl,Int.toNat_natCast,Int.toNat_natCast];apply List.ext_getElem?;intro i;rcases Nat.lt_or_ge i l.length with h|h
 ·have e1:=zar l x v k hl i
  have e2:=hb i h;have:(zap l x v k)[i]?.getD 0=m[i]?.getD 0:=by rw[e1,e2];rfl
  have h1:i<(zap l x v k).length:=by rw[zaq];exact h
  have h2:i<m.length:=by rw[hm];exact h
  rw[List.getElem?_eq_getElem h1,List.getElem?_eq_getElem h2]at this⊢;simpa using this
 ·rw[List.getElem?_eq_none (by rw[zaq];exact h),List.getElem?_eq_none (by rw[hm];exact h)]
structure At(t:TM)(x k kind v:Nat):Prop where
 wid:k=1∨k=2∨k=4∨k=8
 div:x %k=0
 k0:kind≠0
 fit:x+k≤zdw t.a t.s
 lt:v<256^k
 kinds: ∀g,x/4≤g→g<(x+k+3)/4→zf0 t g=kind
 bytes: ∀j,j<k→zfz t (x+j)=nb v j
theorem zf9(a s:Nat):zdw a s %4=0∧zdw a s %16=0:=by unfold zdw zdv;omega
theorem At.may{t:TM}{x k kind v:Nat}(h:At t x k kind v):mayL t.ms.ks x k kind=true:=by
 have h4:=zf9 t.a t.s;have hf:=h.fit;refine zf4 _ _ _ _ h.wid h.div h.k0 (by show _≤4*t.kinds.length;rw[TM.kinds_len];omega) (fun g h1 h2=> ?_);have:g<zdw t.a t.s/4:=by rcases h.wid with e|e|e|e<;>omega
 exact(TM.kinds_get t g this).trans (h.kinds g h1 h2)
theorem At.ld{t:TM}{x k kind v:Nat}(h:At t x k kind v):t.ms.ld x k kind=v:=by
 unfold MS.ld;rw[h.may,if_pos rfl];refine zf6 _ _ _ _ h.wid h.div (by show _≤t.bytes.length;rw[TM.bytes_len];exact h.fit) h.lt (fun j hj=> ?_);exact(TM.bytes_get t _ (by have:=h.fit;omega)).trans (h.bytes j hj)
theorem At.look{t:TM}{x k kind v:Nat}(h:At t x k kind v):t.ms.look x k kind=t.ms:=by
 unfold MS.look;rw[h.may,if_pos rfl]
theorem At.stB{t:TM}{x k kind v:Nat}(h:At t x k kind v){v':Nat}(hv:v'<256^k):t.ms.stB x k kind v'=true:=by
 unfold MS.stB;rw[h.may,zf7 _ _ _ _ h.wid h.div (by show _≤t.bytes.length;rw[TM.bytes_len];exact h.fit) hv];rfl
theorem At.sto{t t':TM}{x k kind v:Nat}(h:At t x k kind v){v':Nat}(hv:v'<256^k)(ea:t'.a=t.a)(es:t'.s=t.s)(ek:t'.kinds=t.kinds)(ef:t'.ft=t.ft)
  (hb:∀i,zfz t' i=if x≤i∧i<x+k then nb v' (i-x)else zfz t i):t.ms.sto x k kind v'=t'.ms:=by
 unfold MS.sto;rw[h.may,if_pos rfl,if_pos rfl]
 have hl:putL t.ms.l x k v'=t'.bytes:=by
  refine zf8 _ _ _ _ _ h.wid h.div (by show _≤t.bytes.length;rw[TM.bytes_len];exact h.fit) hv (by show t'.bytes.length=t.bytes.length;rw[TM.bytes_len,TM.bytes_len,ea,es]) (fun i hi=> ?_);have hi':i<zdw t.a t.s:=by rw[←TM.bytes_len];exact hi
  rw[TM.bytes_get t' i (by rw[ea,es];exact hi'),hb i];have e:t.ms.l[i]?.getD 0=zfz t i:=TM.bytes_get t i hi';rw[e]
 rw[hl];unfold TM.ms;rw[ea,es,ek,ef]
theorem zga(f:Nat)(h:f<21):fldA f=(if f<16 then 8+4*f else if f=16 then 72 else 80+4*(f-17)):=by
 revert f;decide
theorem zgb(f:Nat):fldW f=4∨fldW f=8:=by unfold fldW;split<;>simp
theorem zgc(f j:Nat)(h:f<21)(hj:j<fldW f):fOf (fldA f+j)=f∧8≤fldA f+j∧fldA f+j<96:=by
 rw[zga f h];unfold fldW at hj;unfold fOf;split at hj<;>(repeat' split)<;>omega
theorem zgd(f i:Nat)(h:f<21)(h1:8≤i)(h2:i<96)(hn:¬(fldA f≤i∧i<fldA f+fldW f)):fOf i≠f:=by
 rw[zga f h]at hn;unfold fldW at hn;unfold fOf;intro e;split at e<;>(try split at e)<;>(repeat' split at hn)<;>omega
theorem zge{a s:Nat}(h:Cfg a s):zdu a=128+16*a∧240≤zdu a∧zdu a+4*s≤zdv a s∧zdv a s<zdw a s∧zdv a s %16=0∧zdw a s=zdv a s+1024*a∧zdu a %16=0:=by
 obtain⟨a1,a2,s1,_,s3⟩:=h;unfold zdw zdv zdu;omega
theorem zgf{t:TM}(h:t.Ok)(f:Nat)(hf:f<21):At t (fldA f) (fldW f) 2 (t.rt f):=by
 have e:=zga f hf;have hw:fldW f=if f=16 then 8 else 4:=rfl;have hz:=zge h.cfg;refine⟨by rcases zgb f with e|e<;>omega,by rw[e,hw];split<;>(try split)<;>omega,by decide,?_,h.rt f,fun g h1 h2=> ?_,fun j hj=> ?_⟩
 ·rw[e,hw];split<;>(try split)<;>omega
 ·have:2≤g∧g<32:=by rw[e]at h1 h2;rw[hw]at h2;(repeat' split at h2)<;>(repeat' split at h1)<;>omega
  unfold zf0;rw[if_neg (by omega),if_pos (by omega)]
 ·obtain⟨h1,h2,h3⟩:=zgc f j hf hj
  unfold zfz zfx;rw[if_pos (by omega),if_neg (by omega),h1];congr 1;omega
theorem zgg{t:TM}(h:t.Ok)(f v:Nat)(hf:f<21)(i:Nat):zfz (t.setRt f v) i=if fldA f≤i∧i<fldA f+fldW f then nb v (i-fldA f)else zfz t i:=by
 by_cases hi:fldA f≤i∧i<fldA f+fldW f
 ·obtain⟨h1,h2,h3⟩:=zgc f (i-fldA f) hf (by omega)
  have e:fldA f+(i-fldA f)=i:=by omega
  rw[e]at h1 h2 h3;rw[if_pos hi];unfold zfz zfx;rw[if_pos (by omega),if_neg (by omega),h1];show nb (up t.rt f v f) _=_;rw[zf1]
 ·rw[if_neg hi]
  unfold zfz zfx;by_cases h1:i<128
  ·rw[if_pos h1,if_pos h1]
   by_cases h2:i<8∨96≤i
   ·rw[if_pos h2,if_pos h2]
   ·rw[if_neg h2,if_neg h2]
    show nb (up t.rt f v (fOf i)) _=_;rw[zf2 _ _ (zgd f i hf (by omega) (by omega) hi)]
  ·rw[if_neg h1,if_neg h1]
   rfl
theorem zgh{t:TM}(h:t.Ok)(f v:Nat)(hv:v<256^fldW f):(t.setRt f v).Ok:=
 ⟨h.cfg,fun g=>by
  show up t.rt f v g<_;unfold up;split
  ·next e=>rw[e];exact hv
  ·exact h.rt g,h.hd,h.sl,h.bt,h.kd⟩
theorem zgi{t:TM}(h:t.Ok)(f v:Nat)(hf:f<21)(hv:v<256^fldW f):t.ms.sto (fldA f) (fldW f) 2 v=(t.setRt f v).ms:=
 (zgf h f hf).sto hv rfl rfl rfl rfl (zgg h f v hf)
theorem zgj(p:Nat)(h:p<5):hdA p+hdW p≤16∧(hdW p=2∨hdW p=4)∧hdA p %hdW p=0:=by
 revert p;decide
theorem zgk(p j:Nat)(h:p<5)(hj:j<hdW p):pOf (hdA p+j)=p:=by
 have:∀p,p<5→∀j,j<4→j<hdW p→pOf (hdA p+j)=p:=by decide
 exact this p h j (by have:=(zgj p h).2.1;omega) hj
theorem zgl(p r:Nat)(h:p<5)(hr:r<16)(hn:¬(hdA p≤r∧r<hdA p+hdW p)):pOf r≠p:=by
 have:∀p,p<5→∀r,r<16→¬(hdA p≤r∧r<hdA p+hdW p)→pOf r≠p:=by decide
 exact this p h r hr hn
def hdAt(i:Nat):Nat:=128+16*i
theorem zgm{t:TM}(h:t.Ok)(i p:Nat)(hi:i<t.a)(hp:p<5):At t (hdAt i+hdA p) (hdW p) 3 (t.hd i p):=by
 have hz:=zge h.cfg;have hl:=zgj p hp;unfold hdAt;refine⟨by omega,by rcases hl.2.1 with e|e<;>rw[e]at hl⊢<;>omega,by decide,by omega,h.hd i p,fun g h1 h2=> ?_,fun j hj=> ?_⟩
 ·unfold zf0
  rw[if_neg (by omega),if_neg (by omega),if_pos (by rcases hl.2.1 with e|e<;>rw[e]at hl h2<;>omega)]
 ·have e:=zgk p j hp hj
  unfold zfz zfy;rw[if_neg (by omega),if_pos (by omega)];have e1:(128+16*i+hdA p+j-128)/16=i:=by omega
  have e2:(128+16*i+hdA p+j-128) %16=hdA p+j:=by omega
  rw[e1,e2,e,Nat.add_sub_cancel_left]
theorem zgn{t:TM}(h:t.Ok)(i p v:Nat)(hi:i<t.a)(hp:p<5)(x:Nat):zfz (t.setHd i p v) x=if hdAt i+hdA p≤x∧x<hdAt i+hdA p+hdW p then nb v (x-(hdAt i+hdA p))else zfz t x:=by
 have hz:=zge h.cfg;have hl:=zgj p hp;by_cases hx:hdAt i+hdA p≤x∧x<hdAt i+hdA p+hdW p
 ·rw[if_pos hx]
  unfold hdAt at*;have e:=zgk p (x-(128+16*i+hdA p)) hp (by omega);unfold zfz zfy;rw[if_neg (by omega),if_pos (by show x<zdu t.a;omega)];have e1:(x-128)/16=i:=by omega
  have e2:(x-128) %16=hdA p+(x-(128+16*i+hdA p)):=by omega
  rw[e1,e2,e];show nb (up t.hd i (up (t.hd i) p v) i p) _=_;rw[zf1,zf1,Nat.add_sub_cancel_left]
 ·rw[if_neg hx]
  unfold zfz;by_cases h1:x<128
  ·rw[if_pos h1,if_pos h1];rfl
  ·rw[if_neg h1,if_neg h1]
   by_cases h2:x<zdu t.a
   ·rw[if_pos h2,if_pos (show x<zdu (t.setHd i p v).a from h2)]
    unfold zfy;show nb (up t.hd i (up (t.hd i) p v) ((x-128)/16) _) _=_;by_cases h3:(x-128)/16=i
    ·rw[h3,zf1]
     unfold hdAt at hx;rw[zf2 _ _ (zgl p _ hp (by omega) (by omega))]
    ·rw[zf2 _ _ h3]
   ·rw[if_neg h2,if_neg (show¬x<zdu (t.setHd i p v).a from h2)]
    rfl
theorem zgo{t:TM}(h:t.Ok)(i p v:Nat)(hv:v<256^hdW p):(t.setHd i p v).Ok:=
 ⟨h.cfg,h.rt,fun j r=>by
  show up t.hd i (up (t.hd i) p v) j r<_;by_cases e:j=i
  ·rw[e,zf1]
   by_cases e2:r=p
   ·rw[e2,zf1];exact hv
   ·rw[zf2 _ _ e2];exact h.hd i r
  ·rw[zf2 _ _ e];exact h.hd j r,h.sl,h.bt,h.kd⟩
theorem zgp{t:TM}(h:t.Ok)(i p v:Nat)(hi:i<t.a)(hp:p<5)(hv:v<256^hdW p):t.ms.sto (hdAt i+hdA p:Nat) (hdW p) 3 v=(t.setHd i p v).ms:=
 (zgm h i p hi hp).sto hv rfl rfl rfl rfl (zgn h i p v hi hp)
def slAt(t:TM)(i:Nat):Nat:=zdu t.a+4*i
theorem zgq{t:TM}(h:t.Ok)(i:Nat)(hi:i<t.s):At t (slAt t i) 4 4 (t.sl i):=by
 have hz:=zge h.cfg;unfold slAt;refine⟨by omega,by omega,by decide,by omega,h.sl i,fun g h1 h2=> ?_,fun j hj=> ?_⟩
 ·unfold zf0
  rw[if_neg (by omega),if_neg (by omega),if_neg (by omega),if_pos (by omega)]
 ·unfold zfz
  rw[if_neg (by omega),if_neg (by omega),if_pos (by omega)];have e1:(zdu t.a+4*i+j-zdu t.a)/4=i:=by omega
  have e2:(zdu t.a+4*i+j-zdu t.a) %4=j:=by omega
  rw[e1,e2]
theorem zgr{t:TM}(h:t.Ok)(i v:Nat)(hi:i<t.s)(x:Nat):zfz (t.setSl i v) x=if slAt t i≤x∧x<slAt t i+4 then nb v (x-slAt t i)else zfz t x:=by
 have hz:=zge h.cfg;by_cases hx:slAt t i≤x∧x<slAt t i+4
 ·rw[if_pos hx]
  unfold slAt at*;unfold zfz;rw[if_neg (by omega),if_neg (show¬x<zdu (t.setSl i v).a by show¬x<zdu t.a;omega),if_pos (show x<zdu (t.setSl i v).a+4*(t.setSl i v).s by show x<zdu t.a+4*t.s;omega)];have e1:(x-zdu t.a)/4=i:=by omega
  have e2:(x-zdu t.a) %4=x-(zdu t.a+4*i):=by omega
  show nb (up t.sl i v ((x-zdu t.a)/4)) ((x-zdu t.a) %4)=_;rw[e1,e2,zf1]
 ·rw[if_neg hx]
  unfold zfz;by_cases h1:x<128
  ·rw[if_pos h1,if_pos h1];rfl
  ·rw[if_neg h1,if_neg h1]
   by_cases h2:x<zdu t.a
   ·rw[if_pos h2,if_pos (show x<zdu (t.setSl i v).a from h2)];rfl
   ·rw[if_neg h2,if_neg (show¬x<zdu (t.setSl i v).a from h2)]
    by_cases h3:x<zdu t.a+4*t.s
    ·rw[if_pos h3,if_pos (show x<zdu (t.setSl i v).a+4*(t.setSl i v).s from h3)]
     unfold slAt at hx;show nb (up t.sl i v ((x-zdu t.a)/4)) ((x-zdu t.a) %4)=_;rw[zf2 _ _ (by omega)]
    ·rw[if_neg h3,if_neg (show¬x<zdu (t.setSl i v).a+4*(t.setSl i v).s from h3)]
     rfl
theorem zgs{t:TM}(h:t.Ok)(i v:Nat)(hv:v<256^4):(t.setSl i v).Ok:=
 ⟨h.cfg,h.rt,h.hd,fun j=>by
  show up t.sl i v j<_;unfold up;split
  ·exact hv
  ·exact h.sl j,h.bt,h.kd⟩
theorem zgt{t:TM}(h:t.Ok)(i v:Nat)(hi:i<t.s)(hv:v<256^4):t.ms.sto (slAt t i) 4 4 v=(t.setSl i v).ms:=
 (zgq h i hi).sto hv rfl rfl rfl rfl (zgr h i v hi)
structure IsT(w:World)(q:MH)(t:TM):Prop where
 ok:t.Ok
 m:IsM w q t.ms
 tab:TabM w
 hi: ∀k∈q.blocks,3≤k
section
variable{w w':World}{q:MH}{t:TM}
theorem IsT.fr{S:List Nat}(h:IsT w q t)(hf:Fr S w w')(hS:∀k∈q.blocks,k∉S)(hT:∀k,k<3→k∉S):IsT w' q t:=⟨h.ok,h.m.fr hf hS,⟨fun i=>(hf.cell (p:=⟨2,i,none⟩) (by have:=h.tab.size;simp;omega) (by simpa using hT _ (by decide))).trans (h.tab.cls i),fun i=>(hf.cell (p:=⟨0,i,none⟩) (by have:=h.tab.size;simp;omega) (by simpa using hT _ (by decide))).trans (h.tab.fld i),Nat.le_trans h.tab.size hf.size⟩,h.hi⟩
theorem IsT.fr0(h:IsT w q t)(hf:Fr [] w w'):IsT w' q t:=h.fr hf (by simp) (by simp)
theorem IsT.alloc(h:IsT w q t)(o:Obj):IsT (w.alloc o) q t:=h.fr0 ((Fr.refl [] w).alloc o)
theorem IsT.drew(h:IsT w q t):IsT w.drew q t:=h.fr0 (Fr.refl [] w).drew
theorem IsT.lt(h:IsT w q t):∀k∈q.blocks,k<w.heap.size:=h.m.lt
end
theorem Fr.pw{q:MH}{w w':World}(h:Fr [q.pw] w w'):Fr q.blocks w w':=h.mono (fun _ hm=>by simp at hm;simp[MH.blocks,hm])
theorem Fr.pwga{q:MH}{w w':World}(h:Fr [q.pw,q.ga] w w'):Fr q.blocks w w':=h.mono (fun _ hm=>by simp at hm;rcases hm with e|e<;>simp[MH.blocks,e])
theorem Fr.nil{S:List Nat}{w w':World}(h:Fr [] w w'):Fr S w w':=h.mono (fun _ hm=>by simp at hm)
theorem zgu{w:World}{q:MH}{t:TM}(h:IsT w q t){x k kind v:Nat}(ha:At t x k kind v):Calls prog 109 #[q,x,k,kind] w (zR (.int .u64 v) fun w'=>IsT w' q t∧Fr q.blocks w w'):=by
 refine(zet w q t.ms h.m x k kind).mono fun e w' ⟨he,hm,hf⟩=> ?_;rw[ha.ld]at he;rw[ha.look]at hm;exact⟨he,⟨h.ok,hm,h.tab.fr hf.pw h.hi,h.hi⟩,hf.pw⟩
theorem zgv{w:World}{q:MH}{t t':TM}(h:IsT w q t){x k kind v v':Nat}(ha:At t x k kind v)(hv:v'<256^k)(hok:t'.Ok)(hs:t.ms.sto x k kind v'=t'.ms):Calls prog 165 #[q,x,k,kind,.int .u64 v'] w (zR true fun w'=>IsT w' q t'∧Fr q.blocks w w'):=by
 have h64:v'<18446744073709551616:=by
  have:256^k≤256^8:=Nat.pow_le_pow_right (by decide) (by rcases ha.wid with e|e|e|e<;>omega);omega
 refine(zeu w q t.ms h.m x k kind v' h64).mono fun e w' ⟨he,hm,hf⟩=> ?_;rw[ha.stB hv]at he;rw[hs]at hm;exact⟨he,⟨hok,hm,h.tab.fr hf.pwga h.hi,h.hi⟩,hf.pwga⟩
theorem zgw{w:World}{q:MH}{t:TM}(h:IsT w q t)(f:Nat)(hf:f<21)(x:Int)(hx:x=f):Calls prog 50 #[q,x] w (zR (.int .u64 (t.rt f)) fun w'=>IsT w' q t∧Fr q.blocks w w'):=by
 have ha:=zgf h.ok f hf;subst hx;have hl:t.ms.ld (fldA f) (fldW f) 2=t.rt f:=ha.ld;have hk:t.ms.look (fldA f) (fldW f) 2=t.ms:=ha.look;refine(zey w h.tab q t.ms h.m f hf).mono fun e w' ⟨he,hm,hf⟩=> ?_;rw[hl]at he;rw[hk]at hm;exact⟨he,⟨h.ok,hm,h.tab.fr hf.pw h.hi,h.hi⟩,hf.pw⟩
theorem zgx{w:World}{q:MH}{t:TM}(h:IsT w q t)(f:Nat)(hf:f<21)(v:Nat)(hv:v<256^fldW f)(x:Int)(hx:x=f)(u:Int)(hu:u=v):Calls prog 80 #[q,x,.int .u64 u] w (zR true fun w'=>IsT w' q (t.setRt f v)∧Fr q.blocks w w'):=by
 have ha:=zgf h.ok f hf
 have h64:v<18446744073709551616:=by
  rcases zgb f with e|e
  ·rw[e]at hv;exact Nat.lt_trans hv (by decide)
  ·rw[e]at hv;exact hv
 subst hx hu;refine(zez w h.tab q t.ms h.m f hf v h64).mono fun e w' ⟨he,hm,hf'⟩=> ?_;have hb:t.ms.stB (fldA f) (fldW f) 2 v=true:=ha.stB hv;rw[hb]at he;rw[zgi h.ok f v hf hv]at hm;exact⟨he,⟨zgh h.ok f v hv,hm,h.tab.fr hf'.pwga h.hi,h.hi⟩,hf'.pwga⟩
theorem zgy{w:World}{q:MH}{t:TM}(h:IsT w q t):Calls prog 78 #[q] w (zN (cfgV t.a t.s) w):=ze0 w q t.ms h.m
theorem zgz{w:World}{q:MH}{t:TM}(h:IsT w q t):Calls prog 11 #[q] w (zN t.ft w):=ze1 w q t.ms h.m
def zT(a s:Nat):TM:={a:=a,s:=s,rt:=fun _=>0,hd:=fun _ _=>0,sl:=fun _=>0,bt:=fun _=>0,kd:=fun _=>7,ft:=0}
def newG(g a s:Nat):TM:=(((zT a s).setRt 0 g).setRt 1 a).setRt 2 s
def newT(a s:Nat):TM:=newG 1129270338 a s
theorem zg0{a s:Nat}(h:Cfg a s):(zT a s).Ok:=⟨h,fun f=>Nat.pow_pos (by decide),fun _ p=>Nat.pow_pos (by decide),fun _=>Nat.pow_pos (by decide),fun _=>Nat.zero_lt_succ 255,fun g=>by show 7≤8;decide⟩
theorem nb_0(j:Nat):nb 0 j=0:=by unfold nb;rw[Nat.zero_div]
theorem zg1(a s i:Nat):zfz (zT a s) i=0:=by
 unfold zfz zfx zfy;show(if _ then(if _ then 0 else nb 0 _)else if _ then nb 0 _ else if _ then nb 0 _ else if _ then 0 else 0)=0;simp only[nb_0,ite_self]
theorem zg2(a s:Nat):nl0 a s=(zT a s).bytes:=by
 unfold nl0 TM.bytes;apply List.ext_getElem
 ·simp;rfl
 ·intro i h1 h2
  simp[zg1]
theorem zg3{t:TM}(h:t.Ok)(f v:Nat)(hf:f<21)(hv:v<256^fldW f):putL t.bytes (fldA f) (fldW f) v=(t.setRt f v).bytes:=by
 have ha:=zgf h f hf;refine zf8 _ _ _ _ _ ha.wid ha.div (by rw[TM.bytes_len];exact ha.fit) hv (by rw[TM.bytes_len,TM.bytes_len];rfl) (fun i hi=> ?_);rw[TM.bytes_len]at hi;rw[TM.bytes_get _ _ hi,TM.bytes_get (t.setRt f v) i hi,zgg h f v hf i]
theorem zg4{g a s:Nat}(hg:g<4294967296)(h:Cfg a s):(newG g a s).Ok:=by
 have h2:=h.a2;have h3:=h.s3;have k1:=zgh (zg0 h) 0 g hg;have k2:=zgh k1 1 a (show a<4294967296 by omega);exact zgh k2 2 s (show s<4294967296 by omega)
theorem zg5{g a s:Nat}(hg:g<4294967296)(h:Cfg a s):nl3 g a s=(newG g a s).bytes:=by
 have h2:=h.a2;have h3:=h.s3;have k1:=zgh (zg0 h) 0 g hg;have k2:=zgh k1 1 a (show a<4294967296 by omega);have e1:nl1 g a s=((zT a s).setRt 0 g).bytes:=by unfold nl1;rw[zg2];exact zg3 (zg0 h) 0 g (by decide) hg
 have e2:nl2 g a s=(((zT a s).setRt 0 g).setRt 1 a).bytes:=by unfold nl2;rw[e1];exact zg3 k1 1 a (by decide) (show a<4294967296 by omega)
 unfold nl3 newG;rw[e2];exact zg3 k2 2 s (by decide) (show s<4294967296 by omega)
def mk1(x v:Nat)(r:Rn):Nat:=if r.1/4≤x∧x<(r.1+r.2.1)/4 then r.2.2 else v
theorem zg6(x:Nat):∀(l:List Rn) (ks:List Nat),x<ks.length→(l.foldl ze5 ks)[x]?.getD 0=l.foldl (mk1 x) (ks[x]?.getD 0)
 | [],ks,h=>rfl
 |r::l,ks,h=>by
  rw[List.foldl_cons,List.foldl_cons,zg6 x l _ (by rw[ze6];exact h)];congr 1;unfold ze5 mk1;rw[zcd _ _ _ _ _ h];rfl
theorem zg7(x v:Nat)(l:List Rn)(e k m:Nat)(hm:zd6 l=m)(hme:m≤e)(h4:m %4=0)(h5:e %4=0):(zd7 l e k).foldl (mk1 x) v=if m/4≤x∧x<e/4 then k else l.foldl (mk1 x) v:=by
 unfold zd7;rw[hm];split
 ·rw[List.foldl_append]
  show mk1 x _ _=_;unfold mk1;simp only;have:m+(e-m)=e:=by omega
  rw[this]
 ·rw[if_neg (by omega)]
theorem zg8{a s:Nat}(h:Cfg a s)(x:Nat)(hx:x<zdw a s/4):(newK a s)[x]?.getD 0=zf0 (zT a s) x:=by
 obtain⟨e1,e2,e3,e4,e5,e6⟩:=zem a s h;have hz:=zge h;unfold newK;rw[zg6 x _ _ (by simpa using hx)];unfold zej;rw[zg7 _ _ _ _ _ _ e5 (by omega) (by omega) (by omega)];unfold l5;rw[zg7 _ _ _ _ _ _ e4 (by omega) (by omega) (by omega)];unfold l4;rw[zg7 _ _ _ _ _ _ e3 (by omega) (by omega) (by omega)];unfold l3;rw[zg7 _ _ _ _ _ _ e2 (by omega) (by omega) (by omega)];unfold l2;rw[zg7 _ _ _ _ _ _ e1 (by omega) (by omega) (by omega)];unfold l1;rw[zg7 _ _ _ _ _ 0 rfl (by omega) (by omega) (by omega)];unfold zf0;show _=if x<2 then 1 else if x<32 then 2 else if 4*x<zdu a then 3 else if 4*x<zdu a+4*s then 4 else if 4*x<zdv a s then 8 else 7;have zz:([] :List Rn).foldl (mk1 x) ((List.replicate (zdw a s/4) 0)[x]?.getD 0)=0:=by show(List.replicate (zdw a s/4) 0)[x]?.getD 0=0;rw[List.getElem?_replicate,if_pos hx];rfl
 rw[zz];by_cases c1:x<2
 ·rw[if_pos c1,if_neg (by omega),if_neg (by omega),if_neg (by omega),if_neg (by omega),if_neg (by omega),if_pos (by omega)]
 rw[if_neg c1];by_cases c2:x<32
 ·rw[if_pos c2,if_neg (by omega),if_neg (by omega),if_neg (by omega),if_neg (by omega),if_pos (by omega)]
 rw[if_neg c2];by_cases c3:4*x<zdu a
 ·rw[if_pos c3,if_neg (by omega),if_neg (by omega),if_neg (by omega),if_pos (by omega)]
 rw[if_neg c3];by_cases c4:4*x<zdu a+4*s
 ·rw[if_pos c4,if_neg (by omega),if_neg (by omega),if_pos (by omega)]
 rw[if_neg c4];by_cases c5:4*x<zdv a s
 ·rw[if_pos c5,if_neg (by omega),if_pos (by omega)]
 rw[if_neg c5,if_pos (by omega)]
theorem zg9{a s:Nat}(h:Cfg a s):newK a s=(zT a s).kinds:=by
 apply List.ext_getElem?;intro x;rcases Nat.lt_or_ge x (zdw a s/4)with hx|hx
 ·have e:=(zg8 h x hx).trans (TM.kinds_get (zT a s) x hx).symm
  have h1:x<(newK a s).length:=by rw[ze8];exact hx
  have h2:x<(zT a s).kinds.length:=by rw[TM.kinds_len];exact hx
  rw[List.getElem?_eq_getElem h1,List.getElem?_eq_getElem h2]at e⊢;simpa using e
 ·rw[List.getElem?_eq_none (by rw[ze8];exact hx),List.getElem?_eq_none (by rw[TM.kinds_len];exact hx)]
theorem zha{a s:Nat}(h:Cfg a s):newM a s=(newT a s).ms:=by
 have e:∀g,g<4294967296→nlk g a s 3=(newG g a s).bytes:=fun g hg=>by rw[zfg,zg5 hg h]
 have k:newL a s=(newG 1129270338 a s).bytes:=by
  unfold newL zfk;exact e _ (by decide)
 unfold newM newT;rw[k,zg9 h];generalize(1129270338:Nat)=g;rfl
theorem zhb{a s:Nat}(h:Cfg a s):(newT a s).Ok:=zg4 (by decide) h
def NewT(w:World)(a s:Nat)(e:Ending)(w':World):Prop:=
 ∃q:MH,e= .returned q∧IsT w' q (newT a s)∧(∀k∈q.blocks,w.heap.size≤k)∧Fr [] w w'
theorem tnew(w:World)(hM:TabM w)(a s:Nat)(h:Cfg a s):Calls prog 20 #[cfgV a s] w (NewT w a s):=by
 refine(zfu w hM a s h).mono fun e w' ⟨q,he,hm,hq,hf⟩=>⟨q,he,⟨zhb h,?_,hM.fr hf (by simp),fun k hk=>Nat.le_trans hM.size (hq k hk)⟩,hq,hf⟩;rw[←zha h];exact hm
theorem zhc(a s:Int)(w:World):(Instr.field 62 (.agg #[a,s]) 0).run prog w= .ok (.int .i64 a) w:=by kernel_rfl
theorem zhd{t:TM}(h:t.Ok):t.a≤64∧7≤t.a:=⟨h.cfg.a2,h.cfg.a1⟩
theorem zhe(w:World)(hM:TabM w)(a s:Nat)(hc:Cfg a s)(i n x k:Nat)(hi:i<n)(hb:x+i*k≤1099511627776∧i*k≤1099511627776):Calls prog 163 #[cfgV a s,i,n,x,k] w (zN ((x:Int)+(i:Int)*k:) w):=by
 have hr:=fun W h=>zdt W h a s hc;have b1:=dF ((i:Int)<0);have b2':=dF (n≤i);obtain⟨hb1,hb2⟩:=hb
 have w1:IntKind.i64.wrap ((i:Int)*k)=(i:Int)*k:=i64_in _ (by
  have:((i*k:Nat):Int)=(i:Int)*k:=Int.natCast_mul i k;omega)
 have w2:IntKind.i64.wrap ((x:Int)+(i:Int)*k)=(x:Int)+(i:Int)*k:=i64_in _ (by
  have:((i*k:Nat):Int)=(i:Int)*k:=Int.natCast_mul i k;omega)
 have hr':∀W,TabM W→Calls prog 69 #[.agg #[a,s]] W (zN true W):=hr;unfold cfgV;clear hc hb1 hb2 hr;go_in;go_wp2_with fail;go_call hr' _ (hM.fr ((Fr.refl [] w).alloc _) (by simp)) as e w1 ⟨rfl,f1⟩;have F1:=((Fr.refl [] w).alloc (.cells #[a,s] 62)).trans f1;clear f1 hr';go_wp2;go_ret;exact⟨rfl,F1⟩
theorem zhf(w:World)(hM:TabM w)(a s:Nat)(hc:Cfg a s)(i:Nat)(hi:i<a):Calls prog 275 #[cfgV a s,i] w (zN (hdAt i) w):=by
 have h2:=hc.a2
 have hl:∀W,TabM W→Calls prog 163 #[.agg #[a,s],i,a,(128:Int),(16:Int)] W (zN (hdAt i) W):=fun W h=>by
  have:=zhe W h a s hc i a 128 16 hi (by omega);refine this.mono fun e w' ⟨he,hf⟩=>⟨?_,hf⟩;rw[he];unfold hdAt;rw[show((128+16*i:Nat):Int)=((128:Nat):Int)+(i:Int)*((16:Nat):Int)by omega]
 generalize hdAt i=z at*;unfold cfgV;clear hc;go_in;go_wp2_with fail;go_call hl _ (hM.fr ((Fr.refl [] w).alloc _) (by simp)) as e w1 ⟨rfl,f1⟩;go_wp2;go_ret;exact⟨rfl,((Fr.refl [] w).alloc _).trans f1⟩
section
variable{w:World}{q:MH}{t:TM}
theorem tcfg(h:IsT w q t):Calls prog 78 #[q] w (zN (.agg #[t.a,t.s]) w):=zgy h
theorem zhg(h:IsT w q t):Calls prog 158 #[q] w (zN true w):=by
 have hc:=tcfg h;have ha:=(zhd h.ok).2;have b:=dT ((0:Int)<t.a);have b':=dT (0<t.a);have hfd:=zhc t.a t.s;generalize t.a=a at*;generalize t.s=s at*;clear h;go_in;go_wp2_with fail;go_call hc as e w1 ⟨rfl,f1⟩;go_wp2;go_ret;exact⟨rfl,f1⟩
theorem liis(w:World)(c:Int):Calls prog 194 #[c] w (zE (.bool (decide (0≤c∧c≤9))) w):=by
 by_cases h1:0≤c
 ·have b1:decide (0≤c)=true:=by simpa using h1
  by_cases h2:c≤9
  ·have b2:decide (c≤9)=true:=by simpa using h2
   rw[decide_eq_true (show 0≤c∧c≤9 from⟨h1,h2⟩)];clear h1 h2;go_in;go_wp2;go_ret;exact⟨rfl,rfl⟩
  ·have b2:decide (c≤9)=false:=by simpa using h2
   rw[decide_eq_false (fun h:0≤c∧c≤9=>h2 h.2)];clear h1 h2;go_in;go_wp2;go_ret;exact⟨rfl,rfl⟩
 ·have b1:decide (0≤c)=false:=by simpa using h1
  rw[decide_eq_false (fun h:0≤c∧c≤9=>h1 h.1)];clear h1;go_in;go_wp2;go_ret;exact⟨rfl,rfl⟩
theorem zhh(h:IsT w q t)(i:Int):Calls prog 196 #[q,i] w (zR (.bool (decide (0≤i∧i<t.a))) fun w'=>Fr [] w w'):=by
 have hc:=tcfg h;have hfd:=zhc t.a t.s;generalize t.a=a at*;generalize t.s=s at*;clear h;by_cases h1:0≤i
 ·have b1:decide (0≤i)=true:=by simpa using h1
  by_cases h2:i<a
  ·have b2:decide (i<a)=true:=by simpa using h2
   rw[decide_eq_true (show 0≤i∧i<a from⟨h1,h2⟩)];clear h1 h2;go_in;go_wp2_with fail;go_call hc as e w1 ⟨rfl,f1⟩;go_wp2;go_ret;exact⟨rfl,f1⟩
  ·have b2:decide (i<a)=false:=by simpa using h2
   rw[decide_eq_false (fun h:0≤i∧i<a=>h2 h.2)];clear h1 h2;go_in;go_wp2_with fail;go_call hc as e w1 ⟨rfl,f1⟩;go_wp2;go_ret;exact⟨rfl,f1⟩
 ·have b1:decide (0≤i)=false:=by simpa using h1
  rw[decide_eq_false (fun h:0≤i∧i<a=>h1 h.1)];clear h1;go_in;go_wp2;go_ret;exact⟨rfl,Fr.refl _ _⟩
theorem zhi(h:IsT w q t)(i p:Nat)(hi:i<t.a)(hp:p<5)(x k:Int)(hx:x=hdA p)(hk:k=hdW p):Calls prog 197 #[q,i,x,k] w (zR (t.hd i p) fun w'=>IsT w' q t∧Fr q.blocks w w'):=by
 have hc:=tcfg h;have hat:=zgm h.ok i p hi hp;have hh:∀W,TabM W→Calls prog 275 #[.agg #[t.a,t.s],i] W (zN (hdAt i) W):=fun W hW=>zhf W hW t.a t.s h.ok.cfg i hi;have hl:=zgj p hp;have ha:=(zhd h.ok).1
 have hv:t.hd i p<4294967296:=by
  have:=h.ok.hd i p;rcases hl.2.1 with e|e<;>rw[e]at this<;>omega
 have hld:∀W,IsT W q t→Calls prog 109 #[q,.int .i64 ((hdAt i:Int)+x),k,(3:Int)] W fun e w''=>e= .returned (.int .u64 (t.hd i p))∧IsT w'' q t∧Fr q.blocks W w'':=fun W hW=>by
  have:=zgu hW hat;rw[Int.natCast_add]at this;rw[hx,hk];exact this
 have hw1:IntKind.i64.wrap ((hdAt i:Int)+x)=(hdAt i:Int)+x:=i64_in _ (by unfold hdAt;omega);have hw2:IntKind.i64.wrap ((t.hd i p:Nat):Int)=((t.hd i p:Nat):Int):=i6 _;generalize t.hd i p=v at*;generalize hdAt i=z at*;generalize t.a=a at*;generalize t.s=s at*;clear hx hk hat hl;go_in;go_wp2_with fail;go_call hc as e w1 ⟨rfl,f1⟩;have H1:=h.fr0 f1;go_wp2_with fail;go_call hh _ H1.tab as e w2 ⟨rfl,f2⟩;have H2:=H1.fr0 f2;go_wp2_with fail;go_call hld _ H2 as e w3 ⟨rfl,h3,f3⟩;have F3:=(f1.trans f2).nil.trans f3;clear f1 f2 f3;go_wp2;go_ret;exact⟨rfl,h3,F3⟩
theorem zhj(h:IsT w q t)(i p v:Nat)(hi:i<t.a)(hp:p<5)(hv:v<256^hdW p)(x k y:Int)(hx:x=hdA p)(hk:k=hdW p)(hy:y=v)(i':Int)(hi':i'=i):Calls prog 260 #[q,i',x,k,.int .u64 y] w (zR (.tuple #[]) fun w'=>IsT w' q (t.setHd i p v)∧Fr q.blocks w w'):=by
 subst hi' hy;have hc:=tcfg h;have hat:=zgm h.ok i p hi hp;have hh:∀W,TabM W→Calls prog 275 #[.agg #[t.a,t.s],i] W (zN (hdAt i) W):=fun W hW=>zhf W hW t.a t.s h.ok.cfg i hi;have hl:=zgj p hp;have ha:=(zhd h.ok).1
 have hst:∀W,IsT W q t→Calls prog 165 #[q,.int .i64 ((hdAt i:Int)+x),k,(3:Int),.int .u64 v] W fun e w''=>e= .returned true∧IsT w'' q (t.setHd i p v)∧Fr q.blocks W w'':=fun W hW=>by
  have:=zgv hW hat hv (zgo hW.ok i p v hv) (zgp hW.ok i p v hi hp hv);rw[Int.natCast_add]at this;rw[hx,hk];exact this
 have hw1:IntKind.i64.wrap ((hdAt i:Int)+x)=(hdAt i:Int)+x:=i64_in _ (by unfold hdAt;omega);generalize t.setHd i p v=t' at*;generalize hdAt i=z at*;generalize t.a=a at*;generalize t.s=s at*;clear hx hk hat hl hv;go_in;go_wp2_with fail;go_call hc as e w1 ⟨rfl,f1⟩;have H1:=h.fr0 f1;go_wp2_with fail;go_call hh _ H1.tab as e w2 ⟨rfl,f2⟩;have H2:=H1.fr0 f2;go_wp2_with fail;go_call hst _ H2 as e w3 ⟨rfl,h3,f3⟩;have F3:=(f1.trans f2).nil.trans f3;clear f1 f2 f3;go_wp2;go_end0;exact⟨rfl,h3,F3⟩
theorem zhk(h:IsT w q t)(c:Nat)(hc:c≤9)(c':Int)(ec:c'=c):Calls prog 160 #[q,c'] w (zR (.int .i64 (t.rt (3+c))) fun w'=>IsT w' q t∧Fr q.blocks w w'):=by
 subst ec;have hr:=zgw h (3+c) (by omega) (3+c) (by omega);have hw1:=i6 (3+(c:Int))
 have hv:t.rt (3+c)<4294967296:=by
  have:=h.ok.rt (3+c);rw[show fldW (3+c)=4 by unfold fldW;rw[if_neg (by omega)]]at this;omega
 have hw2:IntKind.i64.wrap ((t.rt (3+c):Nat):Int)=((t.rt (3+c):Nat):Int):=i6 _;generalize t.rt (3+c)=v at*;clear h;go_in;go_wp2_with fail;go_call hr as e w1 ⟨rfl,h1,f1⟩;clear hr;go_wp2;go_ret;exact⟨rfl,h1,f1⟩
end
def Lk(t:TM):Nat→Nat→List Nat→Prop
 |_,s,[] =>s=0
 |p,s,x::l=>s=x+1∧x<t.a∧t.hd x 4=p∧Lk t (x+1) (t.hd x 3) l
theorem Lk.lt{t:TM}:∀{l:List Nat} {p s:Nat},Lk t p s l→∀x∈l,x<t.a
 | [],_,_,_,x,hx=>by cases hx
 |y::l,p,s,⟨_,h1,_,h2⟩,x,hx=>by
  rcases List.mem_cons.1 hx with rfl|hx
  ·exact h1
  ·exact h2.lt x hx
theorem Lk.same{t u:TM}(ha:u.a=t.a):∀{l:List Nat} {p s:Nat},Lk t p s l→(∀x∈l,u.hd x 3=t.hd x 3∧u.hd x 4=t.hd x 4)→Lk u p s l
 | [],_,_,h,_=>h
 |y::l,p,s,⟨h0,h1,h2,h3⟩,hx=>by
  obtain⟨e1,e2⟩:=hx y (List.mem_cons_self ..);exact⟨h0,by rw[ha];exact h1,by rw[e2];exact h2,by rw[e1];exact h3.same ha (fun x hm=>hx x (List.mem_cons_of_mem _ hm))⟩
structure zhl(t:TM)(ls:Nat→List Nat):Prop where
 ln: ∀c,c≤9→Lk t 0 (t.rt (3+c)) (ls c)
 sorted: ∀c,c≤9→(ls c).Pairwise (· < ·)
 apart: ∀c d,c≤9→d≤9→c≠d→ ∀x∈ls c,x∉ls d
 out: ∀x,x<t.a→(∀c,c≤9→x∉ls c)→t.hd x 3=0∧t.hd x 4=0
section
open Go.RowKit Go.Shelf
attribute [local go_sem] Oper.semAt_some
structure zhm(W:World)(q:MH)(t:TM)(Bm Bc:Nat)(c:Nat):Prop where
 m:IsT W q t
 bm:Blk W Bm 26 #[q]
 bc:Blk W Bc 3 #[c]
def zhn(q:MH)(t:TM)(A B:World):Prop:=Fr q.blocks A B∧IsT B q t
theorem zho(n:Nat)(hn:1≤n)(q:MH)(t:TM)(Bm Bc c:Nat)(hc:c≤9)(l:List Nat)(hl:Lk t 0 (t.rt (3+c)) l)(hso:l.Pairwise (·<·))(hBm:Bm∉q.blocks)(hBc:Bc∉q.blocks):zbu (α:=Nat) Fence.wide n prog 274 #[.pointer (some ⟨Bm,0,none⟩),.pointer (some ⟨Bc,0,none⟩)] (fun x=> #[.int .i64 x]) (fun W=>zhm W q t Bm Bc c) (zhn q t) (fun pre x=>∃rest,l=pre++x::rest) (fun xs=>xs=l) (fun _=>True):=by
 intro lo J Jx W hJM hJS hXS hY h0;have hM0:=hJM _ _ h0;refine callsIn_of_wp func274 rfl trivial ?_ rfl;simp only[ntmps274,List.size_toArray,List.length_cons,List.length_nil,Nat.reduceAdd,Nat.reduceSub,Array.replicate_succ,Array.replicate_zero,List.push_toArray,List.append_toArray,List.nil_append,List.cons_append];have c1:=hM0.bm.cell 0;have c2:=hM0.bc.cell 0;simp at c1 c2;have hfi:=fun W hW=>zhk (w:=W) (q:=q) (t:=t) hW c hc c rfl;have HJM:=hid hJM;have HJS:=hid hJS;have HY:=hid hY;have HSO:=hid hso;have ha64:=(zhd hM0.m.ok).1;have hpa:=fun W hW i hi=>zhi (w:=W) (q:=q) (t:=t) hW i 3 hi (by decide) 8 4 rfl rfl;have H0:=hid h0;have HM0:=hid hM0;clear hJM hJS hXS hY hso h0 hM0;generalize t.rt (3+c)=s0 at*;gi_wp2_with (first|(refine⟨trivial,?_⟩;gi_at_call 160;refine(callsIn_wide.2 (hfi _ HM0.m)).mono ?_;rintro e W1 ⟨rfl,h1,f1⟩));have hJ1:=hid (HJS.out _ _ _ H0.out ⟨f1,h1⟩);clear h1 f1 c1 c2 H0 hfi;gi_loopw [4] (fun v wr=>∃pre rest p s,l=pre++rest∧v= .int .i64 (s:Nat)∧Hid (Lk t p s rest)∧Hid (J pre wr)) (fun v _=>if(intOf v).toNat=0 then 0 else t.a+1-(intOf v).toNat);case atStart=>exact⟨[],l,0,s0,rfl,rfl,hl,hJ1⟩
 case round=>
  clear hJ1;obtain⟨pre,rest,p,s,hpr,rfl,hlk,hJ⟩:=hrel;have hM:=HJM.out _ _ hJ.out;have c1:=hM.bm.cell 0;have c2:=hM.bc.cell 0;simp at c1 c2;rcases rest with _|⟨x,rest⟩
  ·have hs:s=0:=hlk.out
   subst hs;gi_wp2
   all_goals
    refine⟨fun f h=>(by cases h),?_⟩;gi_wp2;go_end0;exact⟨⟨_,rfl⟩,.inl ⟨_,by rw[hpr,List.append_nil],hJ.out⟩⟩
  ·obtain⟨hs,hxa,_,hlk2⟩:=hlk.out
   subst hs;have g2:IntKind.i64.wrap (((x+1:Nat):Int)-1)=x:=by rw[i6 _];omega
   obtain⟨fn,tmps,assign,body,hy,hR⟩:=HY.out pre x wr ⟨rest,hpr⟩ hJ.out
   have hxs:∀y r,rest=y::r→x<y:=fun y r e=>by
    have h1:=HSO.out;rw[hpr,e]at h1;exact(List.pairwise_cons.1 (List.pairwise_append.1 h1).2.1).1 y (List.mem_cons_self ..)
   have HXS:=hid hxs;have HPR:=hid hpr;clear hxs hpr hlk;gi_wp2;refine hR.mono ?_;rintro e W3 (⟨rfl,hJ3⟩|⟨rfl,hJx3⟩)
   ·have hM3:=HJM.out _ _ hJ3
    have c3:=hM3.bm.cell 0;simp at c3;have HJ3:=hid hJ3;clear hJ3 c1 c2 hM;gi_wp2_with (first|(refine⟨trivial,?_⟩;gi_at_call 197;refine(callsIn_wide.2 (hpa _ hM3.m x hxa)).mono ?_;rintro e W4 ⟨rfl,h4,f4⟩));refine⟨⟨pre++ [x],rest,x+1,t.hd x 3,by rw[HPR.out];simp,rfl,hlk2,hid (HJS.out _ _ _ HJ3.out ⟨f4,h4⟩)⟩,?_⟩;have hlk3:=hlk2;rcases rest with _|⟨y,r⟩
    ·rw[show t.hd x 3=0 from hlk3]
     simp[intOf];omega
    ·obtain⟨hs3,hy,_⟩:=hlk3
     have:=HXS.out y r rfl;rw[hs3];simp[intOf];omega
   ·gi_wp2
    go_end0;exact⟨⟨_,rfl⟩,.inr ⟨_,trivial,hJx3⟩⟩
end
section
open Go.RowKit Go.Shelf
attribute [local go_sem] Oper.semAt_some
def wth(x:Nat):Nat→List Nat→Bool×Nat
 |p,[] =>(false,p)
 |p,y::l=>if x<y then(false,p)else if y=x then(true,p)else wth x (y+1) l
def pv(l:List Nat):Nat:=(l.getLast?.map (· +1)).getD 0
theorem zhp(l:List Nat)(x:Nat):pv (l++ [x])=x+1:=by simp[pv]
theorem zhq(x:Nat):∀(pre rest:List Nat) (p:Nat),(∀y∈pre,y<x)→wth x p (pre++rest)=wth x (if pre= []then p else pv pre) rest
 | [],rest,p,_=>rfl
 |y::pre,rest,p,h=>by
  have hy:=h y (List.mem_cons_self ..);rw[List.cons_append,wth,if_neg (by omega),if_neg (by omega),zhq x pre rest (y+1) (fun z hz=>h z (List.mem_cons_of_mem _ hz))];rw[if_neg (show¬(y::pre)= []by simp)];congr 1;split
  ·next e=>subst e;rfl
  ·next e=>
   unfold pv;obtain⟨z,l',e2⟩:∃z l',pre=l'++ [z] :=⟨pre.getLast e,pre.dropLast,(List.dropLast_concat_getLast e).symm⟩;rw[e2,←List.cons_append,List.getLast?_append,List.getLast?_append];rfl
theorem zhr{n:Nat}{P:Program}{c:Code}{Q:Exit→Act→World→Prop}{a:Act}{w:World}(h:c.wpIn Fence.wide n P (Exit.noGoto Q) a w):(Code.scope c).wpIn Fence.wide n P Q a w:=
 wpIn_wide.2 (wp_scope_straight (wpIn_wide.1 h))
theorem zhs(n:Nat)(m:Nat)(c:Int)(w:World):CallsIn Fence.wide n prog 195 #[.pointer (some ⟨m,0,none⟩),.int .i64 c] w (zR (.func (.func 274) #[] #[.pointer (some ⟨w.heap.size,0,none⟩),.pointer (some ⟨w.heap.size+1,0,none⟩)]) fun w'=>w'=(w.alloc (.cells #[some m] 26)).alloc (.cells #[c] 3)):=by
 refine callsIn_of_wp func195 rfl trivial ?_ rfl;simp only[ntmps195,List.size_toArray,List.length_cons,List.length_nil,Nat.reduceAdd,Nat.reduceSub,Array.replicate_succ,Array.replicate_zero,List.push_toArray,List.append_toArray,List.nil_append,List.cons_append];gi_wp2;go_ret;exact⟨rfl,rfl⟩
theorem zht(n:Nat)(hn:4≤n)(w:World)(q:MH)(t:TM)(h:IsT w q t)(c:Nat)(hc:c≤9)(l:List Nat)(hl:Lk t 0 (t.rt (3+c)) l)(hso:l.Pairwise (· < ·))(x:Nat):CallsIn Fence.wide n prog 237 #[.pointer (some ⟨q.m,0,none⟩),.int .i64 c,.int .i64 x] w (zR (.tuple #[.bool (wth x 0 l).1,.int .i64 (wth x 0 l).2]) fun w'=>IsT w' q t∧Fr q.blocks w w'):=by
 have h1:1≤n:=by omega
 refine callsIn_of_wp_marks func237 rfl trivial ?_ rfl
 simp only[ntmps237,List.size_toArray,List.length_cons,List.length_nil,Nat.reduceAdd,Nat.reduceSub,Array.replicate_succ,Array.replicate_zero,List.push_toArray,List.append_toArray,List.nil_append,List.cons_append]
 gi_wp2
 refine zhr ?_
 gi_wp2
 refine wpIn_label ?_
 gi_wp2_with (first|(refine⟨trivial,?_⟩;gi_at_call 195;refine(zhs _ _ _ _).mono ?_;rintro e w' ⟨rfl,rfl⟩))
 obtain⟨W0,hW0⟩: ∃W0,(((((w.alloc (.cells #[x] 3)).alloc (.cells #[(0:Int)] 3)).alloc (.cells #[false] 4)).alloc (.cells #[q] 26)).alloc (.cells #[c] 3))=W0:=⟨_,rfl⟩
 have bX:Blk W0 w.heap.size 3 #[x] :=by rw[←hW0];exact((((Blk.new w _ _).alloc _).alloc _).alloc _).alloc _
 have bP:Blk W0 (w.heap.size+1) 3 #[.int .i64 (0:Nat)] :=by
  rw[←hW0]
  have:=((((Blk.new (w.alloc (.cells #[x] 3)) 3 #[.int .i64 0]).alloc (.cells #[false] 4)).alloc (.cells #[q] 26)).alloc (.cells #[c] 3))
  rwa[World.size_alloc]at this
 have bI:Blk W0 (w.heap.size+1+1) 4 #[false] :=by
  rw[←hW0]
  have:=(((Blk.new ((w.alloc (.cells #[x] 3)).alloc (.cells #[(0:Int)] 3)) 4 #[.bool false]).alloc (.cells #[q] 26)).alloc (.cells #[c] 3))
  rwa[World.size_alloc,World.size_alloc]at this
 have bM:Blk W0 (w.heap.size+1+1+1) 26 #[q] :=by
  rw[←hW0]
  have:=((Blk.new (((w.alloc (.cells #[x] 3)).alloc (.cells #[(0:Int)] 3)).alloc (.cells #[false] 4)) 26 #[.pointer (some ⟨q.m,0,none⟩)]).alloc (.cells #[c] 3))
  rwa[World.size_alloc,World.size_alloc,World.size_alloc]at this
 have bC:Blk W0 (w.heap.size+1+1+1+1) 3 #[c] :=by
  rw[←hW0]
  have:=Blk.new ((((w.alloc (.cells #[x] 3)).alloc (.cells #[(0:Int)] 3)).alloc (.cells #[false] 4)).alloc (.cells #[q] 26)) 3 #[.int .i64 c]
  rwa[World.size_alloc,World.size_alloc,World.size_alloc,World.size_alloc]at this
 have fr0:Fr q.blocks w W0:=by rw[←hW0];exact(((((Fr.refl _ w).alloc _).alloc _).alloc _).alloc _).alloc _
 have hT0:IsT W0 q t:=by rw[←hW0];exact((((h.alloc _).alloc _).alloc _).alloc _).alloc _
 have hz0:W0.heap.size=w.heap.size+5:=by rw[←hW0];simp
 have hlt:=h.lt
 rw[hW0]
 clear hW0
 have hq: ∀k,w.heap.size≤k→k∉q.blocks:=fun k hk hm=>by have:=hlt k hm;omega
 have hgx:=h.tab.size
 have hbook: ∀N,N≤W0.heap.size→ ∀k∈ [W0.heap.size,W0.heap.size+1],k∈q.blocks∨N≤k:=fun N hN k hk=>by simp at hk;exact .inr (by omega)
 have hnb: ∀k,k<W0.heap.size→k∉ [W0.heap.size,W0.heap.size+1] :=fun k hk hm=>by simp at hm;omega
 have hfrM: ∀A B,zhm A q t (w.heap.size+1+1+1) (w.heap.size+1+1+1+1) c→Fr [W0.heap.size,W0.heap.size+1] A B→zhm B q t (w.heap.size+1+1+1) (w.heap.size+1+1+1+1) c:=fun A B hM hf=>
  ⟨hM.m.fr hf (fun k hk=>hnb k (by have:=hlt k hk;omega)) (fun k hk=>hnb k (by omega)),hM.bm.fr hf (hnb _ (by omega)),hM.bc.fr hf (hnb _ (by omega))⟩
 have hset: ∀(g:Nat) (v:Value) (W:World),(g=w.heap.size+1∨g=w.heap.size+1+1)→zhm W q t (w.heap.size+1+1+1) (w.heap.size+1+1+1+1) c→zhm (W.setCell ⟨g,0,none⟩ v) q t (w.heap.size+1+1+1) (w.heap.size+1+1+1+1) c:=fun g v W hg hM=>by
  have hf:Fr [g] W (W.setCell ⟨g,0,none⟩ v):=(Fr.refl _ _).setCell (.inl (by simp)) _
  refine⟨hM.m.fr hf (fun k hk hm=> ?_) (fun k hk hm=> ?_),hM.bm.fr hf (by simp;omega),hM.bc.fr hf (by simp;omega)⟩
  ·simp at hm;subst hm;exact hq _ (by omega) hk
  ·simp at hm;omega
 have hkeep: ∀(g:Nat) (v:Value) (W:World),W0.heap.size+1<W.heap.size→(g=w.heap.size+1∨g=w.heap.size+1+1)→Keep2 W0.heap.size W (W.setCell ⟨g,0,none⟩ v):=fun g v W hW hg=>
  ((Fr.refl [g] W).setCell (p:=⟨g,0,none⟩) (.inl (by simp)) v).keep2 hW ⟨by simp;omega,by simp;omega⟩
 refine zbv rfl h1 (gf:=274) (lb:= #[.pointer (some ⟨w.heap.size+1+1+1,0,none⟩),.pointer (some ⟨w.heap.size+1+1+1+1,0,none⟩)]) rfl trivial (enters_of func274 (by kernel_rfl) rfl)
  (zho (n-1) (by omega) q t (w.heap.size+1+1+1) (w.heap.size+1+1+1+1) c hc l hl hso (hq _ (by omega)) (hq _ (by omega))) (fun _=>rfl)
  (fun A B hA hM hs=>⟨hs.1.keep2 hA ⟨hq _ (by omega),hq _ (by omega)⟩,hs.1.size⟩)
  (fun pre W=>zhm W q t (w.heap.size+1+1+1) (w.heap.size+1+1+1+1) c∧Fr q.blocks w W∧(Blk W w.heap.size 3 #[x] ∧Blk W (w.heap.size+1) 3 #[(pv pre)] ∧Blk W (w.heap.size+1+1) 4 #[false])∧ ∀y∈pre,y<x)
  (fun cd pre W=>zhm W q t (w.heap.size+1+1+1) (w.heap.size+1+1+1+1) c∧Fr q.blocks w W∧cd= .exit 0∧Blk W (w.heap.size+1) 3 #[.int .i64 (wth x 0 l).2] ∧Blk W (w.heap.size+1+1) 4 #[.bool (wth x 0 l).1])
  (fun s A hh=>hh.1) (fun cd s A hh=>hh.1)
  ?hI ?hIx ?hIs ?hXs ⟨⟨hT0,bM,bC⟩,fr0,⟨bX,bP,bI⟩,fun y hy=>by cases hy⟩
  (fun y a' W=>a'={tmps:= #[.pointer (some ⟨q.m,0,none⟩),.int .i64 c,.int .i64 x,undef,undef,.pointer (some ⟨w.heap.size,0,none⟩),.bool false,.int .i64 0,.pointer (some ⟨w.heap.size+1,0,none⟩),.pointer (some ⟨w.heap.size+1+1,0,none⟩),.int .i64 y,.pointer (some ⟨q.m,0,none⟩),.int .i64 c,.func (.func 274) #[] #[.pointer (some ⟨w.heap.size+1+1+1,0,none⟩),.pointer (some ⟨w.heap.size+1+1+1+1,0,none⟩)],.int .i64 y,undef,undef,undef,undef,undef,undef,undef,undef,undef,undef,undef,undef],defers:= []})
  (fun y a' A B hh _=>hh) ?assign ?body ?done ?stop
 case hI=>exact fun s A B ⟨hM,hF,⟨hX,hP,hB⟩,hp⟩ hf=>⟨hfrM A B hM hf,hF.step hf (hbook w.heap.size (by omega)),⟨hX.fr hf (hnb _ (by omega)),hP.fr hf (hnb _ (by omega)),hB.fr hf (hnb _ (by omega))⟩,hp⟩
 case hIx=>exact fun cd s A B ⟨hM,hF,hcd,hP,hB⟩ hf=>⟨hfrM A B hM hf,hF.step hf (hbook w.heap.size (by omega)),hcd,hP.fr hf (hnb _ (by omega)),hB.fr hf (hnb _ (by omega))⟩
 case hIs=>exact fun s A B ⟨hM,hF,⟨hX,hP,hB⟩,hp⟩ hs=>⟨⟨hs.2,hM.bm.fr hs.1 (hq _ (by omega)),hM.bc.fr hs.1 (hq _ (by omega))⟩,hF.trans hs.1,⟨hX.fr hs.1 (hq _ (by omega)),hP.fr hs.1 (hq _ (by omega)),hB.fr hs.1 (hq _ (by omega))⟩,hp⟩
 case hXs=>exact fun cd s A B ⟨hM,hF,hcd,hP,hB⟩ hs=>⟨⟨hs.2,hM.bm.fr hs.1 (hq _ (by omega)),hM.bc.fr hs.1 (hq _ (by omega))⟩,hF.trans hs.1,hcd,hP.fr hs.1 (hq _ (by omega)),hB.fr hs.1 (hq _ (by omega))⟩
 case assign=>
  rintro lo pre y W K hW hi hK
  gi_wp2
  exact hK _ _ (Keep2.refl _ _) hi rfl
 case body=>
  rintro lo pre y a' W hW ⟨rest,hpr⟩ ⟨hM,hF,⟨hX,hP,hB⟩,hpre⟩ rfl
  have hc1:=hX.cell 0
  have hc2:=hP.cell 0
  have hc3:=hB.cell 0
  have hf2:=hP.frozen 0
  have hf3:=hB.frozen 0
  simp at hc1 hc2 hc3
  have hwt:wth x 0 l=wth x (pv pre) (y::rest):=by
   rw[hpr,zhq x pre (y::rest) 0 hpre]
   by_cases h0:pre= []
   ·rw[if_pos h0,h0];rfl
   ·rw[if_neg h0]
  rw[wth]at hwt
  have hya:y<t.a:=hl.lt y (by rw[hpr];simp)
  have ha64:=(zhd h.ok).1
  have HPR:=hid hpre
  clear hpre hpr bX bP bI bM bC fr0 hT0 hfrM hbook hnb hl hso h
  by_cases hxy:x<y
  ·rw[if_pos hxy]at hwt
   have HWT:=hid hwt
   have b1':=dT (x<y)
   clear hwt
   gi_wp2
   exact⟨Keep2.refl _ _,hM,hF,rfl,by rw[HWT.out];exact hP,by rw[HWT.out];exact hB⟩
  ·rw[if_neg hxy]at hwt
   have b1':=dF (x<y)
   by_cases he:y=x
   ·rw[if_pos he]at hwt
    have HWT:=hid hwt
    have b2:((y:Int)==x)=true:=by simp;omega
    have b2':(y==x)=true:=by simp;omega
    clear hwt hxy
    gi_wp2
    refine⟨hkeep _ _ _ hW (.inr rfl),hset _ _ _ (.inr rfl) hM,hF.setCell (.inr (by simp;omega)) _,rfl,by rw[HWT.out];exact hP.far (p:=⟨w.heap.size+1+1,0,none⟩) (by simp) _,?_⟩
    rw[HWT.out]
    have:=hB.set 0 (.bool true)
    simpa using this
   ·have b2:((y:Int)==x)=false:=by simp;omega
    have b2':(y==x)=false:=by simp;omega
    have hyx:y<x:=by omega
    clear hwt hxy
    gi_wp2
    refine⟨hkeep _ _ _ hW (.inl rfl),hset _ _ _ (.inl rfl) hM,hF.setCell (.inr (by simp)) _,⟨hX.far (p:=⟨w.heap.size+1,0,none⟩) (by simp) _,?_,hB.far (p:=⟨w.heap.size+1,0,none⟩) (by simp) _⟩,fun z hz=> ?_⟩
    ·have:=hP.set 0 (.int .i64 ((y:Int)+1))
     rw[zhp,Int.natCast_add]
     simpa using this
    ·rcases List.mem_append.1 hz with hz|hz
     ·exact HPR.out z hz
     ·simp at hz;omega
 case done=>
  rintro D xs W hD hxs ⟨hM,hF,⟨_,hP,hB⟩,hpre⟩ hK
  have hc2:=hP.cell 0
  have hc3:=hB.cell 0
  simp at hc2 hc3
  have hres:wth x 0 l=(false,pv xs):=by
   subst hxs
   have:=zhq x xs [] 0 hpre
   rw[List.append_nil]at this
   rw[this,wth]
   by_cases h0:xs= []
   ·rw[if_pos h0,h0];rfl
   ·rw[if_neg h0]
  gi_wp2
  gi_quiet (fail)
  gi_wp2
  rename_i nq
  rw[Exit.noGoto_ret]
  refine⟨by simp,.inl ⟨_,_,rfl,run_takeDeferred (w:=W.drewN nq) hK,?_⟩⟩
  have hfp:Fr [D] W ((W.drewN nq).putObj D (.deferred none)):=((Fr.refl [D] W).drewN nq).trans (Fr.putObj _ _ (by simp))
  refine⟨_,results_tmp2 rfl _ _ _,?_,hM.m.fr hfp (fun k hk hm=> ?_) (fun k hk hm=> ?_),hF.step hfp (by simp;omega)⟩
  ·rw[hres];subst hxs;rfl
  ·simp at hm;subst hm;exact hq _ (by omega) hk
  ·simp at hm;omega
 case stop=>
  rintro D cd pre W hD _ ⟨hM,hF,rfl,hP,hB⟩ hK
  have hc2:=hP.cell 0
  have hc3:=hB.cell 0
  simp at hc2 hc3
  gi_wp2
  gi_quiet (fail)
  gi_wp2
  rename_i nq
  rw[Exit.noGoto_ret]
  refine⟨by simp,.inl ⟨_,_,rfl,run_takeDeferred (w:=W.drewN nq) hK,?_⟩⟩
  have hfp:Fr [D] W ((W.drewN nq).putObj D (.deferred none)):=((Fr.refl [D] W).drewN nq).trans (Fr.putObj _ _ (by simp))
  refine⟨_,results_tmp2 rfl _ _ _,?_,hM.m.fr hfp (fun k hk hm=> ?_) (fun k hk hm=> ?_),hF.step hfp (by simp;omega)⟩
  ·rfl
  ·simp at hm;subst hm;exact hq _ (by omega) hk
  ·simp at hm;omega
end
section
open Go.RowKit Go.Shelf
attribute [local go_sem] Oper.semAt_some
theorem zhu{A B:World}{base size n N:Nat}{e:TypeId}{v:Value}{xs:List Value}{S:List Nat}(h:A.ownsRow base e size v n xs)(hN:∀g,v.ownBlock=some g→N+1<g)(hf:Fr S A B)(hS:∀k∈S,k≤N+1):B.ownsRow base e size v n xs:=by
 obtain⟨h1,⟨h2,h3⟩|⟨g,cap,cur,rfl,hb,hg,r1,r2,r3,r4⟩⟩:=h
 ·exact⟨h1,.inl ⟨h2,h3⟩⟩
 ·have:=hN g rfl
  exact⟨h1,.inr ⟨g,cap,cur,rfl,hb,(hf.block g (Array.getElem?_eq_some_iff.1 hg).1 (fun hm=>by have:=hS g hm;omega)).trans hg,r1,r2,r3,r4⟩⟩
def ownS(v:Value):List Nat:=match v.ownBlock with|some g=> [g] |none=> []
theorem zhv{v:Value}{k:Nat}(h:k∈ownS v):v.ownBlock=some k:=by
 unfold ownS at h;rcases hv:v.ownBlock with _|g
 ·rw[hv]at h;cases h
 ·rw[hv]at h;simp at h;rw[h]
theorem zhw{W w1:World}{o:Obj}{v:Value}(h:(W.alloc o).grownBy w1 v.ownBlock):Fr (ownS v) W w1:=by
 have h0:Fr (ownS v) W (W.alloc o):=(Fr.refl _ _).alloc o;refine h0.trans ⟨h.os,h.tape,h.output,h.size,fun k hk hn=>h.block k hk (fun e=>hn ?_)⟩;unfold ownS;rw[←e];simp
theorem zhx(w:World)(a:Value)(t:TypeId):∀j u,[a][j]?=some u→(w.alloc (.cells #[a] t)).cell? ((⟨w.heap.size,0,none⟩:Addr).add j)=some u:=by
 intro j u hj;have h:=(Blk.new w t #[a]).cell j;have:(⟨w.heap.size,0,none⟩:Addr).add j=⟨w.heap.size,j,none⟩:=by unfold Addr.add;split<;>simp_all
 rw[this,h];simpa using hj
end
theorem zhy{w:World}{ops:Array Oper}{rest:List Oper}{o:Oper}{a:Act}{Q:Exit→Act→World→Prop}(hgd:o.guard=none)(s x:Operand)(ho:o.op= .call {callee:= .builtin .append,args:= #[s,x],argTypes:= #[69,69]})(hty:o.type=69)
  (base:Nat) (v:Value) (l:List Nat) (hs:a.eval s=v) (y:Nat) (W0:World) (hW:w=W0.alloc (.cells #[y] 3)) (hown:W0.ownsRow base 3 1 v l.length (intC l)) (hx:a.eval x= .slice (some ⟨W0.heap.size,0,none⟩) 1 1)
  (hl:l.length≤1048576) (hbase:base≤W0.heap.size)
  (h: ∀g cap w',w'.ownsRow base 3 1 (.slice (some ⟨g,0,none⟩) (l.length+1) cap) (l++ [y]).length (intC (l++ [y]))→Fr (ownS v) W0 w'→(v.ownBlock=some g∨g=W0.heap.size+1)→wpList prog ops Q rest (a.put o.dst (.slice (some ⟨g,0,none⟩) (l.length+1) cap)) w'):wpList prog ops Q (o::rest) a w:=by
 subst hW
 obtain⟨i0,hi,hz0,hz1,hz2⟩:=info_parts zbr
 refine wpList_plain hgd fun K hK=> ?_
 obtain⟨v',w',hrun,h2,h3,_,h5⟩:=run_append_own_at (P:=prog) (W0.alloc (.cells #[y] 3)) base 69 69 3 i0 (.int .i64 0) 1 8 underlying69 hi hz0 hz1 hz2 rfl (by decide) v l.length (intC l) (hown.alloc _) ⟨W0.heap.size,0,none⟩ 1 1 [.int .i64 y] (by simp) (zhx _ _ _) (by simp[Value.oneCell']) (by unfold maxLen;omega) (by omega) (by simp;omega)
 have h2':w'.ownsRow base 3 1 v' (l++ [y]).length (intC (l++ [y])):=by rw[List.length_append,List.length_singleton,show intC (l++ [y])=intC l++ [.int .i64 y]by simp[intC]];exact h2
 obtain⟨g,cap,rfl⟩:=ownsRow_succ h2
 have hK':=hK _ _ (h g cap w' h2' (zhw h3) (by
  rw[World.size_alloc]at h5
  rcases h5 with h5|h5
  ·exact .inl h5.symm
  ·exact .inr (Option.some.inj h5)))
 unfold Oper.wp execOp
 simp only[ho,hty,resolve,invoke,builtin,Sem.run_bind,Sem.run_pure,Result.andThen_ok,List.map_toArray,List.map_cons,List.map_nil,hs,hx,hrun]
 exact hK'
def hd1:List Nat→Nat
 | [] =>0
 |x::_=>x+1
def pvF(p:Nat)(l:List Nat):Nat:=if l= []then p else pv l
theorem zhz(p y:Nat)(l:List Nat):pvF p (y::l)=pvF (y+1) l:=by
 unfold pvF;rw[if_neg (by simp)];by_cases h:l= []
 ·rw[if_pos h,h];rfl
 ·rw[if_neg h]
  unfold pv;obtain⟨z,l',e2⟩:∃z l',l=l'++ [z] :=⟨l.getLast h,l.dropLast,(List.dropLast_concat_getLast h).symm⟩;rw[e2,←List.cons_append,List.getLast?_append,List.getLast?_append];rfl
theorem Lk_iff{t:TM}:∀{l:List Nat} {p s:Nat},Lk t p s l↔s=hd1 l∧∀l1 y l2,l=l1++y::l2→y<t.a∧t.hd y 4=pvF p l1∧t.hd y 3=hd1 l2
 | [],p,s=>⟨fun h=>⟨h,fun l1 y l2 e=>by simp at e⟩,fun h=>h.1⟩
 |x::l,p,s=>by
  constructor
  ·rintro⟨h0,h1,h2,h3⟩
   obtain⟨e1,e2⟩:=Lk_iff.1 h3;refine⟨h0,fun l1 y l2 e=> ?_⟩;rcases l1 with _|⟨z,l1⟩
   ·simp at e
    obtain⟨rfl,rfl⟩:=e;exact⟨h1,by rw[h2];rfl,e1⟩
   ·simp at e
    obtain⟨rfl,rfl⟩:=e;obtain⟨a1,a2,a3⟩:=e2 l1 y l2 rfl;exact⟨a1,by rw[zhz];exact a2,a3⟩
  ·rintro⟨h0,h⟩
   obtain⟨a1,a2,a3⟩:=h [] x l rfl;refine⟨h0,a1,a2,Lk_iff.2 ⟨a3,fun l1 y l2 e=> ?_⟩⟩;obtain⟨b1,b2,b3⟩:=h (x::l1) y l2 (by rw[e];rfl);exact⟨b1,by rw[zhz]at b2;exact b2,b3⟩
theorem pvF0(l:List Nat):pvF 0 l=pv l:=by
 unfold pvF;split
 ·next h=>rw[h];rfl
 ·rfl
theorem zh0(l m:List Nat)(h:m≠ []):pv (l++m)=pv m:=by
 obtain⟨z,l',e2⟩:∃z l',m=l'++ [z] :=⟨m.getLast h,m.dropLast,(List.dropLast_concat_getLast h).symm⟩;rw[e2,←List.append_assoc,zhp,zhp]
theorem zh1{l1 l2 m1 m2:List Nat}{x y:Nat}(h:l1++x::l2=m1++y::m2):(l1=m1∧x=y∧l2=m2)∨(∃r,l1=m1++y::r∧m2=r++x::l2)∨(∃r,l2=r++y::m2∧m1=l1++x::r):=by
 rcases List.append_eq_append_iff.1 h with⟨a,h1,h2⟩|⟨a,h1,h2⟩
 ·rcases a with _|⟨z,a⟩
  ·simp at h1 h2;exact .inl ⟨h1.symm,h2.1,h2.2⟩
  ·simp at h2
   obtain⟨rfl,rfl⟩:=h2;exact .inr (.inr ⟨a,rfl,h1⟩)
 ·rcases a with _|⟨z,a⟩
  ·simp at h1 h2;exact .inl ⟨h1,h2.1.symm,h2.2.symm⟩
  ·simp at h2
   obtain⟨rfl,rfl⟩:=h2;exact .inr (.inl ⟨a,h1,rfl⟩)
theorem zh2{l1 l2 m1 m2:List Nat}{y:Nat}(h:l1++l2=m1++y::m2):(∃r,l1=m1++y::r∧m2=r++l2)∨(∃r,l2=r++y::m2∧m1=l1++r):=by
 rcases List.append_eq_append_iff.1 h with⟨a,h1,h2⟩|⟨a,h1,h2⟩
 ·exact .inr ⟨a,h2,h1⟩
 ·rcases a with _|⟨z,a⟩
  ·simp at h1 h2;exact .inr ⟨[],by simp[h2],by simp[h1]⟩
  ·simp at h2
   obtain⟨rfl,rfl⟩:=h2;exact .inl ⟨a,h1,rfl⟩
def TM.after(t:TM)(c p n:Nat):TM:=if 0<p then t.setHd (p-1) 3 n else t.setRt (3+c) n
def TM.lnk(t:TM)(c x p n:Nat):TM:=
 let t2:=(t.setHd x 4 p).setHd x 3 n
 (if 0<n then t2.setHd (n-1) 4 (x+1)else t2).after c p (x+1)
def TM.unl(t:TM)(c x p n:Nat):TM:=
 let t2:=t.after c p n
 ((if 0<n then t2.setHd (n-1) 4 p else t2).setHd x 3 0).setHd x 4 0
theorem zh3(t:TM)(c p n f:Nat):(t.after c p n).rt f=if p=0∧f=3+c then n else t.rt f:=by
 unfold TM.after;by_cases h:0<p
 ·rw[if_pos h,if_neg (by omega)];rfl
 ·rw[if_neg h,TM.setRt_rt]
  by_cases h2:f=3+c
  ·rw[if_pos h2,if_pos ⟨by omega,h2⟩]
  ·rw[if_neg h2,if_neg (fun e=>h2 e.2)]
theorem zh4(t:TM)(c p n y r:Nat):(t.after c p n).hd y r=if 0<p∧y=p-1∧r=3 then n else t.hd y r:=by
 unfold TM.after;by_cases h:0<p
 ·rw[if_pos h,TM.setHd_hd]
  by_cases h2:y=p-1∧r=3
  ·rw[if_pos h2,if_pos ⟨h,h2⟩]
  ·rw[if_neg h2,if_neg (fun e=>h2 e.2)]
 ·rw[if_neg h,if_neg (fun e=>h e.1)];rfl
theorem zh5(t:TM)(c p n:Nat):(t.after c p n).a=t.a:=by unfold TM.after;split<;>rfl
theorem zh6(t:TM)(c x p n f:Nat):(t.lnk c x p n).rt f=if p=0∧f=3+c then x+1 else t.rt f:=by
 unfold TM.lnk;rw[zh3];congr 1;split<;>rfl
theorem zh7(t:TM)(c x p n y r:Nat):(t.lnk c x p n).hd y r=if 0<p∧y=p-1∧r=3 then x+1 else if 0<n∧y=n-1∧r=4 then x+1 else if y=x∧r=3 then n else if y=x∧r=4 then p else t.hd y r:=by
 unfold TM.lnk;rw[zh4];congr 1;by_cases h:0<n
 ·rw[if_pos h,TM.setHd_hd,TM.setHd_hd,TM.setHd_hd]
  by_cases h2:y=n-1∧r=4
  ·rw[if_pos h2,if_pos ⟨h,h2⟩]
  ·rw[if_neg h2,if_neg (show¬(0<n∧y=n-1∧r=4)from fun e=>h2 e.2)]
 ·rw[if_neg h,TM.setHd_hd,TM.setHd_hd,if_neg (show¬(0<n∧y=n-1∧r=4)from fun e=>h e.1)]
theorem zh8(t:TM)(c x p n:Nat):(t.lnk c x p n).a=t.a:=by
 unfold TM.lnk;rw[zh5];split<;>rfl
theorem zh9(t:TM)(c x p n f:Nat):(t.unl c x p n).rt f=if p=0∧f=3+c then n else t.rt f:=by
 unfold TM.unl;rw[←zh3];show(if 0<n then _ else _:TM).rt f=_;split<;>rfl
theorem zia(t:TM)(c x p n y r:Nat):(t.unl c x p n).hd y r=if y=x∧(r=3∨r=4)then 0 else if 0<n∧y=n-1∧r=4 then p else if 0<p∧y=p-1∧r=3 then n else t.hd y r:=by
 unfold TM.unl;rw[TM.setHd_hd,TM.setHd_hd];by_cases h1:y=x∧r=4
 ·rw[if_pos h1,if_pos ⟨h1.1,.inr h1.2⟩]
 ·rw[if_neg h1]
  by_cases h2:y=x∧r=3
  ·rw[if_pos h2,if_pos ⟨h2.1,.inl h2.2⟩]
  ·rw[if_neg h2,if_neg (show¬(y=x∧(r=3∨r=4))from fun e=>e.2.elim (fun e3=>h2 ⟨e.1,e3⟩) (fun e4=>h1 ⟨e.1,e4⟩))]
   by_cases h:0<n
   ·rw[if_pos h,TM.setHd_hd,zh4]
    by_cases h3:y=n-1∧r=4
    ·rw[if_pos h3,if_pos ⟨h,h3⟩]
    ·rw[if_neg h3,if_neg (show¬(0<n∧y=n-1∧r=4)from fun e=>h3 e.2)]
   ·rw[if_neg h,zh4,if_neg (show¬(0<n∧y=n-1∧r=4)from fun e=>h e.1)]
theorem zib(t:TM)(c x p n:Nat):(t.unl c x p n).a=t.a:=by
 unfold TM.unl;show(if 0<n then _ else _:TM).a=_;split
 ·exact zh5 t c p n
 ·exact zh5 t c p n
theorem zic{l:List Nat}(h:0<pv l):∃l' y,l=l'++ [y]∧pv l=y+1:=by
 have h0:l≠ [] :=fun e=>by rw[e]at h;exact absurd h (by decide)
 refine⟨l.dropLast,l.getLast h0,(List.dropLast_concat_getLast h0).symm,?_⟩;conv=>lhs;rw[←List.dropLast_concat_getLast h0]
 exact zhp _ _
theorem zid{l:List Nat}(h:0<hd1 l):∃y l',l=y::l'∧hd1 l=y+1:=by
 rcases l with _|⟨y,l⟩
 ·exact absurd h (by decide)
 ·exact⟨y,l,rfl,rfl⟩
theorem zie{t:TM}{c x:Nat}{l1 l2:List Nat}(h:Lk t 0 (t.rt (3+c)) (l1++l2))(hx:x<t.a)(h1:x∉l1)(h2:x∉l2)(hd:∀y∈l1,y∉l2)(hn1:l1.Nodup)(hn2:l2.Nodup):Lk (t.lnk c x (pv l1) (hd1 l2)) 0 ((t.lnk c x (pv l1) (hd1 l2)).rt (3+c)) (l1++x::l2):=by
 obtain⟨e0,e⟩:=Lk_iff.1 h;rw[Lk_iff]
 have k1:∀y,0<pv l1→y=pv l1-1→y∈l1:=fun y hp hy=>by
  obtain⟨l',z,e1,e2⟩:=zic hp;rw[hy,e2,e1];simp
 have k2:∀y,0<hd1 l2→y=hd1 l2-1→y∈l2:=fun y hp hy=>by
  obtain⟨z,l',e1,e2⟩:=zid hp;rw[hy,e2,e1];simp
 constructor
 ·rw[zh6]
  rcases l1 with _|⟨z,l1⟩
  ·rw[if_pos ⟨rfl,rfl⟩];rfl
  ·rw[if_neg (by
    intro h;have:pv (z::l1)=0:=h.1;obtain⟨l',y,e1⟩:∃l' y,z::l1=l'++ [y] :=⟨(z::l1).dropLast,(z::l1).getLast (by simp),(List.dropLast_concat_getLast (by simp)).symm⟩;rw[e1,zhp]at this;omega),e0]
   rfl
 ·intro m1 y m2 em
  rw[zh8,pvF0];rw[zh7,zh7];rcases zh1 em with⟨rfl,rfl,rfl⟩|⟨r,rfl,rfl⟩|⟨r,rfl,rfl⟩
  ·refine⟨hx,?_,?_⟩
   ·rw[if_neg (by omega),if_neg (fun h=>h2 (k2 _ h.1 h.2.1)),if_neg (by omega),if_pos ⟨rfl,rfl⟩]
   ·rw[if_neg (fun h=>h1 (k1 _ h.1 h.2.1)),if_neg (by omega),if_pos ⟨rfl,rfl⟩]
  ·obtain⟨a1,a2,a3⟩:=e m1 y (r++l2) (by simp)
   have hyx:y≠x:=fun e=>h1 (by rw[←e];simp);have hy2:y∉l2:=hd y (by simp);refine⟨a1,?_,?_⟩
   ·rw[if_neg (by omega),if_neg (fun h=>hy2 (k2 _ h.1 h.2.1)),if_neg (fun h=>hyx h.1),if_neg (fun h=>hyx h.1),a2,pvF0]
   ·rcases r with _|⟨z,r⟩
    ·rw[if_pos ⟨by rw[zhp];omega,by rw[zhp];omega,rfl⟩]
     rfl
    ·rw[if_neg (fun h=> ?_),if_neg (by omega),if_neg (fun h=>hyx h.1),if_neg (fun h=>hyx h.1),a3]
     ·rfl
     ·have hl:pv (m1++y::z::r)=pv (z::r):=by
       rw[show m1++y::z::r=(m1++ [y])++(z::r)by simp];exact zh0 _ _ (by simp)
      obtain⟨l',u,e1,e2⟩:=zic (l:=z::r) (by rw[←hl];exact h.1);have hyu:y=u:=by have:=h.2.1;rw[hl,e2]at this;omega
      have:y∈z::r:=by rw[e1,hyu];simp
      have hnd:=(List.nodup_append.1 hn1).2.1;exact(List.nodup_cons.1 hnd).1 this
  ·obtain⟨a1,a2,a3⟩:=e (l1++r) y m2 (by simp)
   have hyx:y≠x:=fun e=>h2 (by rw[←e];simp);have hy1:y∉l1:=fun hm=>hd y hm (by simp);refine⟨a1,?_,?_⟩
   ·rcases r with _|⟨z,r⟩
    ·rw[if_neg (by omega),if_pos ⟨by simp[hd1],by simp[hd1],rfl⟩,zhp]
    ·rw[if_neg (by omega),if_neg (fun hh=> ?_),if_neg (fun h=>hyx h.1),if_neg (fun h=>hyx h.1),a2,pvF0,show l1++x::z::r=(l1++ [x])++(z::r)by simp,zh0 (l1++ [x]) (z::r) (by simp),zh0 l1 (z::r) (by simp)]
     have hyz:y=z:=by have:=hh.2.1;simp[hd1]at this;omega
     subst hyz;rw[List.cons_append]at hn2;exact(List.nodup_cons.1 hn2).1 (by simp)
   ·rw[if_neg (fun h=>hy1 (k1 _ h.1 h.2.1)),if_neg (by omega),if_neg (fun h=>hyx h.1),if_neg (fun h=>hyx h.1),a3]
theorem zif{l1 l2:List Nat}{x:Nat}(h:(l1++x::l2).Nodup):x∉l1∧x∉l2∧(∀y∈l1,y∉l2)∧l1.Nodup∧l2.Nodup:=by
 obtain⟨a,b,c⟩:=List.nodup_append.1 h;obtain⟨d,e⟩:=List.nodup_cons.1 b;exact⟨fun hm=>c x hm x (by simp) rfl,d,fun y hy hm=>c y hy y (by simp[hm]) rfl,a,e⟩
theorem zig{l:List Nat}{y:Nat}(h:0<pv l)(e:y=pv l-1):y∈l:=by
 obtain⟨l',z,e1,e2⟩:=zic h;rw[e,e2,e1];simp
theorem zih{l:List Nat}{y:Nat}(h:0<hd1 l)(e:y=hd1 l-1):y∈l:=by
 obtain⟨z,l',e1,e2⟩:=zid h;rw[e,e2,e1];simp
theorem zii{l:List Nat}(h:l≠ []):0<pv l:=by
 obtain⟨z,l',e2⟩:∃z l',l=l'++ [z] :=⟨l.getLast h,l.dropLast,(List.dropLast_concat_getLast h).symm⟩;rw[e2,zhp];omega
theorem zij{t:TM}{c x:Nat}{l1 l2:List Nat}(h:Lk t 0 (t.rt (3+c)) (l1++x::l2))(hnd:(l1++x::l2).Nodup):Lk (t.unl c x (pv l1) (hd1 l2)) 0 ((t.unl c x (pv l1) (hd1 l2)).rt (3+c)) (l1++l2):=by
 obtain⟨e0,e⟩:=Lk_iff.1 h;obtain⟨h1,h2,hd,hn1,hn2⟩:=zif hnd;rw[Lk_iff];constructor
 ·rw[zh9]
  rcases l1 with _|⟨z,l1⟩
  ·rw[if_pos ⟨rfl,rfl⟩];rfl
  ·rw[if_neg (fun h=>by have:=zii (l:=z::l1) (by simp);omega),e0]
   rfl
 ·intro m1 y m2 em
  rw[zib,pvF0,zia,zia];rcases zh2 em with⟨r,rfl,rfl⟩|⟨r,rfl,rfl⟩
  ·obtain⟨a1,a2,a3⟩:=e m1 y (r++x::l2) (by simp)
   have hyx:y≠x:=fun e=>h1 (by rw[←e];simp);have hy2:y∉l2:=hd y (by simp);refine⟨a1,?_,?_⟩
   ·rw[if_neg (fun h=>hyx h.1),if_neg (fun h=>hy2 (zih h.1 h.2.1)),if_neg (by omega),a2,pvF0]
   ·rw[if_neg (fun h=>hyx h.1),if_neg (by omega)]
    rcases r with _|⟨z,r⟩
    ·rw[if_pos ⟨by rw[zhp];omega,by rw[zhp];omega,rfl⟩]
     rfl
    ·rw[if_neg (fun h=> ?_),a3]
     ·rfl
     ·have hl:pv (m1++y::z::r)=pv (z::r):=by
       rw[show m1++y::z::r=(m1++ [y])++(z::r)by simp];exact zh0 _ _ (by simp)
      have hy:y∈z::r:=zig (by rw[←hl];exact h.1) (by rw[←hl];exact h.2.1);have hnd:=(List.nodup_append.1 hn1).2.1;exact(List.nodup_cons.1 hnd).1 hy
  ·obtain⟨a1,a2,a3⟩:=e (l1++x::r) y m2 (by simp)
   have hyx:y≠x:=fun e=>h2 (by rw[←e];simp);have hy1:y∉l1:=fun hm=>hd y hm (by simp);refine⟨a1,?_,?_⟩
   ·rw[if_neg (fun h=>hyx h.1)]
    rcases r with _|⟨z,r⟩
    ·rw[if_pos ⟨by simp[hd1],by simp[hd1],rfl⟩,List.append_nil]
    ·rw[if_neg (fun hh=> ?_),if_neg (by omega),a2,pvF0,show l1++x::z::r=(l1++ [x])++(z::r)by simp,zh0 (l1++ [x]) (z::r) (by simp),zh0 l1 (z::r) (by simp)]
     have hyz:y=z:=by have:=hh.2.1;simp[hd1]at this;omega
     subst hyz;rw[List.cons_append]at hn2;exact(List.nodup_cons.1 hn2).1 (by simp)
   ·rw[if_neg (fun h=>hyx h.1),if_neg (by omega),if_neg (fun h=>hy1 (zig h.1 h.2.1)),a3]
def lst(a:Nat)(inn:Nat→Int)(c:Nat):List Nat:=(List.range a).filter fun x=>decide (inn x=(c:Int))
def loL(inn:Nat→Int)(x c:Nat):List Nat:=(List.range x).filter fun y=>decide (inn y=(c:Int))
def hiL(a:Nat)(inn:Nat→Int)(x c:Nat):List Nat:=(List.range' (x+1) (a-(x+1))).filter fun y=>decide (inn y=(c:Int))
theorem zik(a x:Nat)(h:x<a):List.range a=List.range x++x::List.range' (x+1) (a-(x+1)):=by
 rw[List.range_eq_range',List.range_eq_range',←List.range'_succ];have:=List.range'_append_1 (s:=0) (m:=x) (n:=a-x);rw[Nat.zero_add]at this;rw[show a-(x+1)+1=a-x by omega,this];congr 1;omega
theorem zil(a:Nat)(inn:Nat→Int)(x c:Nat)(h:x<a):lst a inn c=if inn x=(c:Int)then loL inn x c++x::hiL a inn x c else loL inn x c++hiL a inn x c:=by
 unfold lst loL hiL;rw[zik a x h,List.filter_append,List.filter_cons];by_cases e:inn x=(c:Int)
 ·rw[if_pos (by simpa using e),if_pos e]
 ·rw[if_neg (by simpa using e),if_neg e]
theorem zim{a:Nat}{inn:Nat→Int}{c y:Nat}(h:y∈lst a inn c):y<a∧inn y=(c:Int):=by
 unfold lst at h;rw[List.mem_filter]at h;exact⟨List.mem_range.1 h.1,by simpa using h.2⟩
theorem zin(a:Nat)(inn:Nat→Int)(c:Nat):(lst a inn c).Pairwise (·<·):=List.Pairwise.filter _ List.pairwise_lt_range
theorem zio{l:List Nat}(h:l.Pairwise (·<·)):l.Nodup:=h.imp (fun h=>Nat.ne_of_lt h)
theorem ziq{inn:Nat→Int}{x c y:Nat}(h:y∈loL inn x c):y<x∧inn y=(c:Int):=zim (a:=x) h
theorem zir{a:Nat}{inn:Nat→Int}{x c y:Nat}(h:y∈hiL a inn x c):x<y∧y<a∧inn y=(c:Int):=by
 unfold hiL at h;rw[List.mem_filter,List.mem_range'_1]at h;exact⟨by omega,by omega,by simpa using h.2⟩
theorem zis(inn:Nat→Int)(x c:Nat)(v:Int):loL (up inn x v) x c=loL inn x c:=by
 unfold loL;refine List.filter_congr fun y hy=> ?_;rw[zf2 _ _ (by have:=List.mem_range.1 hy;omega)]
theorem zit(a:Nat)(inn:Nat→Int)(x c:Nat)(v:Int):hiL a (up inn x v) x c=hiL a inn x c:=by
 unfold hiL;refine List.filter_congr fun y hy=> ?_;rw[zf2 _ _ (by have:=(List.mem_range'_1.1 hy).1;omega)]
theorem ziu(x:Nat):∀(l1 l2:List Nat) (p:Nat),(∀y∈l1,y<x)→(∀y∈l2,x<y)→wth x p (l1++l2)=(false,pvF p l1)
 | [],[],p,_,_=>rfl
 | [],y::l,p,_,h=>by
  have:=h y (by simp);show wth x p (y::l)=_;rw[wth,if_pos this];rfl
 |y::l,l2,p,h1,h2=>by
  have:=h1 y (by simp);rw[List.cons_append,wth,if_neg (by omega),if_neg (by omega),ziu x l l2 (y+1) (fun z hz=>h1 z (by simp[hz])) h2,zhz]
theorem ziv(x:Nat):∀(l1 l2:List Nat) (p:Nat),(∀y∈l1,y<x)→wth x p (l1++x::l2)=(true,pvF p l1)
 | [],l,p,_=>by
  show wth x p (x::l)=_;rw[wth,if_neg (by omega),if_pos rfl];rfl
 |y::l,l2,p,h1=>by
  have:=h1 y (by simp);rw[List.cons_append,wth,if_neg (by omega),if_neg (by omega),ziv x l l2 (y+1) (fun z hz=>h1 z (by simp[hz])),zhz]
theorem ziw(a:Nat)(inn:Nat→Int)(x c:Nat)(h:x<a):wth x 0 (lst a inn c)=(decide (inn x=(c:Int)),pv (loL inn x c)):=by
 rw[zil a inn x c h];by_cases e:inn x=(c:Int)
 ·rw[if_pos e,ziv x _ _ 0 (fun y hy=>(ziq hy).1),decide_eq_true e,pvF0]
 ·rw[if_neg e,ziu x _ _ 0 (fun y hy=>(ziq hy).1) (fun y hy=>(zir hy).1),decide_eq_false e,pvF0]
structure LS(t:TM)(inn:Nat→Int):Prop where
 ln: ∀c,c≤9→Lk t 0 (t.rt (3+c)) (lst t.a inn c)
 out: ∀x,x<t.a→inn x<0→t.hd x 3=0∧t.hd x 4=0
 le: ∀x,x<t.a→ -1≤inn x∧inn x≤9
theorem LS.ins{t:TM}{inn:Nat→Int}(h:LS t inn){c x:Nat}(hc:c≤9)(hx:x<t.a)(hn:inn x<0):LS (t.lnk c x (pv (loL inn x c)) (hd1 (hiL t.a inn x c))) (up inn x c):=by
 have hcut:=zil t.a inn x c hx;rw[if_neg (by omega)]at hcut;have hl:=h.ln c hc;have hso:=zin t.a inn c;rw[hcut]at hl hso;have hnd:=zio hso;obtain⟨n1,n2,n3⟩:=List.nodup_append.1 hnd;refine⟨fun d hd=> ?_,fun y hy hyn=> ?_,fun y hy=> ?_⟩
 ·rw[zh8]
  by_cases e:d=c
  ·subst e
   rw[zil t.a _ x d hx,if_pos (zf1 _ _ _),zis,zit];exact zie hl hx (fun hm=>by have:=(ziq hm).1;omega) (fun hm=>by have:=(zir hm).1;omega) (fun y h1 h2=>by have:=(ziq h1).1;have:=(zir h2).1;omega) n1 n2
  ·have e1:lst t.a (up inn x c) d=lst t.a inn d:=by
    rw[zil t.a _ x d hx,zil t.a inn x d hx,zf1,if_neg (by omega),if_neg (by omega),zis,zit]
   rw[e1,zh6,if_neg (by omega)];refine(h.ln d hd).same (zh8 _ _ _ _ _) (fun y hy=> ?_);have hyd:=(zim hy).2;rw[zh7,zh7];have hyx:y≠x:=fun e=>by subst e;omega
   have k1:∀(h0:0<pv (loL inn x c)),y≠pv (loL inn x c)-1:=fun h0 e2=>by have:=(ziq (zig h0 e2)).2;omega
   have k2:∀(h0:0<hd1 (hiL t.a inn x c)),y≠hd1 (hiL t.a inn x c)-1:=fun h0 e2=>by have:=(zir (zih h0 e2)).2.2;omega
   exact⟨by rw[if_neg (fun h=>k1 h.1 h.2.1),if_neg (by omega),if_neg (fun h=>hyx h.1),if_neg (fun h=>hyx h.1)],by rw[if_neg (by omega),if_neg (fun h=>k2 h.1 h.2.1),if_neg (fun h=>hyx h.1),if_neg (fun h=>hyx h.1)]⟩
 ·rw[zh8]at hy
  have hyx:y≠x:=fun e=>by subst e;rw[zf1]at hyn;omega
  rw[zf2 _ _ hyx]at hyn;have k1:∀(h0:0<pv (loL inn x c)),y≠pv (loL inn x c)-1:=fun h0 e2=>by have:=(ziq (zig h0 e2)).2;omega
  have k2:∀(h0:0<hd1 (hiL t.a inn x c)),y≠hd1 (hiL t.a inn x c)-1:=fun h0 e2=>by have:=(zir (zih h0 e2)).2.2;omega
  rw[zh7,zh7];rw[if_neg (fun h=>k1 h.1 h.2.1),if_neg (by omega),if_neg (fun h=>hyx h.1),if_neg (fun h=>hyx h.1),if_neg (by omega),if_neg (fun h=>k2 h.1 h.2.1),if_neg (fun h=>hyx h.1),if_neg (fun h=>hyx h.1)];exact h.out y hy hyn
 ·rw[zh8]at hy
  by_cases e:y=x
  ·rw[e,zf1];omega
  ·rw[zf2 _ _ e];exact h.le y hy
theorem LS.del{t:TM}{inn:Nat→Int}(h:LS t inn){c x:Nat}(hc:c≤9)(hx:x<t.a)(hn:inn x=(c:Int)):LS (t.unl c x (pv (loL inn x c)) (hd1 (hiL t.a inn x c))) (up inn x (-1)):=by
 have hcut:=zil t.a inn x c hx;rw[if_pos hn]at hcut;have hl:=h.ln c hc;have hso:=zin t.a inn c;rw[hcut]at hl hso;have hnd:=zio hso;refine⟨fun d hd=> ?_,fun y hy hyn=> ?_,fun y hy=> ?_⟩
 ·rw[zib]
  by_cases e:d=c
  ·subst e
   rw[zil t.a _ x d hx,zf1,if_neg (by omega),zis,zit];exact zij hl hnd
  ·have e1:lst t.a (up inn x (-1)) d=lst t.a inn d:=by
    rw[zil t.a _ x d hx,zil t.a inn x d hx,zf1,if_neg (by omega),if_neg (by omega),zis,zit]
   rw[e1,zh9,if_neg (by omega)];refine(h.ln d hd).same (zib _ _ _ _ _) (fun y hy=> ?_);have hyd:=(zim hy).2;rw[zia,zia];have hyx:y≠x:=fun e=>by subst e;omega
   have k1:∀(h0:0<pv (loL inn x c)),y≠pv (loL inn x c)-1:=fun h0 e2=>by have:=(ziq (zig h0 e2)).2;omega
   have k2:∀(h0:0<hd1 (hiL t.a inn x c)),y≠hd1 (hiL t.a inn x c)-1:=fun h0 e2=>by have:=(zir (zih h0 e2)).2.2;omega
   exact⟨by rw[if_neg (fun h=>hyx h.1),if_neg (by omega),if_neg (fun h=>k1 h.1 h.2.1)],by rw[if_neg (fun h=>hyx h.1),if_neg (fun h=>k2 h.1 h.2.1),if_neg (by omega)]⟩
 ·rw[zib]at hy
  rw[zia,zia];by_cases hyx:y=x
  ·rw[if_pos ⟨hyx,.inl rfl⟩,if_pos ⟨hyx,.inr rfl⟩];exact⟨rfl,rfl⟩
  ·rw[zf2 _ _ hyx]at hyn
   have k1:∀(h0:0<pv (loL inn x c)),y≠pv (loL inn x c)-1:=fun h0 e2=>by have:=(ziq (zig h0 e2)).2;omega
   have k2:∀(h0:0<hd1 (hiL t.a inn x c)),y≠hd1 (hiL t.a inn x c)-1:=fun h0 e2=>by have:=(zir (zih h0 e2)).2.2;omega
   rw[if_neg (fun h=>hyx h.1),if_neg (by omega),if_neg (fun h=>k1 h.1 h.2.1),if_neg (fun h=>hyx h.1),if_neg (fun h=>k2 h.1 h.2.1),if_neg (by omega)];exact h.out y hy hyn
 ·rw[zib]at hy
  by_cases e:y=x
  ·rw[e,zf1];omega
  ·rw[zf2 _ _ e];exact h.le y hy
theorem LS.next{t:TM}{inn:Nat→Int}(h:LS t inn){c:Nat}(hc:c≤9){l1 l2:List Nat}{y:Nat}(e:lst t.a inn c=l1++y::l2):t.hd y 3=hd1 l2∧t.hd y 4=pv l1:=by
 obtain⟨_,h2⟩:=Lk_iff.1 (h.ln c hc);obtain⟨_,b,d⟩:=h2 l1 y l2 e;exact⟨d,by rw[b,pvF0]⟩
theorem LS.root{t:TM}{inn:Nat→Int}(h:LS t inn){c:Nat}(hc:c≤9):t.rt (3+c)=hd1 (lst t.a inn c):=(Lk_iff.1 (h.ln c hc)).1
theorem LS.behind{t:TM}{inn:Nat→Int}(h:LS t inn){c x:Nat}(hc:c≤9)(hx:x<t.a)(hn:inn x≠(c:Int)):(if 0<pv (loL inn x c)then t.hd (pv (loL inn x c)-1) 3 else t.rt (3+c))=hd1 (hiL t.a inn x c):=by
 have hcut:=zil t.a inn x c hx;rw[if_neg hn]at hcut;by_cases h0:loL inn x c= []
 ·rw[if_neg (by rw[h0];decide),h.root hc,hcut,h0];rfl
 ·rw[if_pos (zii h0)]
  obtain⟨l',z,e1,e2⟩:=zic (zii h0);rw[e2,Nat.add_sub_cancel];exact(h.next hc (l1:=l') (by rw[hcut,e1];simp)).1
section
section
variable{w:World}{q:MH}{t:TM}
theorem zix(h:IsT w q t)(c p n:Nat)(hc:c≤9)(hp:p≤t.a)(hn:n<4294967296):Calls prog 261 #[q,c,p,n] w (zR (.tuple #[]) fun w'=>IsT w' q (t.after c p n)∧Fr q.blocks w w'):=by
 have ha:=(zhd h.ok).1;have u1:=zaw n (by omega);by_cases h0:0<p
 ·have b1:=dT ((0:Int)<p)
  have b1':=dT (0<p);have w1:=i6 ((p:Int)-1);have hput:=zhj h (p-1) 3 n (by omega) (by decide) hn 8 4 n rfl rfl rfl ((p:Int)-1) (by omega);have e:t.after c p n=t.setHd (p-1) 3 n:=by unfold TM.after;rw[if_pos h0]
  rw[e];generalize t.setHd (p-1) 3 n=t' at*;clear h e hp hn ha h0;go_in;go_wp2_with fail;go_call hput as e w1 ⟨rfl,h1,f1⟩;clear hput;go_wp2_with fail;refine bodyPost_ret (results_none rfl _ _ _) rfl ?_;exact⟨rfl,h1,f1⟩
 ·have b1:=dF ((0:Int)<p)
  have b1':=dF (0<p);have w1:=i6 (3+(c:Int));have hput:=zgx h (3+c) (by omega) n (by unfold fldW;rw[if_neg (by omega)];exact hn) (3+(c:Int)) (by omega) n rfl;have e:t.after c p n=t.setRt (3+c) n:=by unfold TM.after;rw[if_neg h0]
  rw[e];generalize t.setRt (3+c) n=t' at*;clear h e hp hn ha h0;go_in;go_wp2_with fail;go_call hput as e w1 ⟨rfl,h1,f1⟩;clear hput;go_wp2;go_end0;exact⟨rfl,h1,f1⟩
theorem ziy(h:IsT w q t)(c x p n:Nat)(hc:c≤9)(hx:x<t.a)(hp:p≤t.a)(hn:n≤t.a):Calls prog 159 #[q,c,x,p,n] w (zR (.tuple #[]) fun w'=>IsT w' q (t.lnk c x p n)∧Fr q.blocks w w'):=by
 have ha:=(zhd h.ok).1;have u1:=zaw n (by omega);have u2:=zaw p (by omega);have u3:IntKind.u64.wrap ((x:Int)+1)=(x:Int)+1:=zaw (x+1) (by omega);have w2:=i6 ((x:Int)+1);have hput1:=zhj h x 4 p hx (by decide) (show p<4294967296 by omega) 12 4 p rfl rfl rfl x rfl;have hput2:=hid (fun W hW=>zhj (w:=W) (q:=q) (t:=t.setHd x 4 p) hW x 3 n hx (by decide) (show n<4294967296 by omega) 8 4 n rfl rfl rfl x rfl);have hx1:((x:Int)+1)=((x+1:Nat):Int):=rfl;by_cases h0:0<n
 ·have b1:=dT ((0:Int)<n)
  have b1':=dT (0<n);have w1:=i6 ((n:Int)-1);have hput3:=hid (fun W hW=>zhj (w:=W) (q:=q) (t:=(t.setHd x 4 p).setHd x 3 n) hW (n-1) 4 (x+1) (show n-1<t.a by omega) (by decide) (show x+1<4294967296 by omega) 12 4 ((x:Int)+1) rfl rfl rfl ((n:Int)-1) (by omega));have hput4:=hid (fun W hW=>zix (w:=W) (q:=q) (t:=((t.setHd x 4 p).setHd x 3 n).setHd (n-1) 4 (x+1)) hW c p (x+1) hc (show p≤t.a from hp) (by omega));have e:t.lnk c x p n=(((t.setHd x 4 p).setHd x 3 n).setHd (n-1) 4 (x+1)).after c p (x+1):=by unfold TM.lnk;dsimp only;rw[if_pos h0]
  rw[e];rw[←hx1]at hput4;generalize(((t.setHd x 4 p).setHd x 3 n).setHd (n-1) 4 (x+1)).after c p (x+1)=t4 at*;generalize((t.setHd x 4 p).setHd x 3 n).setHd (n-1) 4 (x+1)=t3 at*;generalize(t.setHd x 4 p).setHd x 3 n=t2 at*;generalize t.setHd x 4 p=t1 at*;clear h e hp hn ha h0 hx1 hx;go_in;go_wp2_with fail;go_call hput1 as e w1 ⟨rfl,h1,f1⟩;clear hput1;go_wp2_with fail;go_call hput2.out _ h1 as e w2 ⟨rfl,h2,f2⟩;have F2:=f1.trans f2;clear hput2 h1 f1 f2;go_wp2_with fail;go_call hput3.out _ h2 as e w3 ⟨rfl,h3,f3⟩;have F3:=F2.trans f3;clear hput3 h2 f3;go_wp2_with fail;go_call hput4.out _ h3 as e w4 ⟨rfl,h4,f4⟩;have F4:=F3.trans f4;clear hput4 h3 f4;go_wp2;go_end0;exact⟨rfl,h4,F4⟩
 ·have b1:=dF ((0:Int)<n)
  have b1':=dF (0<n);have hput4:=hid (fun W hW=>zix (w:=W) (q:=q) (t:=((t.setHd x 4 p).setHd x 3 n)) hW c p (x+1) hc (show p≤t.a from hp) (by omega));have e:t.lnk c x p n=(((t.setHd x 4 p).setHd x 3 n)).after c p (x+1):=by unfold TM.lnk;dsimp only;rw[if_neg h0]
  rw[e];rw[←hx1]at hput4;generalize(((t.setHd x 4 p).setHd x 3 n)).after c p (x+1)=t4 at*;generalize(t.setHd x 4 p).setHd x 3 n=t2 at*;generalize t.setHd x 4 p=t1 at*;clear h e hp hn ha h0 hx1 hx;go_in;go_wp2_with fail;go_call hput1 as e w1 ⟨rfl,h1,f1⟩;clear hput1;go_wp2_with fail;go_call hput2.out _ h1 as e w2 ⟨rfl,h2,f2⟩;have F2:=f1.trans f2;clear hput2 h1 f1 f2;go_wp2_with fail;go_call hput4.out _ h2 as e w4 ⟨rfl,h4,f4⟩;have F4:=F2.trans f4;clear hput4 h2 f4;go_wp2;go_end0;exact⟨rfl,h4,F4⟩
def ziz(a:Nat)(c x:Int):Nat:=if¬(0≤c∧c≤9)then 2 else if¬(0≤x∧x<a)then 6 else 0
theorem zi0(h:IsT w q t)(c x:Int):Calls prog 236 #[q,c,x] w (zN (ziz t.a c x) w):=by
 have hma:=zhg h;have hi:=fun W=>liis W c;have HT:=h;have hh:=fun W hW=>zhh (w:=W) (q:=q) (t:=t) hW x;unfold ziz;by_cases h1:0≤c∧c≤9
 ·rw[decide_eq_true h1]at hi
  rw[if_neg (fun h=>h h1)];by_cases h2:0≤x∧x<(t.a:Int)
  ·rw[decide_eq_true h2]at hh
   rw[if_neg (fun h=>h h2)];generalize t.a=a at*;clear h h1 h2;go_in;go_wp2_with fail;go_call hma as e w1 ⟨rfl,f1⟩;have H1:=HT.fr0 f1;clear hma;go_wp2_with fail;go_call hi _ as e w2 ⟨rfl,rfl⟩;go_wp2_with fail;go_call hh _ H1 as e w3 ⟨rfl,f3⟩;have F3:=f1.trans f3;clear f1 f3;go_wp2;go_ret;exact⟨rfl,F3⟩
  ·rw[decide_eq_false h2]at hh
   rw[if_pos h2];generalize t.a=a at*;clear h h1 h2;go_in;go_wp2_with fail;go_call hma as e w1 ⟨rfl,f1⟩;have H1:=HT.fr0 f1;clear hma;go_wp2_with fail;go_call hi _ as e w2 ⟨rfl,rfl⟩;go_wp2_with fail;go_call hh _ H1 as e w3 ⟨rfl,f3⟩;have F3:=f1.trans f3;clear f1 f3;go_wp2;go_ret;exact⟨rfl,F3⟩
 ·rw[decide_eq_false h1]at hi
  rw[if_pos h1];clear h h1 hh HT;go_in;go_wp2_with fail;go_call hma as e w1 ⟨rfl,f1⟩;clear hma;go_wp2_with fail;go_call hi _ as e w2 ⟨rfl,rfl⟩;go_wp2;go_ret;exact⟨rfl,f1⟩
end
variable{w:World}{q:MH}{t:TM}{inn:Nat→Int}
theorem zi1(h:IsT w q t)(hl:LS t inn)(c x:Nat)(hc:c≤9)(hx:x<t.a):Calls prog 237 #[q,c,x] w (zR (.tuple #[.bool (decide (inn x=(c:Int))),.int .i64 (pv (loL inn x c))]) fun w'=>IsT w' q t∧Fr q.blocks w w'):=by
 have:=callsIn_wide.1 (zht 4 (Nat.le_refl 4) w q t h c hc (lst t.a inn c) (hl.ln c hc) (zin t.a inn c) x);rw[ziw t.a inn x c hx]at this;exact this
def zi2(t:TM)(inn:Nat→Int)(c:Int):Int:=if 0≤c∧c≤9 then(hd1 (lst t.a inn c.toNat):Int)-1 else-1
theorem zi3(a:Nat)(inn:Nat→Int)(c:Nat):hd1 (lst a inn c)≤a:=by
 rcases h:lst a inn c with _|⟨x,l⟩
 ·exact Nat.zero_le _
 ·have:=(zim (a:=a) (inn:=inn) (c:=c) (y:=x) (by rw[h];simp)).1
  exact this
theorem zi4(h:IsT w q t)(hl:LS t inn)(c:Int):Calls prog 122 #[q,c] w (zR (zi2 t inn c) fun w'=>IsT w' q t∧Fr q.blocks w w'):=by
 have hma:=zhg h;have hi:=fun W=>liis W c;unfold zi2;by_cases h1:0≤c∧c≤9
 ·rw[decide_eq_true h1]at hi
  rw[if_pos h1];have hf:=fun W hW=>zhk (w:=W) (q:=q) (t:=t) hW c.toNat (by omega) c (by omega);rw[hl.root (by omega:c.toNat≤9)]at hf;have hb:=zi3 t.a inn c.toNat;have ha:=(zhd h.ok).1;generalize hd1 (lst t.a inn c.toNat)=v at*;have w1:=i6 ((v:Int)-1);clear h1 hl hb ha;go_in;go_wp2_with fail;go_call hma as e w1 ⟨rfl,f1⟩;have H1:=h.fr0 f1;clear hma;go_wp2_with fail;go_call hi _ as e w2 ⟨rfl,rfl⟩;go_wp2_with fail;go_call hf _ H1 as e w3 ⟨rfl,h3,f3⟩;have F3:=f1.nil.trans f3;clear f1 f3;go_wp2;go_ret;exact⟨rfl,h3,F3⟩
 ·rw[decide_eq_false h1]at hi
  rw[if_neg h1];clear h1 hl;go_in;go_wp2_with fail;go_call hma as e w1 ⟨rfl,f1⟩;clear hma;go_wp2_with fail;go_call hi _ as e w2 ⟨rfl,rfl⟩;go_wp2;go_ret;exact⟨rfl,h.fr0 f1,f1.nil⟩
end
section
variable{w:World}{q:MH}{t:TM}{inn:Nat→Int}
theorem zi5(h:IsT w q t)(c x:Int)(hr:ziz t.a c x≠0):Calls prog 133 #[q,c,x] w (zN (ziz t.a c x) w):=by
 have hR:=zi0 h c x;generalize ziz t.a c x=r at*;have b1:((r:Int)==0)=false:=by simp;omega
 have b2:((r:Int) !=0)=true:=by simp;omega
 clear h hr;go_in;go_wp2_with fail;go_call hR as e w1 ⟨rfl,f1⟩;clear hR;go_wp2;go_ret;exact⟨rfl,f1⟩
theorem zi6(h:IsT w q t)(c x:Int)(hr:ziz t.a c x≠0):Calls prog 201 #[q,c,x] w (zN (ziz t.a c x) w):=by
 have hR:=zi0 h c x;generalize ziz t.a c x=r at*;have b1:((r:Int)==0)=false:=by simp;omega
 have b2:((r:Int) !=0)=true:=by simp;omega
 clear h hr;go_in;go_wp2_with fail;go_call hR as e w1 ⟨rfl,f1⟩;clear hR;go_wp2;go_ret;exact⟨rfl,f1⟩
theorem zi7{a c x:Nat}(hc:c≤9)(hx:x<a):ziz a c x=0:=by
 unfold ziz;rw[if_neg (by omega),if_neg (by omega)]
theorem zi8(h:IsT w q t)(hl:LS t inn)(c x:Nat)(hc:c≤9)(hx:x<t.a)(hn:0≤inn x):Calls prog 133 #[q,c,x] w (zR (8:Int) fun w'=>IsT w' q t∧Fr q.blocks w w'):=by
 have hR:=zi0 h c x;rw[zi7 hc hx]at hR;have HW:=hid (fun W hW d hd=>zi1 (w:=W) (q:=q) (t:=t) (inn:=inn) hW hl d x hd hx);obtain⟨k,hk,hkk⟩:∃k:Nat,k≤9∧inn x=(k:Int):=⟨(inn x).toNat,by have:=hl.le x hx;omega,by omega⟩;clear hc hn hl hx;go_in;go_wp2_with fail;go_call hR as e w1 ⟨rfl,f1⟩;have H1:=h.fr0 f1;have F1:=f1.nil (S:=q.blocks);clear hR f1;go_wp2;go_loopw [21] (fun v W=>∃j:Nat,j≤k∧v= .int .i64 j∧IsT W q t∧Fr q.blocks w W) (fun v _=>10-(intOf v).toNat);case atStart=>exact⟨0,by omega,rfl,H1,F1⟩
 case round=>
  obtain⟨j,hj,rfl,hI,hF⟩:=hrel;have hw:=HW.out _ hI j (by omega);have b0:=dT ((j:Int)<10);have b0':=dT (j<10);clear hI;generalize pv (loL inn x j)=p at*;by_cases e:j=k
  ·rw[decide_eq_true (show inn x=(j:Int)by rw[hkk,e])]at hw
   clear e hj hkk;go_wp2_with fail;go_call hw as e w2 ⟨rfl,h2,f2⟩;have F2:=hF.trans f2;clear f2 hw;go_wp2;go_ret;exact⟨rfl,h2,F2⟩
  ·rw[decide_eq_false (show¬inn x=(j:Int)by rw[hkk];omega)]at hw
   have w1:=i6 ((j:Int)+1);clear hkk;go_wp2_with fail;go_call hw as e w2 ⟨rfl,h2,f2⟩;have F2:=hF.trans f2;clear f2 hw;go_wp2;exact⟨⟨j+1,by omega,by go_num,h2,F2⟩,by simp[intOf];omega⟩
theorem zi9(h:IsT w q t)(hl:LS t inn)(c x:Nat)(hc:c≤9)(hx:x<t.a)(hn:inn x<0):Calls prog 133 #[q,c,x] w (zR (0:Int) fun w'=>IsT w' q (t.lnk c x (pv (loL inn x c)) (hd1 (hiL t.a inn x c)))∧Fr q.blocks w w'):=by
 have hR:=zi0 h c x;rw[zi7 hc hx]at hR
 have HW:=hid (fun W hW d hd=>by
  have:=zi1 (w:=W) (q:=q) (t:=t) (inn:=inn) hW hl d x hd hx;rw[decide_eq_false (by omega)]at this;exact this)
 have HF1:=hid (fun W hW=>zhk (w:=W) (q:=q) (t:=t) hW c hc c rfl);have hb:=hl.behind hc hx (c:=c) (by omega)
 have hpa:pv (loL inn x c)≤t.a:=by
  by_cases h0:loL inn x c= []
  ·rw[h0];exact Nat.zero_le _
  ·have:=zig (zii h0) rfl
   have:=(ziq this).1;omega
 have hna:hd1 (hiL t.a inn x c)≤t.a:=by
  by_cases h0:0<hd1 (hiL t.a inn x c)
  ·have:=(zir (zih h0 rfl)).2.1
   omega
  ·omega
 have HL:=hid (fun W hW=>ziy (w:=W) (q:=q) (t:=t) hW c x (pv (loL inn x c)) (hd1 (hiL t.a inn x c)) hc hx hpa hna);have HP:=hid (fun W hW (h0:0<pv (loL inn x c))=>zhi (w:=W) (q:=q) (t:=t) hW (pv (loL inn x c)-1) 3 (by omega) (by decide) 8 4 rfl rfl);have ha64:=(zhd h.ok).1;have hpp:pv (loL inn x c)=pv (loL inn x c):=rfl;generalize t.lnk c x (pv (loL inn x c)) (hd1 (hiL t.a inn x c))=t' at*;generalize hpe:pv (loL inn x c)=p at*;generalize hd1 (hiL t.a inn x c)=n at*;clear hn hl hpp hna;go_in;go_wp2_with fail;go_call hR as e w1 ⟨rfl,f1⟩;have H1:=h.fr0 f1;have F1:=f1.nil (S:=q.blocks);clear hR f1;go_wp2;go_loopw [21] (fun v W=>∃j:Nat,j≤10∧v= .int .i64 j∧IsT W q t∧Fr q.blocks w W) (fun v _=>10-(intOf v).toNat);case atStart=>exact⟨0,by omega,rfl,H1,F1⟩
 case round=>
  obtain⟨j,hj,rfl,hI,hF⟩:=hrel;by_cases e:j<10
  ·have hw:=HW.out _ hI j (by omega)
   have b0:=dT ((j:Int)<10);have b0':=dT (j<10);have w1:=i6 ((j:Int)+1);clear hI hb;generalize pv (loL inn x j)=pj at*;go_wp2_with fail;go_call hw as e w2 ⟨rfl,h2,f2⟩;have F2:=hF.trans f2;clear f2 hw;go_wp2;exact⟨⟨j+1,by omega,by go_num,h2,F2⟩,by simp[intOf];omega⟩
  ·obtain rfl:j=10:=by omega
   have hw:=HW.out _ hI c hc;rw[hpe]at hw;clear hI hj e;by_cases h0:0<p
   ·have b1:=dT ((0:Int)<p)
    have b1':=dT (0<p);rw[if_pos h0]at hb;have e1:(((p-1:Nat):Int))=(p:Int)-1:=by omega
    have w1:=i6 ((p:Int)-1);have hp3:=hid (fun W hW=>by have:=HP.out W hW h0;rw[hb,e1]at this;exact this);clear hb hx hc h0 hpa;go_wp2_with fail;go_call hw as e w2 ⟨rfl,h2,f2⟩;have F2:=hF.trans f2;clear f2 hw;go_wp2_with fail;go_call HF1.out _ h2 as e w3 ⟨rfl,h3,f3⟩;have F3:=F2.trans f3;clear f3;go_wp2_with fail;go_call hp3.out _ h3 as e w4 ⟨rfl,h4,f4⟩;have F4:=F3.trans f4;clear f4 h3;go_wp2_with fail;go_call HL.out _ h4 as e w5 ⟨rfl,h5,f5⟩;have F5:=F4.trans f5;clear f5 h4;go_wp2;go_ret;exact⟨rfl,h5,F5⟩
   ·have b1:=dF ((0:Int)<p)
    have b1':=dF (0<p);rw[if_neg h0]at hb;have hf1:=hid (fun W hW=>by have:=HF1.out W hW;rw[hb]at this;exact this);clear hb hx hc h0 hpa HF1;go_wp2_with fail;go_call hw as e w2 ⟨rfl,h2,f2⟩;have F2:=hF.trans f2;clear f2 hw;go_wp2_with fail;go_call hf1.out _ h2 as e w3 ⟨rfl,h3,f3⟩;have F3:=F2.trans f3;clear f3;go_wp2_with fail;go_call HL.out _ h3 as e w5 ⟨rfl,h5,f5⟩;have F5:=F3.trans f5;clear f5 h3;go_wp2;go_ret;exact⟨rfl,h5,F5⟩
theorem zja(h:IsT w q t)(hl:LS t inn)(c x:Nat)(hc:c≤9)(hx:x<t.a)(hn:inn x≠(c:Int)):Calls prog 201 #[q,c,x] w (zR (7:Int) fun w'=>IsT w' q t∧Fr q.blocks w w'):=by
 have hR:=zi0 h c x;rw[zi7 hc hx]at hR
 have HW:=hid (fun W hW=>by
  have:=zi1 (w:=W) (q:=q) (t:=t) (inn:=inn) hW hl c x hc hx;rw[decide_eq_false hn]at this;exact this)
 generalize pv (loL inn x c)=p at*;clear hn hl;go_in;go_wp2_with fail;go_call hR as e w1 ⟨rfl,f1⟩;have H1:=h.fr0 f1;have F1:=f1.nil (S:=q.blocks);clear hR f1;go_wp2_with fail;go_call HW.out _ H1 as e w2 ⟨rfl,h2,f2⟩;have F2:=F1.trans f2;clear f2;go_wp2;go_ret;exact⟨rfl,h2,F2⟩
theorem zjb(h:IsT w q t)(hl:LS t inn)(c x:Nat)(hc:c≤9)(hx:x<t.a)(hn:inn x=(c:Int)):Calls prog 201 #[q,c,x] w (zR (0:Int) fun w'=>IsT w' q (t.unl c x (pv (loL inn x c)) (hd1 (hiL t.a inn x c)))∧Fr q.blocks w w'):=by
 have hR:=zi0 h c x;rw[zi7 hc hx]at hR
 have HW:=hid (fun W hW=>by
  have:=zi1 (w:=W) (q:=q) (t:=t) (inn:=inn) hW hl c x hc hx;rw[decide_eq_true hn]at this;exact this)
 have hcut:=zil t.a inn x c hx;rw[if_pos hn]at hcut;have hb:=(hl.next hc hcut).1
 have hpa:pv (loL inn x c)≤t.a:=by
  by_cases h0:loL inn x c= []
  ·rw[h0];exact Nat.zero_le _
  ·have:=zig (zii h0) rfl
   have:=(ziq this).1;omega
 have hna:hd1 (hiL t.a inn x c)≤t.a:=by
  by_cases h0:0<hd1 (hiL t.a inn x c)
  ·have:=(zir (zih h0 rfl)).2.1
   omega
  ·omega
 have ha64:=(zhd h.ok).1
 have HP:=hid (fun W hW=>by
  have:=zhi (w:=W) (q:=q) (t:=t) hW x 3 hx (by decide) 8 4 rfl rfl;rw[hb]at this;exact this)
 generalize hpe:pv (loL inn x c)=p at*;generalize hne:hd1 (hiL t.a inn x c)=n at*;have HA:=hid (fun W hW=>zix (w:=W) (q:=q) (t:=t) hW c p n hc hpa (by omega));have u1:=zaw p (by omega);by_cases h0:0<n
 ·have b1:=dT ((0:Int)<n)
  have b1':=dT (0<n);have w1:=i6 ((n:Int)-1);have hput3:=hid (fun W hW=>zhj (w:=W) (q:=q) (t:=t.after c p n) hW (n-1) 4 p (by rw[zh5];omega) (by decide) (show p<4294967296 by omega) 12 4 p rfl rfl rfl ((n:Int)-1) (by omega));have hput4:=hid (fun W hW=>zhj (w:=W) (q:=q) (t:=(t.after c p n).setHd (n-1) 4 p) hW x 3 0 (show x<(t.after c p n).a by rw[zh5];exact hx) (by decide) (by decide) 8 4 0 rfl rfl rfl x rfl);have hput5:=hid (fun W hW=>zhj (w:=W) (q:=q) (t:=((t.after c p n).setHd (n-1) 4 p).setHd x 3 0) hW x 4 0 (show x<(t.after c p n).a by rw[zh5];exact hx) (by decide) (by decide) 12 4 0 rfl rfl rfl x rfl);have e:t.unl c x p n=(((t.after c p n).setHd (n-1) 4 p).setHd x 3 0).setHd x 4 0:=by unfold TM.unl;dsimp only;rw[if_pos h0]
  rw[e];generalize(((t.after c p n).setHd (n-1) 4 p).setHd x 3 0).setHd x 4 0=t4 at*;generalize((t.after c p n).setHd (n-1) 4 p).setHd x 3 0=t3 at*;generalize(t.after c p n).setHd (n-1) 4 p=t2 at*;generalize t.after c p n=t1 at*;clear hn hl hcut hb hpa hna e hx h0 hc;go_in;go_wp2_with fail;go_call hR as e w1 ⟨rfl,f1⟩;have H1:=h.fr0 f1;have F1:=f1.nil (S:=q.blocks);clear hR f1;go_wp2_with fail;go_call HW.out _ H1 as e w2 ⟨rfl,h2,f2⟩;have F2:=F1.trans f2;clear f2;go_wp2_with fail;go_call HP.out _ h2 as e w3 ⟨rfl,h3,f3⟩;have F3:=F2.trans f3;clear f3;go_wp2_with fail;go_call HA.out _ h3 as e w4 ⟨rfl,h4,f4⟩;have F4:=F3.trans f4;clear f4 h3;go_wp2_with fail;go_call hput3.out _ h4 as e w5 ⟨rfl,h5,f5⟩;have F5:=F4.trans f5;clear f5 h4;go_wp2_with fail;go_call hput4.out _ h5 as e w6 ⟨rfl,h6,f6⟩;have F6:=F5.trans f6;clear f6 h5;go_wp2_with fail;go_call hput5.out _ h6 as e w7 ⟨rfl,h7,f7⟩;have F7:=F6.trans f7;clear f7 h6;go_wp2;go_ret;exact⟨rfl,h7,F7⟩
 ·have b1:=dF ((0:Int)<n)
  have b1':=dF (0<n);have hput4:=hid (fun W hW=>zhj (w:=W) (q:=q) (t:=(t.after c p n)) hW x 3 0 (show x<(t.after c p n).a by rw[zh5];exact hx) (by decide) (by decide) 8 4 0 rfl rfl rfl x rfl);have hput5:=hid (fun W hW=>zhj (w:=W) (q:=q) (t:=((t.after c p n)).setHd x 3 0) hW x 4 0 (show x<(t.after c p n).a by rw[zh5];exact hx) (by decide) (by decide) 12 4 0 rfl rfl rfl x rfl);have e:t.unl c x p n=(((t.after c p n)).setHd x 3 0).setHd x 4 0:=by unfold TM.unl;dsimp only;rw[if_neg h0]
  rw[e];generalize(((t.after c p n)).setHd x 3 0).setHd x 4 0=t4 at*;generalize((t.after c p n)).setHd x 3 0=t3 at*;generalize t.after c p n=t1 at*;clear hn hl hcut hb hpa hna e hx h0 hc;go_in;go_wp2_with fail;go_call hR as e w1 ⟨rfl,f1⟩;have H1:=h.fr0 f1;have F1:=f1.nil (S:=q.blocks);clear hR f1;go_wp2_with fail;go_call HW.out _ H1 as e w2 ⟨rfl,h2,f2⟩;have F2:=F1.trans f2;clear f2;go_wp2_with fail;go_call HP.out _ h2 as e w3 ⟨rfl,h3,f3⟩;have F3:=F2.trans f3;clear f3;go_wp2_with fail;go_call HA.out _ h3 as e w4 ⟨rfl,h4,f4⟩;have F4:=F3.trans f4;clear f4 h3;go_wp2_with fail;go_call hput4.out _ h4 as e w6 ⟨rfl,h6,f6⟩;have F6:=F4.trans f6;clear f6 h4;go_wp2_with fail;go_call hput5.out _ h6 as e w7 ⟨rfl,h7,f7⟩;have F7:=F6.trans f7;clear f7 h6;go_wp2;go_ret;exact⟨rfl,h7,F7⟩
end
def TM.zHd(t:TM):TM:={t with hd:=fun i p=>if i<t.a then 0 else t.hd i p}
theorem zjc{t:TM}(h:t.Ok):t.zHd.Ok:=⟨h.cfg,h.rt,fun i p=>by
 show(if i<t.a then 0 else t.hd i p)<_;split
 ·exact Nat.pow_pos (by decide)
 ·exact h.hd i p,h.sl,h.bt,h.kd⟩
theorem zjd{t:TM}(h:t.Ok)(i:Nat):zfz t.zHd i=if 128≤i∧i<128+16*t.a then 0 else zfz t i:=by
 have hz:=zge h.cfg;by_cases h1:i<128
 ·rw[if_neg (by omega)]
  unfold zfz;rw[if_pos h1,if_pos h1];rfl
 ·by_cases h2:i<zdu t.a
  ·rw[if_pos (by omega)]
   unfold zfz;rw[if_neg h1,if_pos (show i<zdu t.zHd.a from h2)];unfold zfy;show nb (if(i-128)/16<t.a then 0 else _) _=0;rw[if_pos (by omega),nb_0]
  ·rw[if_neg (by omega)]
   unfold zfz;rw[if_neg h1,if_neg h1,if_neg h2,if_neg (show¬i<zdu t.zHd.a from h2)];rfl
theorem zje{t:TM}(h:t.Ok)(i:Nat)(hi:i<16*t.a):mayL t.ms.ks ((128+i:Nat):Int) 1 ((3:Nat):Int)=true:=by
 have hz:=zge h.cfg;have h4:=zf9 t.a t.s;refine zf4 _ (128+i) 1 3 (.inl rfl) (Nat.mod_one _) (by decide) (by show _≤4*t.kinds.length;rw[TM.kinds_len];omega) (fun g h1 h2=> ?_);refine(TM.kinds_get t g (by omega)).trans ?_;unfold zf0;rw[if_neg (by omega),if_neg (by omega),if_pos (by omega)]
theorem zjf{w:World}{q:MH}{t:TM}(h:IsT w q t)(n:Int)(hn:n=((16*t.a:Nat):Int)):Calls prog 76 #[q,(128:Int),n,(3:Int)] w (zR true fun w'=>IsT w' q t.zHd∧Fr q.blocks w w'):=by
 subst hn;have hz:=zge h.ok.cfg;have hl:t.ms.l.length=zdw t.a t.s:=TM.bytes_len t;have hE:128+16*t.a≤t.ms.l.length:=by rw[hl];omega
 have:=zfw w q t.ms h.m 128 (16*t.a) 3 hE (fun i hi=>zje h.ok i hi);refine this.mono fun e w' ⟨he,hm,hf⟩=>⟨he,⟨zjc h.ok,?_,h.tab.fr hf.pwga h.hi,h.hi⟩,hf.pwga⟩
 have e1:spl t.ms.l 128 (List.replicate (16*t.a) 0)=t.zHd.bytes:=by
  apply List.ext_getElem?;intro i;have hle:(spl t.ms.l 128 (List.replicate (16*t.a) 0)).length=t.ms.l.length:=zda _ _ _ (by rw[List.length_replicate];exact hE);have hle2:t.zHd.bytes.length=zdw t.a t.s:=TM.bytes_len _;rcases Nat.lt_or_ge i (zdw t.a t.s)with hi|hi
  ·have g1:=zdb t.ms.l 128 (List.replicate (16*t.a) 0) (by rw[List.length_replicate];exact hE) i
   have g2:t.zHd.bytes[i]?.getD 0=zfz t.zHd i:=TM.bytes_get t.zHd i hi;have g3:t.ms.l[i]?.getD 0=zfz t i:=TM.bytes_get t i hi;rw[zjd h.ok]at g2;rw[g3,List.length_replicate]at g1;have h1:i<(spl t.ms.l 128 (List.replicate (16*t.a) 0)).length:=by rw[hle,hl];exact hi
   have h2:i<t.zHd.bytes.length:=by rw[hle2];exact hi
   have g4:(spl t.ms.l 128 (List.replicate (16*t.a) 0))[i]?.getD 0=t.zHd.bytes[i]?.getD 0:=by
    rw[g1,g2];by_cases hh:128≤i∧i<128+16*t.a
    ·rw[if_pos hh,if_pos hh,List.getElem?_replicate,if_pos (by omega)];rfl
    ·rw[if_neg hh,if_neg hh]
   rw[List.getElem?_eq_getElem h1,List.getElem?_eq_getElem h2]at g4⊢;simpa using g4
  ·rw[List.getElem?_eq_none (by rw[hle,hl];exact hi),List.getElem?_eq_none (by rw[hle2];exact hi)]
 rw[e1]at hm;exact hm
def TM.zRt(t:TM)(k:Nat):TM:={t with rt:=fun f=>if 3≤f∧f<3+k then 0 else t.rt f}
theorem zjg(t:TM):t.zRt 0=t:=by
 unfold TM.zRt;have:(fun f=>if 3≤f∧f<3+0 then 0 else t.rt f)=t.rt:=funext fun f=>if_neg (by omega);rw[this]
theorem zjh(t:TM)(k:Nat):(t.zRt k).setRt (3+k) 0=t.zRt (k+1):=by
 have:(up (t.zRt k).rt (3+k) 0)=(t.zRt (k+1)).rt:=funext fun f=>by
  show up (fun f=>if 3≤f∧f<3+k then 0 else t.rt f) (3+k) 0 f=if 3≤f∧f<3+(k+1)then 0 else t.rt f;by_cases e:f=3+k
  ·rw[e,zf1,if_pos (by omega)]
  ·rw[zf2 _ _ e]
   by_cases h:3≤f∧f<3+k
   ·rw[if_pos h,if_pos (by omega)]
   ·rw[if_neg h,if_neg (by omega)]
 unfold TM.setRt;rw[this];rfl
def TM.beg(t:TM):Nat→TM
 |0=>t.zHd.zRt 10
 |k+1=>(t.beg k).lnk 0 (t.a-1-k) 0 ((t.beg k).rt 3)
theorem zji(t:TM):∀k,(t.beg k).a=t.a
 |0=>rfl
 |k+1=>by rw[TM.beg,zh8];exact zji t k
def innB(a k:Nat)(x:Nat):Int:=if a-k≤x then 0 else-1
theorem LS.congr{t:TM}{i j:Nat→Int}(h:LS t i)(e:∀x,x<t.a→j x=i x):LS t j:=by
 have e1:∀c,lst t.a j c=lst t.a i c:=fun c=>by
  unfold lst;exact List.filter_congr fun x hx=>by rw[e x (List.mem_range.1 hx)]
 exact⟨fun c hc=>by rw[e1];exact h.ln c hc,fun x hx hn=>h.out x hx (by rw[←e x hx];exact hn),fun x hx=>by rw[e x hx];exact h.le x hx⟩
theorem zjj(t:TM):∀k,k≤t.a→LS (t.beg k) (innB t.a k)
 |0,_=>by
  have e:∀c,lst t.a (innB t.a 0) c= [] :=fun c=>by
   unfold lst;rw[List.filter_eq_nil_iff];intro x hx;have:=List.mem_range.1 hx;unfold innB;rw[if_neg (by omega)];simp
  refine⟨fun c hc=> ?_,fun x hx _=> ?_,fun x _=> ?_⟩
  ·show Lk _ 0 _ (lst t.a (innB t.a 0) c)
   rw[e];show(if 3≤3+c∧3+c<3+10 then 0 else _)=0;rw[if_pos (by omega)]
  ·have hx':x<t.a:=hx
   show(if x<t.a then 0 else _)=0∧(if x<t.a then 0 else _)=0;rw[if_pos hx',if_pos hx'];exact⟨rfl,rfl⟩
  ·unfold innB;split<;>omega
 |k+1,hk=>by
  have ih:=zjj t k (by omega);have ha:=zji t k;have hx:t.a-1-k<(t.beg k).a:=by rw[ha];omega
  have hn:innB t.a k (t.a-1-k)<0:=by unfold innB;rw[if_neg (by omega)];omega
  have hlo:loL (innB t.a k) (t.a-1-k) 0= [] :=by
   unfold loL;rw[List.filter_eq_nil_iff];intro x hx;have:=List.mem_range.1 hx;unfold innB;rw[if_neg (by omega)];simp
  have h1:=ih.ins (c:=0) (by decide) hx hn;have h2:=ih.behind (c:=0) (by decide) hx (by omega);rw[hlo,if_neg (by decide)]at h2;rw[hlo,←h2]at h1;rw[TM.beg];refine h1.congr fun x hx'=> ?_;have hx2:x<t.a:=by rw[zh8,ha]at hx';exact hx'
  unfold innB;by_cases e:x=t.a-1-k
  ·rw[e,zf1,if_pos (by omega)];rfl
  ·rw[zf2 _ _ e]
   by_cases h:t.a-k≤x
   ·rw[if_pos h,if_pos (by omega)]
   ·rw[if_neg h,if_neg (by omega)]
structure Lis(t u:TM):Prop where
 a:u.a=t.a
 s:u.s=t.s
 sl:u.sl=t.sl
 bt:u.bt=t.bt
 kd:u.kd=t.kd
 ft:u.ft=t.ft
 hd: ∀y r,r≠3→r≠4→u.hd y r=t.hd y r
 rt: ∀f,f<3∨12<f→u.rt f=t.rt f
theorem Lis.refl(t:TM):Lis t t:=⟨rfl,rfl,rfl,rfl,rfl,rfl,fun _ _ _ _=>rfl,fun _ _=>rfl⟩
theorem Lis.trans{t u v:TM}(h:Lis t u)(k:Lis u v):Lis t v:=
 ⟨k.a.trans h.a,k.s.trans h.s,k.sl.trans h.sl,k.bt.trans h.bt,k.kd.trans h.kd,k.ft.trans h.ft,fun y r h1 h2=>(k.hd y r h1 h2).trans (h.hd y r h1 h2),fun f hf=>(k.rt f hf).trans (h.rt f hf)⟩
theorem zjk(t:TM)(x r v:Nat)(h:r=3∨r=4):Lis t (t.setHd x r v):=⟨rfl,rfl,rfl,rfl,rfl,rfl,fun y s h1 h2=>by rw[TM.setHd_hd,if_neg (by omega)],fun _ _=>rfl⟩
theorem zjl(t:TM)(f v:Nat)(h:3≤f∧f≤12):Lis t (t.setRt f v):=⟨rfl,rfl,rfl,rfl,rfl,rfl,fun _ _ _ _=>rfl,fun g hg=>by rw[TM.setRt_rt,if_neg (by omega)]⟩
theorem zjm(t:TM)(c p n:Nat)(hc:c≤9):Lis t (t.after c p n):=by
 unfold TM.after;split
 ·exact zjk _ _ _ _ (.inl rfl)
 ·exact zjl _ _ _ (by omega)
theorem zjn(t:TM)(c x p n:Nat)(hc:c≤9):Lis t (t.lnk c x p n):=by
 unfold TM.lnk;dsimp only;refine Lis.trans ?_ (zjm _ c p _ hc);have h1:=(zjk t x 4 p (.inr rfl)).trans (zjk _ x 3 n (.inl rfl));split
 ·exact h1.trans (zjk _ _ 4 _ (.inr rfl))
 ·exact h1
theorem zjo(t:TM)(c x p n:Nat)(hc:c≤9):Lis t (t.unl c x p n):=by
 unfold TM.unl;dsimp only;refine Lis.trans (Lis.trans ?_ (zjk _ x 3 0 (.inl rfl))) (zjk _ x 4 0 (.inr rfl));split
 ·exact(zjm t c p n hc).trans (zjk _ _ 4 _ (.inr rfl))
 ·exact zjm t c p n hc
theorem zjp(t:TM):∀k,Lis t.zHd (t.beg k)
 |0=>⟨rfl,rfl,rfl,rfl,rfl,rfl,fun _ _ _ _=>rfl,fun f hf=>by
   show(if 3≤f∧f<3+10 then 0 else t.rt f)=t.rt f;rw[if_neg (by omega)]⟩
 |k+1=>by
  rw[TM.beg];exact(zjp t k).trans (zjn _ _ _ _ _ (by decide))
theorem zjq(a:Nat)(h:a≤64):IntKind.i64.wrap ((a:Int)*16)=(a:Int)*16:=i6 _
theorem zjr{w:World}{q:MH}{t:TM}(h:IsT w q t):Calls prog 74 #[q] w (zR (0:Int) fun w'=>IsT w' q (t.beg t.a)∧Fr q.blocks w w'):=by
 have hma:=zhg h;have HC:=hid (fun W hW=>tcfg (w:=W) (q:=q) (t:=t) hW);have hfd:=zhc t.a t.s;have ha:=(zhd h.ok).1;have w0:=zjq t.a ha;have HZ:=hid (fun W hW=>zjf (w:=W) (q:=q) (t:=t) hW ((t.a:Int)*16) (by omega))
 have HS:=hid (fun W (k:Nat) (hk:k<10) (hW:IsT W q (t.zHd.zRt k))=>by
  have:=zgx hW (3+k) (by omega) 0 (by unfold fldW;rw[if_neg (by omega)];decide) ((3:Int)+k) (by omega) 0 rfl;rw[zjh]at this;exact this)
 have HF:=hid (fun W (k:Nat) (hW:IsT W q (t.beg k))=>zhk hW 0 (by decide) 0 rfl)
 have HL:=hid (fun W (k:Nat) (hk:k<t.a) (hW:IsT W q (t.beg k))=>by
  have ha':=zji t k
  have hrt:(t.beg k).rt 3≤(t.beg k).a:=by
   have:=(zjj t k (by omega)).root (c:=0) (by decide);rw[show(t.beg k).rt 3=_ from this];exact zi3 _ _ _
  have:=ziy hW 0 (t.a-1-k) 0 ((t.beg k).rt 3) (by decide) (by rw[ha'];omega) (Nat.zero_le _) hrt;rw[show((t.a-1-k:Nat):Int)=(t.a:Int)-1-k by omega,show((0:Nat):Int)=0 from rfl]at this;exact this)
 have HB0:=hid (show t.beg 0=t.zHd.zRt 10 from rfl);have HB1:=hid (show∀k,t.beg (k+1)=(t.beg k).lnk 0 (t.a-1-k) 0 ((t.beg k).rt 3)from fun k=>rfl);have HZ0:=hid (zjg t.zHd);have w1:=i6 ((t.a:Int)-1);generalize hbe:t.beg=be at*;generalize t.zHd=tz at*;clear hbe;generalize t.a=a at*;generalize t.s=s at*;go_in;go_wp2_with fail;go_call hma as e w1 ⟨rfl,f1⟩;have H1:=h.fr0 f1;clear hma;go_wp2_with fail;go_call HC.out _ H1 as e w2 ⟨rfl,f2⟩;have H2:=H1.fr0 f2;have F2:=(f1.trans f2).nil (S:=q.blocks);clear f1 f2;go_wp2_with fail;go_call HZ.out _ H2 as e w3 ⟨rfl,h3,f3⟩;have H3:=h3;have F3:=F2.trans f3;clear h3 f3;go_wp2;go_loopw [16] (fun v W=>∃j:Nat,j≤10∧v= .int .i64 j∧IsT W q (tz.zRt j)∧Fr q.blocks w W) (fun v _=>10-(intOf v).toNat);case atStart=>exact⟨0,by omega,rfl,by rw[HZ0.out];exact H3,F3⟩
 case round=>
  obtain⟨j,hj,rfl,hI,hF⟩:=hrel;have HFr:=hF;by_cases e:j<10
  ·have hs:=HS.out _ j e hI
   have b0:=dT ((j:Int)<10);have b0':=dT (j<10);have w4:=i6 ((j:Int)+1);have w5:=i6 ((3:Int)+j);clear hI hF;go_wp2_with fail;go_call hs as e w2 ⟨rfl,h2,f2⟩;have F2:=HFr.trans f2;clear f2 hs;go_wp2;exact⟨⟨j+1,by omega,by go_num,h2,F2⟩,by simp[intOf];omega⟩
  ·have e10:j=10:=by omega
   rw[e10,←HB0.out]at hI;have HI:=hI;have b0:=dF ((j:Int)<10);have b0':=dF (j<10);clear hI hF e hj H3 F3 e10;go_wp2;go_loopw [25] (fun v W=>∃j:Nat,j≤a∧v= .int .i64 j∧IsT W q (be j)∧Fr q.blocks w W) (fun v _=>a-(intOf v).toNat);case atStart=>exact⟨0,by omega,rfl,HI,HFr⟩
   case round=>
    clear HI HFr;obtain⟨j,hj,rfl,hI,hF⟩:=hrel;by_cases e:j<a
    ·have hf:=HF.out _ j hI
     have hl:=hid (fun W hW=>HL.out W j e hW);rw[←HB1.out j]at hl;have b0':=dT (j<a);have w4:=i6 ((j:Int)+1);have w5:=i6 ((a:Int)-1-j);clear hI;go_wp2_with fail;go_call hf as e w2 ⟨rfl,h2,f2⟩;have F2:=hF.trans f2;clear f2 hf;go_wp2_with fail;go_call hl.out _ h2 as e w3 ⟨rfl,h3,f3⟩;have F3:=F2.trans f3;clear h2 f3 hl;go_wp2;exact⟨⟨j+1,by omega,by go_num,h3,F3⟩,by simp[intOf];omega⟩
    ·obtain rfl:j=a:=by omega
     go_wp2;go_ret;exact⟨rfl,hI,hF⟩
section
def zjs(c l f n p:Int):Value:= .agg #[c,l,.int .u32 f,n,p]
theorem gen5{w w0:World}{g:Nat}{t:TypeId}{cs:Array Value}{S:List Nat}{v0 v1 v2 v3 v4:Value}(C:World→Prop)(h:Blk w g t cs)(hs:cs.size=5)(hf:Fr S w0 w)(hg:g∈S∨w0.heap.size≤g)
  (K:∀w9,Blk w9 g t #[v0,v1,v2,v3,v4]→Fr S w0 w9→C w9):C (((((w.setCell ⟨g,0,none⟩ v0).setCell ⟨g,1,none⟩ v1).setCell ⟨g,2,none⟩ v2).setCell ⟨g,3,none⟩ v3).setCell ⟨g,4,none⟩ v4):=by
 have:=K (w.setCells g 0 [v0,v1,v2,v3,v4]) (by
  have:=h.setCells [v0,v1,v2,v3,v4] 0;rw[zai _ _ (by rw[hs];rfl)]at this;exact this) (hf.setCells hg _ _)
 exact this
variable{w:World}{q:MH}{t:TM}
theorem zjt(h:IsT w q t)(x:Nat)(hx:x<t.a):Calls prog 104 #[q,x] w (zR (.tuple #[zjs (t.hd x 0) (t.hd x 1) (t.hd x 2) (t.hd x 3) (t.hd x 4),(0:Int)]) fun w'=>IsT w' q t∧Fr q.blocks w w'):=by
 have HM:=hid (fun W hW=>zhg (w:=W) (q:=q) (t:=t) hW)
 have HH:=hid (fun W hW=>by
  have:=zhh (w:=W) (q:=q) (t:=t) hW x;rw[decide_eq_true (show 0≤(x:Int)∧(x:Int)<t.a by omega)]at this;exact this)
 have HP0:=hid (fun W hW=>zhi (w:=W) (q:=q) (t:=t) hW x 0 hx (by decide) 0 2 rfl rfl);have HP1:=hid (fun W hW=>zhi (w:=W) (q:=q) (t:=t) hW x 1 hx (by decide) 2 2 rfl rfl);have HP2:=hid (fun W hW=>zhi (w:=W) (q:=q) (t:=t) hW x 2 hx (by decide) 4 4 rfl rfl);have HP3:=hid (fun W hW=>zhi (w:=W) (q:=q) (t:=t) hW x 3 hx (by decide) 8 4 rfl rfl);have HP4:=hid (fun W hW=>zhi (w:=W) (q:=q) (t:=t) hW x 4 hx (by decide) 12 4 rfl rfl);have hv2:t.hd x 2<4294967296:=h.ok.hd x 2
 have u2:IntKind.u32.wrap (t.hd x 2:Int)=(t.hd x 2:Int):=by
  have:IntKind.u32.wrap (t.hd x 2:Int)=(t.hd x 2:Int) %4294967296:=rfl;omega
 have hlt:=h.lt;have hts:=h.tab.size;unfold zjs;generalize t.hd x 0=v0 at*;generalize t.hd x 1=v1 at*;generalize t.hd x 2=v2 at*;generalize t.hd x 3=v3 at*;generalize t.hd x 4=v4 at*;clear hx hv2;go_in;go_wp2_with fail;go_call HM.out _ (h.alloc _) as e w1 ⟨rfl,f1⟩;have H1:=(h.alloc (.cells #[(0:Int),(0:Int),.int .u32 0,(0:Int),(0:Int)] 168)).fr0 f1;have F1:=((Fr.refl [] w).alloc _).trans f1;have B1:=(Blk.new w 168 #[.int .i64 0,.int .i64 0,.int .u32 0,.int .i64 0,.int .i64 0]).fr f1 (by simp);clear f1 HM;go_wp2_with fail;go_call HH.out _ H1 as e w2 ⟨rfl,f2⟩;have H2:=H1.fr0 f2;have F2:=(F1.trans f2).nil (S:=q.blocks);have B2:=B1.fr f2 (by simp);have hbq:w.heap.size∉q.blocks:=fun hm=>by have:=hlt _ hm;omega
 clear f2 HH B1 H1 F1;go_wp2_with fail;go_call HP0.out _ H2 as e w3 ⟨rfl,h3,f3⟩;have F3:=F2.trans f3;have B3:=B2.fr f3 hbq;clear f3 HP0 H2 F2 B2;go_wp2_with fail;go_call HP1.out _ h3 as e w4 ⟨rfl,h4,f4⟩;have F4:=F3.trans f4;have B4:=B3.fr f4 hbq;clear f4 HP1 h3 F3 B3;go_wp2_with fail;go_call HP2.out _ h4 as e w5 ⟨rfl,h5,f5⟩;have F5:=F4.trans f5;have B5:=B4.fr f5 hbq;clear f5 HP2 h4 F4 B4;go_wp2_with fail;go_call HP3.out _ h5 as e w6 ⟨rfl,h6,f6⟩;have F6:=F5.trans f6;have B6:=B5.fr f6 hbq;clear f6 HP3 h5 F5 B5;go_wp2_with fail;go_call HP4.out _ h6 as e w7 ⟨rfl,h7,f7⟩;have F7:=F6.trans f7;have B7:=B6.fr f7 hbq;clear f7 HP4 h6 F6 B6;have d0:=B7.cell 0;have z0:=B7.frozen 0;have d1:=B7.cell 1;have z1:=B7.frozen 1;have d2:=B7.cell 2;have z2:=B7.frozen 2;have d3:=B7.cell 3;have z3:=B7.frozen 3;have d4:=B7.cell 4;have z4:=B7.frozen 4;simp at d0 d1 d2 d3 d4;go_wp2_with fail;refine gen5 (fun w9=>bodyPost _ _ _ _ _ w9) B7 rfl (Fr.refl [w.heap.size] w7) (.inl (by simp)) ?_;intro w9 hn9 hf9;have q0:=hn9.cell 0;have q1:=hn9.cell 1;have q2:=hn9.cell 2;have q3:=hn9.cell 3;have q4:=hn9.cell 4;simp at q0 q1 q2 q3 q4;refine bodyPost_ret (by simp[results,results104,go_sem,q0,q1,q2,q3,q4];try rfl) rfl ⟨rfl,h7.fr hf9 (fun k hk hm=> ?_) (fun k hk hm=> ?_),F7.step hf9 (by simp)⟩
 ·simp at hm;subst hm;exact hbq hk
 ·simp at hm;subst hm;omega
end
section
variable{w:World}{q:MH}{t:TM}
theorem zju(h:IsT w q t)(x p v Bm Bs:Nat)(hx:x<t.a)(hp:p<2)(hv:v<65536)(bm:Blk w Bm 26 #[q])(bs:Blk w Bs 3 #[x])(z:Int)(hz:z=hdA p):Calls prog 297 #[z,.int .u64 v,some Bm,some Bs] w (zR (.tuple #[]) fun w'=>IsT w' q (t.setHd x p v)∧Fr q.blocks w w'):=by
 have e:hdW p=2:=by unfold hdW;rw[if_pos hp]
 have hput:=zhj h x p v hx (by omega) (by rw[e];exact hv) z 2 v hz (by rw[e];rfl) rfl x rfl;have c0:=bm.cell 0;have c1:=bs.cell 0;simp at c0 c1;generalize t.setHd x p v=t' at*;clear h bm bs hx hp hv e hz;go_in;go_wp2_with fail;go_call hput as e w1 ⟨rfl,h1,f1⟩;clear hput;go_wp2;go_end0;exact⟨rfl,h1,f1⟩
theorem zjv(h:IsT w q t)(x p v Bm Bs:Nat)(hx:x<t.a)(hp:p<5)(hp2:2≤p)(hv:v<4294967296)(bm:Blk w Bm 26 #[q])(bs:Blk w Bs 3 #[x])(z:Int)(hz:z=hdA p):Calls prog 298 #[z,.int .u64 v,some Bm,some Bs] w (zR (.tuple #[]) fun w'=>IsT w' q (t.setHd x p v)∧Fr q.blocks w w'):=by
 have e:hdW p=4:=by unfold hdW;rw[if_neg (by omega)]
 have hput:=zhj h x p v hx (by omega) (by rw[e];exact hv) z 4 v hz (by rw[e];rfl) rfl x rfl;have c0:=bm.cell 0;have c1:=bs.cell 0;simp at c0 c1;generalize t.setHd x p v=t' at*;clear h bm bs hx hp hv e hz;go_in;go_wp2_with fail;go_call hput as e w1 ⟨rfl,h1,f1⟩;clear hput;go_wp2;go_end0;exact⟨rfl,h1,f1⟩
def TM.setL(t:TM)(x c l f:Nat):TM:=((t.setHd x 0 c).setHd x 1 l).setHd x 2 f
def TM.setLk(t:TM)(x c l f k:Nat):TM:=if k=0 then t else if k=1 then t.setHd x 0 c else if k=2 then(t.setHd x 0 c).setHd x 1 l else t.setL x c l f
theorem zjw(h:IsT w q t)(x c l f:Nat)(hx:x<t.a)(hc:c≤9)(hl:l≤65535)(hf:f<4294967296):Calls prog 238 #[.pointer (some ⟨q.m,0,none⟩),.int .i64 x,.int .i64 c,.int .i64 l,.int .u32 f] w (zR (.int .i64 0) fun w'=>IsT w' q (t.setL x c l f)∧Fr q.blocks w w'):=by
 have HM:=hid (fun W hW=>zhg (w:=W) (q:=q) (t:=t) hW)
 have HH:=hid (fun W hW=>by
  have:=zhh (w:=W) (q:=q) (t:=t) hW x;rw[decide_eq_true (show 0≤(x:Int)∧(x:Int)<t.a by omega)]at this;exact this)
 have hlt:=h.lt;have hts:=h.tab.size;have hi:=fun W=>liis W c;rw[decide_eq_true (show 0≤(c:Int)∧(c:Int)≤9 by omega)]at hi;have b1:decide ((l:Int)<0)=false:=by simp
 have b2:decide ((65535:Int)<l)=false:=by simp;omega
 have b2':decide (65535<l)=false:=by simp;omega
 have u1:=zaw c (by omega);have u2:=zaw l (by omega);have u3:=zaw f (by omega);have HP0:=hid (fun W Bm Bs (hW:IsT W q (t.setLk x c l f 0)) bm bs=>(show Calls prog 297 #[.int .i64 0,.int .u64 c,.pointer (some ⟨Bm,0,none⟩),.pointer (some ⟨Bs,0,none⟩)] W (zR (.tuple #[]) fun w'=>IsT w' q (t.setLk x c l f 1)∧Fr q.blocks W w')from zju hW x 0 c Bm Bs hx (by decide) (by omega) bm bs 0 rfl));have HP1:=hid (fun W Bm Bs (hW:IsT W q (t.setLk x c l f 1)) bm bs=>(show Calls prog 297 #[.int .i64 2,.int .u64 l,.pointer (some ⟨Bm,0,none⟩),.pointer (some ⟨Bs,0,none⟩)] W (zR (.tuple #[]) fun w'=>IsT w' q (t.setLk x c l f 2)∧Fr q.blocks W w')from zju hW x 1 l Bm Bs hx (by decide) (by omega) bm bs 2 rfl));have HP2:=hid (fun W Bm Bs (hW:IsT W q (t.setLk x c l f 2)) bm bs=>(show Calls prog 298 #[.int .i64 4,.int .u64 f,.pointer (some ⟨Bm,0,none⟩),.pointer (some ⟨Bs,0,none⟩)] W (zR (.tuple #[]) fun w'=>IsT w' q (t.setLk x c l f 3)∧Fr q.blocks W w')from zjv hW x 2 f Bm Bs hx (by decide) (by decide) hf bm bs 4 rfl));have HE0:=hid (show t.setLk x c l f 0=t from rfl);have HE3:=hid (show t.setLk x c l f 3=t.setL x c l f from rfl);rw[←HE3.out];rw[←HE0.out]at h HM HH;clear HE3 HE0 hx hc hl hf;generalize t.setLk x c l f=tk at*;have hbq:∀k,w.heap.size≤k→k∉q.blocks:=fun k hk hm=>by have:=hlt _ hm;omega
 go_in;go_wp2_with fail;with_reducible refine(HM.out _ ((h.alloc _).alloc _)).mono ?_
 rintro e w1 ⟨rfl,f1⟩;have F1:=(((Fr.refl [] w).alloc (.cells #[.pointer (some ⟨q.m,0,none⟩)] 26)).alloc (.cells #[.int .i64 x] 3)).trans f1;have B0:=((Blk.new w 26 #[.pointer (some ⟨q.m,0,none⟩)]).alloc (.cells #[.int .i64 x] 3)).fr f1 (by simp)
 have B1:Blk w1 (w.heap.size+1) 3 #[.int .i64 x] :=by
  have:=(Blk.new (w.alloc (.cells #[.pointer (some ⟨q.m,0,none⟩)] 26)) 3 #[.int .i64 x]).fr f1 (by simp);rwa[World.size_alloc]at this
 have c0:=B0.cell 0;have c1:=B1.cell 0;simp at c0 c1;have HB1:=B1;clear f1 HM B1;go_wp2_with fail;with_reducible refine(HH.out _ (h.fr0 F1)).mono ?_
 rintro e w2 ⟨rfl,f2⟩;have F2:=F1.trans f2;have B02:=B0.fr f2 (by simp);have B12:=HB1.fr f2 (by simp);clear f2 HH c0 c1 B0 HB1 F1;go_wp2_with fail;with_reducible refine(hi _).mono ?_
 rintro e w3 ⟨rfl,rfl⟩;go_wp2;obtain⟨W4,hW4⟩:∃W4,(w3.alloc (.cells #[(.func (.func 297) #[] #[.pointer (some ⟨w.heap.size,0,none⟩),.pointer (some ⟨w.heap.size+1,0,none⟩)]),.int .i64 0,.int .u64 c,(.func (.func 297) #[] #[.pointer (some ⟨w.heap.size,0,none⟩),.pointer (some ⟨w.heap.size+1,0,none⟩)]),.int .i64 2,.int .u64 l,(.func (.func 298) #[] #[.pointer (some ⟨w.heap.size,0,none⟩),.pointer (some ⟨w.heap.size+1,0,none⟩)]),.int .i64 4,.int .u64 f] 313))=W4:=⟨_,rfl⟩;have BG:Blk W4 w3.heap.size 313 #[(.func (.func 297) #[] #[.pointer (some ⟨w.heap.size,0,none⟩),.pointer (some ⟨w.heap.size+1,0,none⟩)]),.int .i64 0,.int .u64 c,(.func (.func 297) #[] #[.pointer (some ⟨w.heap.size,0,none⟩),.pointer (some ⟨w.heap.size+1,0,none⟩)]),.int .i64 2,.int .u64 l,(.func (.func 298) #[] #[.pointer (some ⟨w.heap.size,0,none⟩),.pointer (some ⟨w.heap.size+1,0,none⟩)]),.int .i64 4,.int .u64 f] :=by rw[←hW4];exact Blk.new _ _ _
 have F4:=show Fr q.blocks w W4 from by rw[←hW4];exact(F2.nil (S:=q.blocks)).alloc _
 have B04:=show Blk W4 w.heap.size 26 #[.pointer (some ⟨q.m,0,none⟩)]from by rw[←hW4];exact B02.alloc _
 have B14:=show Blk W4 (w.heap.size+1) 3 #[.int .i64 x]from by rw[←hW4];exact B12.alloc _
 have H4:=show IsT W4 q (tk 0)from h.fr (S:= []) (by rw[←hW4];exact F2.alloc _) (by simp) (by simp);have hg:=F2.size;rw[hW4];clear hW4 F2 B02 B12;generalize w3.heap.size=g at*;have HBG:=BG;have hgq:g∉q.blocks:=hbq g hg;have h0q:w.heap.size∉q.blocks:=hbq _ (Nat.le_refl _);have h1q:w.heap.size+1∉q.blocks:=hbq _ (by omega);clear BG hi hbq hlt;go_loopw [52] (fun v W=>∃j:Nat,j≤3∧v= .int .i64 j∧IsT W q (tk j)∧Fr q.blocks w W∧Blk W w.heap.size 26 #[.pointer (some ⟨q.m,0,none⟩)]∧Blk W (w.heap.size+1) 3 #[.int .i64 x]∧Blk W g 313 #[(.func (.func 297) #[] #[.pointer (some ⟨w.heap.size,0,none⟩),.pointer (some ⟨w.heap.size+1,0,none⟩)]),.int .i64 0,.int .u64 c,(.func (.func 297) #[] #[.pointer (some ⟨w.heap.size,0,none⟩),.pointer (some ⟨w.heap.size+1,0,none⟩)]),.int .i64 2,.int .u64 l,(.func (.func 298) #[] #[.pointer (some ⟨w.heap.size,0,none⟩),.pointer (some ⟨w.heap.size+1,0,none⟩)]),.int .i64 4,.int .u64 f]) (fun v _=>3-(intOf v).toNat);case atStart=>exact⟨0,by omega,rfl,H4,F4,B04,B14,HBG⟩
 case round=>
  clear HBG B04 B14 F4 H4;obtain⟨j,hj,rfl,hI,hF,hb0,hb1,hbg⟩:=hrel;have c0:=hbg.cell 0;have c1:=hbg.cell 1;have c2:=hbg.cell 2;have c3:=hbg.cell 3;have c4:=hbg.cell 4;have c5:=hbg.cell 5;have c6:=hbg.cell 6;have c7:=hbg.cell 7;have c8:=hbg.cell 8;simp at c0 c1 c2 c3 c4 c5 c6 c7 c8;have BN:=Blk.new wr 313 #[.nilFunc,.int .i64 0,.int .u64 0];have n0:=BN.cell 0;have y0:=BN.frozen 0;have n1:=BN.cell 1;have n2:=BN.cell 2;simp only[gE]at n0 n1 n2;have hs1:=fun(a:Addr) (c:Array Value) (w:World)=>run_store prog w a (.func (.func 297) #[] c) .plain rfl;have hs2:=fun(a:Addr) (c:Array Value) (w:World)=>run_store prog w a (.func (.func 298) #[] c) .plain rfl;have hjj:j=0∨j=1∨j=2∨j=3:=by omega
  rcases hjj with rfl|rfl|rfl|rfl
  ·go_wp2_with fail
   with_reducible refine(HP0.out _ _ _ (hI.alloc _) (hb0.alloc _) (hb1.alloc _)).mono ?_
   rintro e w5 ⟨rfl,h5,f5⟩;have F5:=(hF.alloc _).trans f5;go_wp2;exact⟨⟨1,by omega,by go_num,h5,F5,(hb0.alloc _).fr f5 h0q,(hb1.alloc _).fr f5 h1q,(hbg.alloc _).fr f5 hgq⟩,by simp[intOf]⟩
  ·go_wp2_with fail
   with_reducible refine(HP1.out _ _ _ (hI.alloc _) (hb0.alloc _) (hb1.alloc _)).mono ?_
   rintro e w5 ⟨rfl,h5,f5⟩;have F5:=(hF.alloc _).trans f5;go_wp2;exact⟨⟨2,by omega,by go_num,h5,F5,(hb0.alloc _).fr f5 h0q,(hb1.alloc _).fr f5 h1q,(hbg.alloc _).fr f5 hgq⟩,by simp[intOf]⟩
  ·go_wp2_with fail
   with_reducible refine(HP2.out _ _ _ (hI.alloc _) (hb0.alloc _) (hb1.alloc _)).mono ?_
   rintro e w5 ⟨rfl,h5,f5⟩;have F5:=(hF.alloc _).trans f5;go_wp2;exact⟨⟨3,by omega,by go_num,h5,F5,(hb0.alloc _).fr f5 h0q,(hb1.alloc _).fr f5 h1q,(hbg.alloc _).fr f5 hgq⟩,by simp[intOf]⟩
  ·go_wp2
   go_ret;exact⟨rfl,hI,hF⟩
theorem zjx(t:TM)(x c l f y r:Nat)(h:r=3∨r=4):(t.setL x c l f).hd y r=t.hd y r:=by
 unfold TM.setL;rw[TM.setHd_hd,if_neg (by omega),TM.setHd_hd,if_neg (by omega),TM.setHd_hd,if_neg (by omega)]
end
section
variable{w:World}{q:MH}{t:TM}{inn:Nat→Int}
def insE(a:Nat)(inn:Nat→Int)(c x:Int):Nat:=if ziz a c x≠0 then ziz a c x else if 0≤inn x.toNat then 8 else 0
def insI(a:Nat)(inn:Nat→Int)(c x:Int):Nat→Int:=if insE a inn c x=0 then up inn x.toNat c else inn
def remE(a:Nat)(inn:Nat→Int)(c x:Int):Nat:=if ziz a c x≠0 then ziz a c x else if inn x.toNat≠c then 7 else 0
def remI(a:Nat)(inn:Nat→Int)(c x:Int):Nat→Int:=if remE a inn c x=0 then up inn x.toNat (-1)else inn
def LisP(q:MH)(t:TM)(inn:Nat→Int)(S:List Nat)(w:World)(r:Int)(e:Ending)(w':World):Prop:=e= .returned r∧ ∃t',IsT w' q t'∧LS t' inn∧Lis t t'∧Fr S w w'
theorem zjy{a:Nat}{c x:Int}(h:ziz a c x=0):∃c' x':Nat,c=c'∧x=x'∧c'≤9∧x'<a:=by
 unfold ziz at h;by_cases h1:0≤c∧c≤9
 ·rw[if_neg (fun k=>k h1)]at h
  by_cases h2:0≤x∧x<(a:Int)
  ·exact⟨c.toNat,x.toNat,by omega,by omega,by omega,by omega⟩
  ·rw[if_pos h2]at h;cases h
 ·rw[if_pos h1]at h;cases h
theorem zjz(h:IsT w q t)(hl:LS t inn)(c x:Int):Calls prog 133 #[q,c,x] w (LisP q t (insI t.a inn c x) q.blocks w (insE t.a inn c x)):=by
 by_cases hr:ziz t.a c x=0
 ·obtain⟨c,x,rfl,rfl,hc,hx⟩:=zjy hr
  by_cases hn:0≤inn x
  ·have hE:insE t.a inn c x=8:=by unfold insE;rw[if_neg (fun k=>k hr),Int.toNat_natCast,if_pos hn]
   unfold insI;rw[hE,if_neg (by decide)];exact(zi8 h hl c x hc hx hn).mono fun e w' ⟨he,hi,hf⟩=>⟨he,t,hi,hl,Lis.refl t,hf⟩
  ·have hE:insE t.a inn c x=0:=by unfold insE;rw[if_neg (fun k=>k hr),Int.toNat_natCast,if_neg hn]
   unfold insI;rw[hE,if_pos rfl,Int.toNat_natCast];exact(zi9 h hl c x hc hx (by omega)).mono fun e w' ⟨he,hi,hf⟩=>⟨he,_,hi,hl.ins hc hx (by omega),zjn _ _ _ _ _ hc,hf⟩
 ·have hE:insE t.a inn c x=ziz t.a c x:=by unfold insE;rw[if_pos hr]
  unfold insI;rw[hE,if_neg hr];exact(zi5 h c x hr).mono fun e w' ⟨he,hf⟩=>⟨he,t,h.fr0 hf,hl,Lis.refl t,hf.nil⟩
theorem zj0(h:IsT w q t)(hl:LS t inn)(c x:Int):Calls prog 201 #[q,c,x] w (LisP q t (remI t.a inn c x) q.blocks w (remE t.a inn c x)):=by
 by_cases hr:ziz t.a c x=0
 ·obtain⟨c,x,rfl,rfl,hc,hx⟩:=zjy hr
  by_cases hn:inn x=(c:Int)
  ·have hE:remE t.a inn c x=0:=by unfold remE;rw[if_neg (fun k=>k hr),Int.toNat_natCast,if_neg (fun k=>k hn)]
   unfold remI;rw[hE,if_pos rfl,Int.toNat_natCast];exact(zjb h hl c x hc hx hn).mono fun e w' ⟨he,hi,hf⟩=>⟨he,_,hi,hl.del hc hx hn,zjo _ _ _ _ _ hc,hf⟩
  ·have hE:remE t.a inn c x=7:=by unfold remE;rw[if_neg (fun k=>k hr),Int.toNat_natCast,if_pos hn]
   unfold remI;rw[hE,if_neg (by decide)];exact(zja h hl c x hc hx hn).mono fun e w' ⟨he,hi,hf⟩=>⟨he,t,hi,hl,Lis.refl t,hf⟩
 ·have hE:remE t.a inn c x=ziz t.a c x:=by unfold remE;rw[if_pos hr]
  unfold remI;rw[hE,if_neg hr];exact(zi6 h c x hr).mono fun e w' ⟨he,hf⟩=>⟨he,t,h.fr0 hf,hl,Lis.refl t,hf.nil⟩
theorem cfg7:Cfg 7 224:=⟨by decide,by decide,by decide,by decide,by decide⟩
end
def cutL(L:List Nat)(k:Nat):List Nat:=L.take k++L.drop (k+1)
theorem zj1(w:World)(base:Nat)(v:Value)(l:List Nat)(h:w.ownsRow base 3 1 v l.length (intC l))(A:Option Addr)(c:Nat)(m:List Nat)(hm:∀j (hj:j<m.length),∃g o,A=some ⟨g,o,none⟩∧w.cell? ⟨g,o+j,none⟩=some (.int .i64 (m[j] :Nat)))(hl:l.length+m.length≤1048576)(hbase:base≤w.heap.size):∃v' w',(Builtin.append_ #[69,69] 69 #[v,.slice A m.length c]).run prog w= .ok v' w'∧w'.ownsRow base 3 1 v' (l++m).length (intC (l++m))∧w.grownBy w' v.ownBlock:=by
 obtain⟨i,hi,hz,hs,hb⟩:=info_parts zbr;rcases A with _|ad
 ·have hm0:m= [] :=by
   rcases m with _|⟨x,m⟩
   ·rfl
   ·obtain⟨g,o,e,_⟩:=hm 0 (by simp)
    cases e
  subst hm0;refine⟨v,w,?_,by simpa using h,World.grownBy.refl w _⟩;obtain⟨h1,⟨rfl,h2⟩|⟨g,cap,cur,rfl,_,_,hc,_⟩⟩:=h
  ·have:l= [] :=List.eq_nil_of_length_eq_zero h2
   subst this;simp[Builtin.append_,run_underlying underlying69,sizeOf,typeInfo,hi,Builtin.lenOf,Builtin.firstCells]
  ·simp[Builtin.append_,run_underlying underlying69,sizeOf,typeInfo,hi,Builtin.lenOf,Builtin.firstCells,hc,storeCells]
 ·have hcells:∀j u,(intC m)[j]?=some u→w.cell? (ad.add j)=some u:=by
   intro j u hu
   have hj:j<m.length:=by
    have:=(List.getElem?_eq_some_iff.1 hu).1;simpa[intC]using this
   obtain⟨g,o,e,hc⟩:=hm j hj;injection e with e;subst e;have hadd:(⟨g,o,none⟩:Addr).add j=⟨g,o+j,none⟩:=by unfold Addr.add;split<;>simp_all
   rw[hadd,hc];rw[intC,List.getElem?_map,List.getElem?_eq_getElem hj]at hu;exact hu
  obtain⟨v',w',hrun,h2,h3,_⟩:=run_append_own_at (P:=prog) w base 69 69 3 i (.int .i64 0) 1 8 underlying69 hi hz hs hb rfl (by decide) v l.length (intC l) h ad m.length c (intC m) (by simp[intC]) hcells (fun u hu=>by
   obtain⟨k,_,rfl⟩:=List.mem_map.1 hu;rfl) (by unfold maxLen;omega) (by omega) hbase
  refine⟨v',w',hrun,?_,h3⟩;rw[List.length_append,intC,List.map_append];exact h2
theorem zj2(w:World):(w.alloc (.cells #[] 3)).ownsRow w.heap.size 3 1 (.slice (some ⟨w.heap.size,0,none⟩) 0 0) ([] :List Nat).length (intC []):=
 ⟨rfl,.inr ⟨_,0,#[],rfl,Nat.le_refl _,Blk.new _ _ _,Nat.le_refl _,by unfold maxLen;omega,rfl,rfl⟩⟩
theorem zj3{w W W':World}{base:Nat}{v:Value}{l:List Nat}(h:W.ownsRow base 3 1 v l.length (intC l))(hg:W.grownBy W' v.ownBlock)(hf:Fr [] w W)(hb:w.heap.size≤base):Fr [] w W':=
 ⟨hg.os.trans hf.os,hg.tape.trans hf.tape,hg.output.trans hf.output,Nat.le_trans hf.size hg.size,fun k hk hn=>(hg.block k (Nat.lt_of_lt_of_le hk hf.size) (fun e=>by
  have:=(h.lt k e.symm).1;omega)).trans (hf.block k hk hn)⟩
theorem zj4{P:Program}{o:Oper}{a:Act}{w:World}{K:Act→World→Prop}{Q:Exit→Act→World→Prop}
  (s x:Operand) (t:TypeId) (hop:o.op=Op.call {callee:=Callee.builtin Builtin.append,args:= #[s,x],argTypes:= #[t,t]}) (hty:o.type=t)
  (vs vx v':Value) (w':World) (hs:a.eval s=vs) (hx:a.eval x=vx) (hrun:(Builtin.append_ #[t,t] t #[vs,vx]).run P w= .ok v' w')
  (hK:K (a.put o.dst v') w'):Oper.wp P o a w K Q:=by
 subst hty
 unfold Oper.wp
 simp[execOp,hop,resolve,invoke,builtin,hs,hx,hrun,Result.andThen]
 exact hK
end Go.Proofs.YtghllbkjghnmhaaGreatDoor
