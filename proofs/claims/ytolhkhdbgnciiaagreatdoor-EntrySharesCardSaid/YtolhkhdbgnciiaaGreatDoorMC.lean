/- Several texts in one. -/
import Derived.Test.YtolhkhdbgnciiaaGreatDoorKI
import Derived.Test.YtolhkhdbgnciiaaGreatDoorMB
namespace Go.Proofs.YtolhkhdbgnciiaaGreatDoor
open _root_.Go.Proofs.Tryz
open Go.Lib (hid)
open Go.IntWalk (i64_in)
set_option linter.unusedVariables false
set_option linter.unusedSimpArgs false
open Go.RowKit
def isNd(E:Nat→HB)(B:Nat→List Nat)(name:Nat)(lab:List Nat)(hs z:Nat):Bool:=(E z).tag==2&&(E z).name==name&&B z==lab&&(E z).hash==hs
section
variable {w0 W w : World} {q : MH} {S : SS} {x : Nat} {t u : TM} {L : Nat → Prop} {E : Nat → HB} {B : Nat → List Nat}
theorem zw7(g:WB w0 q S L u E B W)(h:IsH w q u)(hx:L x)(name hs bA bB bC bD:Nat)(lab:List Nat)(hl:∀b∈lab,b<256)(hlen:lab.length≤9223372036854775807)(nA:bA∉q.blocks)(nB:bB∉q.blocks)(nC:bC∉q.blocks)(nD:bD∉q.blocks)
  (kA:Blk w bA 26 #[.pointer (some ⟨q.m,0,none⟩)]) (kB:Blk w bB 87 #[.int .u32 name]) (kC:Blk w bC 9 #[.string (zag lab)]) (kD:Blk w bD 87 #[.int .u32 hs]):
  Calls prog 295 #[.int .i64 x,.pointer (some ⟨bA,0,none⟩),.pointer (some ⟨bB,0,none⟩),.pointer (some ⟨bC,0,none⟩),.pointer (some ⟨bD,0,none⟩)] w fun e w'=>e= .returned (.bool (isNd E B name lab hs x))∧IsH w' q u∧Fr q.blocks w w':=by
 have hB:=g.ix.e x hx;have hct:=g.ct x hx;obtain⟨cn,-,cn1,cn9,hlv,hfit⟩:=hct.n
 have hlb:(E x).tag=2→(E x).label=((B x).length:Int)∧(B x).length≤63∧(∀b∈B x,b<256)∧ByOn u (x+16) (B x).length (fun j=>(B x)[j]?.getD 0)∧16+(B x).length≤csz cn:=fun ht=>by
  obtain⟨m1,m2,m3⟩:=hct.l2 ht;have ho:=hct.on;rw[show(E x).tag.toNat=2 from by rw[ht];rfl]at ho hfit;exact⟨m1,m3,hct.lt,ho,hfit⟩
 obtain⟨v1,v2,v3,v4,v5,v6,v7⟩:=g.at_ hlv;have hx2:=(hB.pos g.h.m.ok).2;clear hct hfit
 have HG:=hid (fun W (hW:IsH W q u)=>(show Calls prog 117 #[.pointer (some ⟨q.m,0,none⟩),.int .i64 x] W fun e w'=>e= .returned (.tuple #[.agg #[.int .i64 (E x).tag,.int .i64 (E x).cls,.bool (E x).used,.int .i64 (E x).label,.int .u32 (E x).name,.int .u32 (E x).next,.int .u32 (E x).prev,.int .u32 (E x).refs,.int .u64 (E x).expiry,.int .u16 (E x).typ,.int .i64 (E x).size,.int .u32 (E x).hash],.int .i64 0])∧IsH w' q u∧Fr q.blocks W w' from
  hget W q u hW x (E x).tag.toNat 5 (E x) hB.h hB.ok hB.r (by rcases hB.tg with e|e<;>rw[e] <;>rfl) hB.lies (.inl rfl)))
 have H0:=hid h;have cA:w.cell? ⟨bA,0,none⟩=some (.pointer (some ⟨q.m,0,none⟩)):=by simpa using kA.cell 0
 have KA:=hid kA;have KB:=hid kB;have KC:=hid kC;have KD:=hid kD;have htg:=hB.tg;unfold isNd;generalize E x=X at*;generalize B x=l at*;obtain⟨tag,cls,used,label,nm,next,prev,refs,expiry,ty,size,hash⟩:=X;simp only at HG htg hlb⊢;rcases htg with rfl|rfl
 ·have hF:=hid (show(((1:Int)==2)&&nm==name&&l==lab&&hash==hs)=false from by simp)
  rw[hF.out];clear h hB hlb hlv v1 v2 v3 v4 v5 v6 v7 hx2 kA kB kC kD g KA KB KC KD;go_enter func295,ntmps295;go_wp2_with fail;with_reducible refine(HG.out _ H0.out).mono ?_
  rintro e w1 ⟨rfl,k1,f1⟩;have K1:=hid k1;have F1:=hid f1;clear k1 f1 HG;go_wp2_with fail;go_ret;exact⟨rfl,K1.out.alloc _,F1.out.alloc _⟩
 ·obtain⟨l1,l2,l3,l4,l5⟩:=hlb rfl
  subst l1
  have hpart:u.part (x+16) l.length=l:=by
   refine List.ext_getElem (by simp[TM.part]) (fun j j1 j2=> ?_);have:=l4 j j2;simp only at this;simp[TM.part,this,List.getElem?_eq_getElem j2]
  have HR:=hid (fun W (hW:IsH W q u)=>(show Calls prog 120 #[.pointer (some ⟨q.m,0,none⟩),.int .i64 ((x:Int)+16),.int .i64 l.length,.int .i64 5] W fun e w'=>∃gr cap,e= .returned (.slice (some ⟨gr,0,none⟩) l.length cap)∧W.heap.size≤gr∧RowB w' gr cap l∧IsH w' q u∧Fr q.blocks W w' from by
   have hr:=zx3 hW.m (x+16) l.length ((l.length+3)/4*4) 5 (by omega) (fun k h1 h2=>v7 k (by omega) (by omega)) (by omega) (by omega) (by omega) (by decide) ((x:Int)+16) l.length 5 (by omega) rfl rfl;rw[hpart]at hr;exact hr.mono fun e w' ⟨v,g,cap,k1,k2,k3,k4,k5,k6⟩=>⟨g,cap,by rw[k1,k2],k3,k4,hW.step k5 k6,k6⟩))
  have HCV:=hid (show∀W g cw,RowB W g cw l→(convert 44 9 (.slice (some ⟨g,0,none⟩) l.length cw)).run prog W= .ok (.string (zag l)) W from fun W g cw hr=>zc6 W _ cw _ (hr.byt l3 (by omega)));obtain⟨b2,h2⟩:∃b:Bool,(nm==name)=b:=⟨_,rfl⟩;obtain⟨b3,h3⟩:∃b:Bool,(l.length==lab.length)=b:=⟨_,rfl⟩;obtain⟨b4,h4⟩:∃b:Bool,(hash==hs)=b:=⟨_,rfl⟩;obtain⟨b5,h5⟩:∃b:Bool,(l==lab)=b:=⟨_,rfl⟩;have e2:((nm:Int) !=name)= !b2:=by rw[←h2,bne,Bool.not_inj_iff,Bool.eq_iff_iff,beq_iff_eq,beq_iff_eq];omega
  have e3:((l.length:Int) !=(zag lab).size)= !b3:=by rw[←h3,za4,bne,Bool.not_inj_iff,Bool.eq_iff_iff,beq_iff_eq,beq_iff_eq];omega
  have e4:((hash:Int) !=hs)= !b4:=by rw[←h4,bne,Bool.not_inj_iff,Bool.eq_iff_iff,beq_iff_eq,beq_iff_eq];omega
  have e5:((zag l).toList==(zag lab).toList)=b5:=by rw[←h5];exact zkp l lab l3 hl
  have HB:=hid (show(((2:Int)==2)&&nm==name&&l==lab&&hash==hs)=(b2&&b3&&b4&&b5)from by
   rw[h2,h4,h5];cases b5 with
   |true=>
    have:l=lab:=by simpa using h5
    rw[this]at h3;rw[←h3];cases b2<;>cases b4<;>simp
   |false=>cases b2<;>cases b4<;>cases b3<;>rfl)
  have wx:=i64_in ((x:Int)+16) (by omega);rw[HB.out];generalize zag lab=sb at*;generalize zag l=sl at*;generalize l.length=n at*;clear h hB hlb hlv v1 v2 v3 v4 v5 v6 v7 hx2 kA kB kC kD g h2 h3 h4 h5 HB hpart l2 l3 l4 l5 hl hlen;go_enter func295,ntmps295;go_wp2_with fail;with_reducible refine(HG.out _ H0.out).mono ?_
  rintro e w1 ⟨rfl,k1,f1⟩;have K1:=hid k1;have F1:=hid f1;have hql:w1.heap.size∉q.blocks:=fun hm=>by have:=k1.m.lt _ hm;omega
  have A1:=hid ((KA.out.fr f1 nA).alloc (.cells #[.int .i64 2,.int .i64 cls,.bool used,.int .i64 n,.int .u32 nm,.int .u32 next,.int .u32 prev,.int .u32 refs,.int .u64 expiry,.int .u16 ty,.int .i64 size,.int .u32 hash] 89));have C1:=hid ((KC.out.fr f1 nC).alloc (.cells #[.int .i64 2,.int .i64 cls,.bool used,.int .i64 n,.int .u32 nm,.int .u32 next,.int .u32 prev,.int .u32 refs,.int .u64 expiry,.int .u16 ty,.int .i64 size,.int .u32 hash] 89));have G1:=hid (Blk.new w1 89 #[.int .i64 2,.int .i64 cls,.bool used,.int .i64 n,.int .u32 nm,.int .u32 next,.int .u32 prev,.int .u32 refs,.int .u64 expiry,.int .u16 ty,.int .i64 size,.int .u32 hash]);have K2:=hid (K1.out.alloc (.cells #[.int .i64 2,.int .i64 cls,.bool used,.int .i64 n,.int .u32 nm,.int .u32 next,.int .u32 prev,.int .u32 refs,.int .u64 expiry,.int .u16 ty,.int .i64 size,.int .u32 hash] 89));have F2:=hid (F1.out.alloc (.cells #[.int .i64 2,.int .i64 cls,.bool used,.int .i64 n,.int .u32 nm,.int .u32 next,.int .u32 prev,.int .u32 refs,.int .u64 expiry,.int .u16 ty,.int .i64 size,.int .u32 hash] 89));have d1:=A1.out.cell 0;have d2:=((KB.out.fr f1 nB).alloc (.cells #[.int .i64 2,.int .i64 cls,.bool used,.int .i64 n,.int .u32 nm,.int .u32 next,.int .u32 prev,.int .u32 refs,.int .u64 expiry,.int .u16 ty,.int .i64 size,.int .u32 hash] 89)).cell 0;have d3:=C1.out.cell 0;have d4:=((KD.out.fr f1 nD).alloc (.cells #[.int .i64 2,.int .i64 cls,.bool used,.int .i64 n,.int .u32 nm,.int .u32 next,.int .u32 prev,.int .u32 refs,.int .u64 expiry,.int .u16 ty,.int .i64 size,.int .u32 hash] 89)).cell 0;simp only[List.getElem?_toArray,List.getElem?_cons_zero]at d1 d2 d3 d4;clear k1 f1 HG KA KB KC KD H0 K1 F1;have DC:=hid (fun V (hV:Fr q.blocks (w1.alloc (.cells #[.int .i64 2,.int .i64 cls,.bool used,.int .i64 n,.int .u32 nm,.int .u32 next,.int .u32 prev,.int .u32 refs,.int .u64 expiry,.int .u16 ty,.int .i64 size,.int .u32 hash] 89)) V)=>And.intro (show V.cell? ⟨bA,0,none⟩=some (.pointer (some ⟨q.m,0,none⟩))from(A1.out.fr hV nA).cell 0) (And.intro (show V.cell? ⟨bC,0,none⟩=some (.string sb)from(C1.out.fr hV nC).cell 0) (show V.cell? ⟨w1.heap.size,3,none⟩=some (.int .i64 n)from(G1.out.fr hV hql).cell 3)));obtain⟨c2,hc2⟩:∃c,(!b2)=c:=⟨_,rfl⟩;obtain⟨c3,hc3⟩:∃c,(!b3)=c:=⟨_,rfl⟩;obtain⟨c4,hc4⟩:∃c,(!b4)=c:=⟨_,rfl⟩;rw[hc2]at e2;rw[hc3]at e3;rw[hc4]at e4;by_cases hall:(b2&&b3&&b4)=true
  ·simp only[Bool.and_eq_true]at hall
   obtain⟨⟨rfl,rfl⟩,rfl⟩:=hall;subst hc2 hc3 hc4;rw[show(!true)=false from rfl]at e2 e3 e4;go_wp2_with fail;have hY:=DC.out _ (Fr.refl _ _).drew;refine wp_region_held_drew (S:=fun W=>W.cell? ⟨bA,0,none⟩=some (.pointer (some ⟨q.m,0,none⟩))∧W.cell? ⟨bC,0,none⟩=some (.string sb)∧W.cell? ⟨w1.heap.size,3,none⟩=some (.int .i64 n)) (by kernel_rfl) (hY) (fun yH=> ?_);refine tkY 0 yH ?_;refine tkY 1 yH ?_;refine tkY 2 yH ?_;refine tkY 3 yH ?_;refine tkY 4 yH ?_;refine tkY 7 yH ?_;refine tkC 5 fun K hK=> ?_;go_simp;with_reducible refine(HR.out _ (K2.out.drew)).mono ?_
   rintro e w5 ⟨gr,cap,rfl,hgr,hrb,h5,f5⟩;have H5:=hid h5;have F5:=hid (F2.out.drew.trans f5);have hs6:=HCV.out _ _ _ hrb;have hY:=DC.out _ ((Fr.refl _ _).drew.trans f5);clear h5 f5 hrb;go_wp2_with fail;refine hK.out _ _ _ hY fun yH=> ?_;clear hK K;refine tkC 6 fun K hK=> ?_;go_simp;refine hK.out _ _ _ hY fun yH=> ?_;clear hK K;refine tkY 8 yH ?_;refine tkY 9 yH ?_;refine wpAnyH_done (by kernel_rfl) ?_ _;try simp only[Act.put,List.getElem_toArray,List.getElem_cons_zero,List.getElem_cons_succ,List.setIfInBounds_toArray,List.set_cons_zero,List.set_cons_succ]
   go_wp2_with fail;go_ret;exact⟨rfl,H5.out,F5.out⟩
  ·have HFF:=hid (show(b2&&b3&&b4&&b5)=false from by rw[Bool.eq_false_iff.2 hall];rfl)
   have hcc:c2=true∨(c2=false∧c3=true)∨(c2=false∧c3=false∧c4=true):=by
    revert hall hc2 hc3 hc4;cases b2<;>cases b3<;>cases b4<;>simp<;>intros<;>simp_all
   clear hall hc2 hc3 hc4;rcases hcc with rfl|⟨rfl,rfl⟩|⟨rfl,rfl,rfl⟩
   all_goals
    go_wp2_with fail;go_ret;exact⟨by rw[HFF.out];rfl,K2.out,F2.out⟩
theorem zsi(h:IsH w q t)(g:IxI t L E)(P:Nat→Bool)(hs bA bB bC bD:Nat)(hh:hs<4294967296)(hIS:∀W,IsH W q t→Fr q.blocks w W→∀y,L y→Calls prog 295 #[.int .i64 y,.pointer (some ⟨bA,0,none⟩),.pointer (some ⟨bB,0,none⟩),.pointer (some ⟨bC,0,none⟩),.pointer (some ⟨bD,0,none⟩)] W fun e w'=>e= .returned (.bool (P y))∧IsH w' q t∧Fr q.blocks W w'):Calls prog 152 #[.agg #[.pointer (some ⟨q.m,0,none⟩),.int .i64 t.s],.agg #[.int .u32 hs,.func (.func 295) #[] #[.pointer (some ⟨bA,0,none⟩),.pointer (some ⟨bB,0,none⟩),.pointer (some ⟨bC,0,none⟩),.pointer (some ⟨bD,0,none⟩)]]] w fun e w'=>e= .returned (match fndT t.sl (hmE t E) t.s (hs %t.s) P with|some i=> .tuple #[.int .i64 (t.sl i),.bool true] |none=> .tuple #[.int .i64 0,.bool false])∧IsH w' q t∧Fr q.blocks w w':=by
 have hs0:=g.s0;have hs1:=g.s1;have hF0:Fr q.blocks w ((w.alloc (.cells #[.pointer (some ⟨q.m,0,none⟩),.int .i64 t.s] 136)).alloc (.cells #[.int .u32 hs,.func (.func 295) #[] #[.pointer (some ⟨bA,0,none⟩),.pointer (some ⟨bB,0,none⟩),.pointer (some ⟨bC,0,none⟩),.pointer (some ⟨bD,0,none⟩)]] 203)):=((Fr.refl q.blocks w).alloc _).alloc _;have H0:=(h.alloc (.cells #[.pointer (some ⟨q.m,0,none⟩),.int .i64 t.s] 136)).alloc (.cells #[.int .u32 hs,.func (.func 295) #[] #[.pointer (some ⟨bA,0,none⟩),.pointer (some ⟨bB,0,none⟩),.pointer (some ⟨bC,0,none⟩),.pointer (some ⟨bD,0,none⟩)]] 203);have HF:=hid (zyf H0 g P hs bA bB bC bD hh (fun W hW hf y hy=>hIS W hW (hF0.trans hf) y hy));have F0:=hid hF0;have B0:=hid ((Blk.new w 136 #[.pointer (some ⟨q.m,0,none⟩),.int .i64 t.s]).alloc (.cells #[.int .u32 hs,.func (.func 295) #[] #[.pointer (some ⟨bA,0,none⟩),.pointer (some ⟨bB,0,none⟩),.pointer (some ⟨bC,0,none⟩),.pointer (some ⟨bD,0,none⟩)]] 203));have hlt:=h.m.lt;have nb:w.heap.size∉q.blocks:=fun hm=>by have:=hlt _ hm;omega
 have HGT:=hid (fun W (i:Nat) (hi:i<t.s) (hW:IsH W q t)=>(show Calls prog 141 #[.agg #[.pointer (some ⟨q.m,0,none⟩),.int .i64 t.s],.int .i64 i] W fun e w'=>e= .returned (.int .i64 (t.sl i))∧IsH w' q t∧Fr q.blocks W w' from by
  have:=iget hW.m i (by omega) hs0;rw[Nat.mod_eq_of_lt hi]at this;exact this.mono fun e w' ⟨he,k1,k2⟩=>⟨he,hW.step k1 k2,k2⟩))
 have hlt2:∀i,fndT t.sl (hmE t E) t.s (hs %t.s) P=some i→i<t.s:=fun i e=>zjc hs0 _ _ _ e;generalize fndT t.sl (hmE t E) t.s (hs %t.s) P=R at*;generalize t.sl=T at*;generalize t.s=s at*;clear h hF0 H0 hIS hlt g;rcases R with _|i
 ·rw[show optZ none= -1 from rfl]at HF
  clear hlt2;go_enter func152,ntmps152;go_wp2_with fail;with_reducible refine HF.out.mono ?_
  rintro e w1 ⟨rfl,k1,f1⟩;have K1:=hid k1;have F1:=hid (F0.out.trans f1);clear k1 f1;go_wp2_with fail;go_ret2;exact⟨rfl,K1.out,F1.out⟩
 ·have hi:=hlt2 i rfl
  rw[show optZ (some i)=i from rfl]at HF;have hi0':((i:Int)== -1)=false:=by rw[beq_eq_false_iff_ne];omega
  have HG:=hid (fun W hW=>HGT.out W i hi hW);dsimp only;generalize T i=v at*;clear hlt2;go_enter func152,ntmps152;go_wp2_with fail;with_reducible refine HF.out.mono ?_
  rintro e w1 ⟨rfl,k1,f1⟩;have K1:=hid k1;have F1:=hid (F0.out.trans f1);have hb:=B0.out.fr f1 nb;have d0:=hb.cell 0;have d1:=hb.cell 1;simp only[List.getElem?_toArray,List.getElem?_cons_zero,List.getElem?_cons_succ]at d0 d1;clear k1 f1 hb;go_wp2_with fail;with_reducible refine(HG.out _ K1.out).mono ?_
  rintro e w2 ⟨rfl,k2,f2⟩;have K2:=hid k2;have F2:=hid (F1.out.trans f2);clear k2 f2;go_wp2_with fail;go_ret2;exact⟨rfl,K2.out,F2.out⟩
theorem zxp(gI:WB w0 q S L u E B W)(name:Nat)(lab:List Nat)(hs:Nat)(hn:name<4294967296)(hl:∀b∈lab,b<256)(hlen:lab.length≤9223372036854775807)(hh:hs<4294967296):∀w,IsH w q u→Calls prog 285 #[.pointer (some ⟨q.m,0,none⟩),.int .u32 name,.string (zag lab),.int .u32 hs] w fun e w'=>e= .returned (match fndT u.sl (hmE u E) u.s (hs %u.s) (isNd E B name lab hs)with|some i=> .tuple #[.int .i64 (u.sl i),.bool true] |none=> .tuple #[.int .i64 0,.bool false])∧IsH w' q u∧Fr q.blocks w w':=by
 intro w h;have g:=gI.ix;generalize hsl:zag lab=sl;obtain⟨A0,hA0⟩:∃A,A=w.alloc (.cells #[.pointer (some ⟨q.m,0,none⟩)] 26):=⟨_,rfl⟩;obtain⟨A1,hA1⟩:∃A,A=A0.alloc (.cells #[.int .u32 name] 87):=⟨_,rfl⟩;obtain⟨A2,hA2⟩:∃A,A=A1.alloc (.cells #[.string sl] 9):=⟨_,rfl⟩;obtain⟨A3,hA3⟩:∃A,A=A2.alloc (.cells #[.int .u32 hs] 87):=⟨_,rfl⟩;have z0:A0.heap.size=w.heap.size+1:=by rw[hA0];simp
 have z1:A1.heap.size=w.heap.size+1+1:=by rw[hA1];simp[z0]
 have z2:A2.heap.size=w.heap.size+1+1+1:=by rw[hA2];simp[z1]
 have kA:Blk A3 w.heap.size 26 #[.pointer (some ⟨q.m,0,none⟩)] :=by rw[hA3,hA2,hA1,hA0];exact(((Blk.new w _ _).alloc _).alloc _).alloc _
 have kB:Blk A3 (w.heap.size+1) 87 #[.int .u32 name] :=by rw[hA3,hA2,hA1,←z0];exact((Blk.new A0 _ _).alloc _).alloc _
 have kC:Blk A3 (w.heap.size+1+1) 9 #[.string sl] :=by rw[hA3,hA2,←z1];exact(Blk.new A1 _ _).alloc _
 have kD:Blk A3 (w.heap.size+1+1+1) 87 #[.int .u32 hs] :=by rw[hA3,←z2];exact Blk.new A2 _ _
 have fA:Fr q.blocks w A3:=by rw[hA3,hA2,hA1,hA0];exact((((Fr.refl _ w).alloc _).alloc _).alloc _).alloc _
 have hA:IsH A3 q u:=by rw[hA3,hA2,hA1,hA0];exact(((h.alloc _).alloc _).alloc _).alloc _
 have hlt:=h.m.lt;have nq:∀k,w.heap.size≤k→k∉q.blocks:=fun k hk hm=>by have:=hlt _ hm;omega
 have HOF:=hid (fun W (hW:IsH W q u)=>(show Calls prog 78 #[.pointer (some ⟨q.m,0,none⟩)] W fun e w'=>e= .returned (.agg #[.pointer (some ⟨q.m,0,none⟩),.int .i64 u.s])∧Fr [] W w' from iof hW.m))
 have HFO:=hid (fun W (hW:IsH W q u) (hf:Fr q.blocks A3 W)=>zsi hW g (isNd E B name lab hs) hs w.heap.size (w.heap.size+1) (w.heap.size+1+1) (w.heap.size+1+1+1) hh (fun V hV hf2 y hy=>by
  have hF:=hf.trans hf2;exact zw7 gI hV hy name hs _ _ _ _ lab hl hlen (nq _ (by omega)) (nq _ (by omega)) (nq _ (by omega)) (nq _ (by omega)) (kA.fr hF (nq _ (by omega))) (kB.fr hF (nq _ (by omega))) (by rw[hsl];exact kC.fr hF (nq _ (by omega))) (kD.fr hF (nq _ (by omega)))))
 have DC:=hid (fun V (hV:Fr q.blocks A3 V)=>And.intro (show V.cell? ⟨w.heap.size,0,none⟩=some (.pointer (some ⟨q.m,0,none⟩))from(kA.fr hV (nq _ (by omega))).cell 0) (show V.cell? ⟨w.heap.size+1+1+1,0,none⟩=some (.int .u32 hs)from(kD.fr hV (nq _ (by omega))).cell 0));have H0:=hid hA.drew;have FA:=hid fA;have hY:=DC.out _ (Fr.refl _ A3).drew;have HA3:((((w.alloc (.cells #[.pointer (some ⟨q.m,0,none⟩)] 26)).alloc (.cells #[.int .u32 name] 87)).alloc (.cells #[.string sl] 9)).alloc (.cells #[.int .u32 hs] 87))=A3:=by rw[hA3,hA2,hA1,hA0]
 obtain⟨RV,hRV⟩:∃RV:Value×Value,(match fndT u.sl (hmE u E) u.s (hs %u.s) (isNd E B name lab hs)with|some i=>Value.tuple #[.int .i64 (u.sl i),.bool true] |none=> .tuple #[.int .i64 0,.bool false])= .tuple #[RV.1,RV.2] :=by
  cases fndT u.sl (hmE u E) u.s (hs %u.s) (isNd E B name lab hs)with
  |some i=>exact⟨(_,_),rfl⟩
  |none=>exact⟨(_,_),rfl⟩
 rw[hRV]at HFO⊢;obtain⟨r1,r2⟩:=RV;generalize u.s=s at*;clear h g gI hA0 hA1 hA2 hA3 z0 z1 z2 kA kB kC kD fA hA hlt hRV;go_enter func285,ntmps285;go_wp2_with fail;try rw[HA3]
 refine wp_region_held_drew (S:=fun W=>W.cell? ⟨w.heap.size,0,none⟩=some (.pointer (some ⟨q.m,0,none⟩))∧W.cell? ⟨w.heap.size+1+1+1,0,none⟩=some (.int .u32 hs)) (by kernel_rfl) (hY) (fun yH=> ?_);refine tkY 0 yH ?_;refine tkY 2 yH ?_;refine tkY 3 yH ?_;refine tkY 4 yH ?_;refine tkC 1 fun K hK=> ?_;go_simp;with_reducible refine(HOF.out _ H0.out).mono ?_
 rintro e w1 ⟨rfl,f1⟩;have K1:=hid (H0.out.fr0 f1);have F1:=hid ((Fr.refl q.blocks A3).drew.trans f1.nil);have hY:=DC.out _ F1.out;clear f1;go_wp2_with fail;refine hK.out _ _ _ hY fun yH=> ?_;clear hK K;refine tkC 5 fun K hK=> ?_;go_simp;with_reducible refine(HFO.out _ K1.out F1.out).mono ?_
 rintro e w2 ⟨rfl,k2,f2⟩;have K2:=hid k2;have F2:=hid (F1.out.trans f2);have hY:=DC.out _ F2.out;clear k2 f2;go_wp2_with fail;refine hK.out _ _ _ hY fun yH=> ?_;clear hK K;refine tkY 6 yH ?_;refine tkY 7 yH ?_;refine tkY 8 yH ?_;refine tkY 9 yH ?_;refine wpAnyH_done (by kernel_rfl) ?_ _;try simp only[Act.put,List.getElem_toArray,List.getElem_cons_zero,List.getElem_cons_succ,List.setIfInBounds_toArray,List.set_cons_zero,List.set_cons_succ]
 go_wp2_with fail;go_ret2;exact⟨rfl,K2.out,FA.out.trans F2.out⟩
end
structure Fx(u:TM)(S:SS)(L:Nat→Prop)(x c:Nat):Prop where
 lv:Lv 7 S x (csz c)
 cl:1≤c∧c≤9
 no: ¬L x
 z:ByOn u x (csz c) (fun _=>0)
section
variable {w0 W : World} {q : MH} {S S' : SS} {x y n c : Nat} {u v : TM} {L : Nat → Prop} {E : Nat → HB} {B : Nat → List Nat} {b : List Nat}
def TkW(w0:World)(q:MH)(S:SS)(L:Nat→Prop)(u:TM)(E:Nat→HB)(B:Nat→List Nat)(c x r:Nat)(w':World):Prop:=
 (r=5∧x=0∧hd1 (lst 7 S.inn 0)=0∧ ∃v,Sla u v∧WB w0 q S L v E B w')∨(r=0∧ ∃S' v,Sla u v∧WB w0 q S' L v E B w'∧Fx v S' L x c∧zzm 7 S S' x (csz c))
theorem WB.cz(g:WB w0 q S L u E B W):zae u.a u.s=zae 7 224:=by rw[g.a,g.s]
theorem zuv(g:WB w0 q S L u E B W)(c:Nat)(hc:1≤c∧c≤9):Calls prog 37 #[.pointer (some ⟨q.m,0,none⟩),.int .i64 c] W fun e w'=>∃x r:Nat,e= .returned (.tuple #[.int .i64 x,.int .i64 r])∧Fr q.blocks W w'∧TkW w0 q S L u E B c x r w':=by
 have hcl:=z1h g.h g.sl c;have hp:=zlp g.sl g.h.m.ok c;have hfu:=zlx (b:=zab 7 224) g.fl (c:Int);rw[g.a,g.s]at hcl hp;rw[zbj c hc.2]at hp;refine hcl.mono fun e w' ⟨he,v,k1,k2,k3,k4,k5,k6⟩=>⟨_,_,he,k6,?_⟩;rw[zbj c hc.2]at k5;by_cases h0:(zcj 7 (zab 7 224) S c).2.1=0
 ·obtain⟨-,-,tl⟩:=hp h0
  refine .inr ⟨h0,_,v,k3,g.keep k1 k6 k2 hfu k3.a k3.s k3.sl k3.ft (fun y hy=>⟨hy,fun m hm=>⟨(tl.old y m hm).1,fun k hk=> ?_⟩⟩) (fun i hi=>g.ix.sl i (by rw[g.s];exact hi)),⟨tl.new,hc,fun hL=> ?_,k5 h0⟩,tl⟩
  ·obtain⟨i,hi,hyi,rfl⟩:=hm
   exact k4 i (by rw[g.a];exact hi) y hyi (fun _=>(tl.old y _ ⟨i,hi,hyi,rfl⟩).2) k hk
  ·obtain⟨m,hm⟩:=g.lv hL
   exact(tl.old _ m hm).2 rfl
 ·have hS:=zoi 7 (zab 7 224) S c h0
  rw[hS]at k2
  have h5:(zcj 7 (zab 7 224) S c).2.1=5∧(zcj 7 (zab 7 224) S c).1=0∧hd1 (lst 7 S.inn 0)=0:=by
   unfold zcj at h0⊢;have hz:cszZ (c:Int)≠0:=by rw[zbj c hc.2];have:=zai c hc.1 hc.2;omega
   rw[if_neg hz]at h0⊢;by_cases a1:0<hd1 (lst 7 S.inn (c:Int).toNat)
   ·rw[if_pos a1]at h0
    exact absurd rfl h0
   ·rw[if_neg a1]at h0⊢
    by_cases a2:0<hd1 (lst 7 S.inn 0)
    ·rw[if_pos a2]at h0
     exact absurd rfl h0
    ·rw[if_neg a2]
     exact⟨rfl,rfl,by omega⟩
  refine .inl ⟨h5.1,h5.2.1,h5.2.2,v,k3,g.keep k1 k6 k2 g.fl k3.a k3.s k3.sl k3.ft (fun y hy=>⟨hy,fun m hm=>⟨hm,fun k hk=> ?_⟩⟩) (fun i hi=>g.ix.sl i (by rw[g.s];exact hi))⟩;obtain⟨i,hi,hyi,rfl⟩:=hm;exact k4 i (by rw[g.a];exact hi) y hyi (fun e=>absurd e h0) k hk
theorem zmq(g:WB w0 q S L u E B W)(hx:Lv 7 S x n)(hsl:∀i,i<224→u.sl i≠x):Calls prog 39 #[.pointer (some ⟨q.m,0,none⟩),.int .i64 x] W fun e w'=>e= .returned (.int .i64 0)∧Fr q.blocks W w'∧∃S' v,Sla u v∧WB w0 q S' (fun y=>L y∧y≠x) v E B w'∧∀y m,Lv 7 S' y m↔Lv 7 S y m∧y≠x:=by
 have hcl:=z00 g.h g.sl x;have hp:=zjy g.sl g.h.m.ok (g.lv7 hx);have hfu:=zl6 (b:=zab 7 224) g.fl (x:Int);rw[g.a,g.s]at hcl hp;obtain⟨S',e1,hS'⟩:=hp;rw[e1]at hcl hfu;refine hcl.mono fun e w' ⟨he,v,k1,k2,k3,k4,k6⟩=>⟨he,k6,S',v,k3,g.keep k1 k6 k2 hfu k3.a k3.s k3.sl k3.ft (fun y ⟨hy,hne⟩=>⟨hy,fun m hm=>⟨(hS' y m).2 ⟨hm,hne⟩,fun k hk=> ?_⟩⟩) (fun i hi=> ?_),hS'⟩
 ·obtain⟨i,hi,hyi,rfl⟩:=hm
  exact k4 i (by rw[g.a];exact hi) y hyi (fun _ e=>hne (by exact_mod_cast e)) k hk
 ·rcases g.ix.sl i (by rw[g.s];exact hi)with h|h
  ·exact .inl h
  ·exact .inr ⟨h,hsl i hi⟩
theorem zes:∀{l m:List Nat},l.Nodup→(∀x∈l,x∈m)→l.length≤m.length
 | [],_,_,_=>Nat.zero_le _
 |a::l,m,hn,hs=>by
  obtain⟨h1,h2⟩:=List.nodup_cons.1 hn;have ha:=hs a List.mem_cons_self
  have:=zes (l:=l) (m:=m.erase a) h2 (fun x hx=>by
   have hne:x≠a:=fun e=>h1 (e▸hx);exact(List.mem_erase_of_ne hne).2 (hs x (List.mem_cons_of_mem _ hx)))
  have hl:=List.length_erase_of_mem ha;have h0:=List.length_pos_of_mem ha;rw[List.length_cons];omega
def zj3(S:SS):Nat→List Nat
 |0=> []
 |i+1=>zj3 S i++S.lv i
theorem zew(S:SS):∀{k i x:Nat},i<k→x∈S.lv i→x∈zj3 S k
 |k+1,i,x,hi,hx=>by
  unfold zj3;rw[List.mem_append];rcases Nat.lt_or_ge i k with h|h
  ·exact .inl (zew S h hx)
  ·obtain rfl:i=k:=by omega
   exact .inr hx
theorem zft(hs:SlI u S):∀k,k≤u.a→(zj3 S k).length≤32*k
 |0,_=>Nat.le_refl _
 |k+1,hk=>by
  have h1:=zft hs k (by omega);have h2:=hs.each k (by omega)
  have h3:(S.lv k).length≤32:=by
   by_cases h0:S.cls k=0
   ·rw[(h2.z h0).2.1];simp
   ·have:=h2.len h0
    have:=zai (S.cls k) (by omega) h2.c9;omega
  unfold zj3;rw[List.length_append];omega
theorem WB.room(g:WB w0 q S L u E B W)(hx:LvP S x)(hn:¬InT 224 u.sl x):∃s,s<224∧u.sl s=0:=by
 rcases Classical.em (∃s,s<224∧u.sl s=0)with h|h
 ·exact h
 ·exfalso
  have h0:∀s,s<224→u.sl s≠0:=fun s hs e=>h ⟨s,hs,e⟩
  have hnd:(x::(List.range 224).map u.sl).Nodup:=by
   rw[List.nodup_cons];refine⟨fun hm=> ?_,?_⟩
   ·obtain⟨s,hs,e⟩:=List.mem_map.1 hm
    exact hn ⟨s,List.mem_range.1 hs,e⟩
   ·rw[List.Nodup,List.pairwise_map]
    exact List.Pairwise.imp_of_mem (fun{a b} ha hb hne e=>hne (g.rh.nd a b (List.mem_range.1 ha) (List.mem_range.1 hb) (h0 a (List.mem_range.1 ha)) e)) (List.nodup_range (n:=224))
  have hsub:=zes (m:=zj3 S 7) hnd (fun y hy=>by
   have hl:LvP S y:=by
    rcases List.mem_cons.1 hy with e|hy
    ·rw[e];exact hx
    ·obtain⟨s,hs,e⟩:=List.mem_map.1 hy
     have hs':=List.mem_range.1 hs;rw[←e];exact g.lv ((g.ix.sl s (by rw[g.s];exact hs')).resolve_left (h0 s hs'))
   obtain⟨m,i,hi,hyi,-⟩:=hl;exact zew S hi hyi)
  have hlen:=zft g.sl 7 (by rw[g.a];exact Nat.le_refl _);simp at hsub;omega
theorem WB.ne0(g:WB w0 q S L u E B W)(hx:L x):x≠0∧x<1048576:=by
 have:=(g.ix.e x hx).pos g.h.m.ok;omega
theorem zs7(g:WB w0 q S L u E B W)(hx:L x)(hn:¬InT 224 u.sl x):Calls prog 91 #[.pointer (some ⟨q.m,0,none⟩),.int .i64 x] W fun e w'=>e= .returned (.int .i64 0)∧Fr q.blocks W w'∧∃T,WB w0 q S L (u.wsl T) E B w'∧∀y,y≠0→(InT 224 T y↔y=x∨InT 224 u.sl y):=by
 have h0:=g.ne0 hx;obtain⟨f1,f2⟩:=g.rh.found h0.1;have hm0:hmE u E x<224:=g.rh.r.hm x;have hs:=g.s;cases hp:fndT u.sl (hmE u E) 224 (hmE u E x) (fun z=>z==x)with
 |some i=>exact absurd ⟨i,f1 i hp⟩ hn
 |none=>
  have hno:=f2 hp;have hp':fndT u.sl (hmE u E) u.s ((E x).hash %u.s) (fun z=>z==x)=none:=by rw[hs];exact hs▸hp
  cases hg:gapT u.sl 224 (hmE u E x)with
  |none=>
   obtain⟨s,hsl,hz⟩:=g.room (g.lv hx) hn;obtain⟨j,hj,rfl⟩:=zb6 (n:=224) (hmE u E x) hsl;exact absurd hz (ze1 224 _ u.sl 224 0 hg j (Nat.zero_le _) (by omega))
  |some g0=>
   have hg':gapT u.sl u.s ((E x).hash %u.s)=some g0:=by rw[hs];exact hs▸hg
   obtain⟨k,gg,ip,hk,hgg⟩:=zve (T:=u.sl) (H:=hmE u E) (n:=224) (by decide) hm0 hg;have Q:InsQ 224 u.sl (hmE u E) (hmE u E x) k gg x:=⟨g.rh.r,ip,hk,hgg,rfl,h0.1,hno⟩;have ip':InsP u.sl (hmE u E) u.s ((E x).hash %u.s) k gg:=by rw[hs];exact hs▸ip
   refine(zv7 g.h g.ix (g.ix.e x hx) rfl hp' hg' ip').mono fun e w' ⟨he,k1,k2⟩=>⟨he,k2,insX u.sl 224 (hmE u E x+k) gg x,?_,fun y hy=>Q.inT hy⟩
   have e1:up (shS u.s ((E x).hash %u.s+k) gg u.sl) (((E x).hash %u.s+k) %u.s) x=insX u.sl 224 (hmE u E x+k) gg x:=by
    unfold insX hmE;rw[hs]
   rw[e1]at k1;exact g.slots k1 k2 (zfr Q (fun i hi=>g.ix.sl i (by rw[hs];exact hi)) hx) (Q.rz g.rh)
theorem zz5(g:WB w0 q S L u E B W)(hx:L x)(hin:InT 224 u.sl x):Calls prog 54 #[.pointer (some ⟨q.m,0,none⟩),.int .i64 x] W fun e w'=>e= .returned (.int .i64 0)∧Fr q.blocks W w'∧∃T,WB w0 q S L (u.wsl T) E B w'∧∀y,y≠0→(InT 224 T y↔InT 224 u.sl y∧y≠x):=by
 have h0:=g.ne0 hx;obtain⟨f1,f2⟩:=g.rh.found h0.1;have hs:=g.s;cases hp:fndT u.sl (hmE u E) 224 (hmE u E x) (fun z=>z==x)with
 |some i=>
  obtain⟨hi,e1⟩:=f1 i hp;have:=idel (i0:=i) g.h g.ix (g.ix.e x hx) (by rw[hs];exact hi) (by rw[hs];exact hs▸hp);obtain⟨m,P⟩:=zks 224 (hmE u E) 223 i u.sl (by decide);have him:i %224=i:=Nat.mod_eq_of_lt hi;refine this.mono fun e w' ⟨he,k1,k2⟩=>⟨he,k2,dlS (hmE u E) 224 223 i u.sl,?_,fun y hy=>by rw[DlP.inT (n:=224) P g.rh hy,him,e1]⟩;have e2:dlS (hmE u E) u.s (u.s-1) i u.sl=dlS (hmE u E) 224 223 i u.sl:=by rw[hs]
  rw[e2]at k1;refine g.slots k1 k2 (fun j hj=> ?_) (DlP.rz (n:=224) P g.rh (by rw[him,e1];exact h0.1));by_cases z:dlS (hmE u E) 224 223 i u.sl j=0
  ·exact .inl z
  ·obtain⟨⟨s,hsl,e3⟩,_⟩:=(DlP.inT (n:=224) P g.rh z).1 ⟨j,hj,rfl⟩
   rw[←e3];exact .inr ((g.ix.sl s (by rw[hs];exact hsl)).resolve_left (by rw[e3];exact z))
 |none=>
  obtain⟨s,hs2,e⟩:=hin;exact absurd e (f2 hp s hs2)
end
end Go.Proofs.YtolhkhdbgnciiaaGreatDoor
