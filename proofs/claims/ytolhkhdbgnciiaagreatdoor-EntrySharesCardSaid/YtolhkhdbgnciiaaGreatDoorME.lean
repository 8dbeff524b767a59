/- Several texts in one. -/
import Derived.Test.YtolhkhdbgnciiaaGreatDoorMD
namespace Go.Proofs.YtolhkhdbgnciiaaGreatDoor
open _root_.Go.Proofs.Tryz
open Go.Lib (hid)
open Go.IntWalk (i64_in)
set_option linter.unusedVariables false
set_option linter.unusedSimpArgs false
open Go.RowKit
set_option maxRecDepth 100000
set_option maxHeartbeats 4000000
theorem zr8(l:List Nat):(l.map lowB).length=l.length:=by simp
theorem zwd(w:World)(t:TypeId)(l:List Nat)(hl:∀b∈l,b<256)(hlen:l.length≤1048576)(cap:Nat)(z:Nat×Nat):Byt (w.alloc (.cells (bytesRow (zag l) cap) t z)) (some ⟨w.heap.size,0,none⟩) l:=by
 refine⟨fun i hi=>⟨w.heap.size,0,rfl,?_,by simp[World.alloc,-World.alloc_eq]⟩,hl,by omega⟩;have hi2:i<(zag l).data.size:=by simpa[zag]using hi
 have hc:=cell_of_row (w.alloc (.cells (bytesRow (zag l) cap) t z)) w.heap.size i (bytesRow (zag l) cap) t z (heap_alloc_new w _);rw[Nat.zero_add,hc,bytesRow_at _ _ _ hi2];have h3:=zc4 l hl i (by rw[za4];exact hi);have h4:((zag l).data[i]'hi2).toNat=l[i]?.getD 0:=h3;rw[h4]
section
variable {w0 W : World} {q : MH} {S : SS} {x y c p : Nat} {u v : TM} {L : Nat → Prop} {l : List Nat} {E E' : Nat → HB} {B : Nat → List Nat} {X : HB} {b : List Nat}
theorem zqm(g:NI w0 q S L l u E B W)(hf:Fx u S L x (clsN (16+b.length)))(hp:p=0∨p∈l)(hb:∀k∈b,k<256)(hk:zap b=true)(hno:fndN l E B p (b.map lowB)=none)(hrf:p≠0→(E p).refs+1<4294967296):Calls prog 193 #[.pointer (some ⟨q.m,0,none⟩),.int .i64 x,.int .i64 p,.string (zag b)] W fun e w'=>e= .returned (.int .i64 0)∧Fr q.blocks W w'∧∃v E' B',NI w0 q S (fun y=>y=x∨L y) (l++ [x]) v E' B' w'∧NewE E E' B B' x p (b.map lowB)∧RtQ u v:=by
 have hlen:=zfo hk;have hc:=zpl (16+b.length) (by omega);have hll:=zr8 b;have hlow:=zkf hb;have hxb:=g.wb.at_ hf.lv;have hbase:=g.wb.base;have hx0:x≠0:=by omega
 have hxs:x<4294967296:=by have h1:=hxb.2.2.2.2.2.1;have h2:=g.wb.cz;have h3:zae 7 224≤1048576:=(by decide);omega
 have hpl:p<1048576:=by
  rcases hp with e|e
  ·omega
  ·exact(g.lt e).2
 have hh:=g.hlt p hp;have hmx:=zqk (hsh E p) (b.map lowB);obtain⟨X,hX⟩:∃X,newX (clsN (16+b.length)) b.length p (mixL (hsh E p) (b.map lowB))=X:=⟨_,rfl⟩;have hXo:X.Ok:=hX▸zvc hc.2.1 (by omega) (by omega) hmx;have hXr:X.right=true:=hX▸zlq ⟨hc.1,hc.2.1⟩ hlen;have hXt:X.tag=2:=by rw[←hX];rfl
 have few:=g.few;have H0:=hid (g.fr0 ((Fr.refl [] W).alloc (.cells #[.int .i64 0] 39)));have F0:=hid ((Fr.refl q.blocks W).alloc (.cells #[.int .i64 0] 39));have A0:=hid (Blk.new W 39 #[.int .i64 0]);have hlt:=g.wb.lt;have HNA:=hid (show W.heap.size∉q.blocks from fun hm=>by have:=hlt _ hm;omega);have HM:=hid (zll H0.out.wb.h.m)
 have HCl:=hid (fun V (hV:NI w0 q S L l u E B V)=>(show Calls prog 95 #[.string (zag b)] V fun e w'=>e= .returned (.tuple #[.int .i64 (clsN (16+b.length)),.int .i64 0])∧Fr [] V w' from by
  have:=ztv hV.wb.h.m.tab b hb;rw[if_pos hk]at this;exact this))
 have HPa:=hid (fun V (hV:NI w0 q S L l u E B V)=>(show Calls prog 261 #[.pointer (some ⟨q.m,0,none⟩),.int .i64 p] V fun e w'=>e= .returned (.bool true)∧IsH w' q u∧Fr q.blocks V w' from by
  rcases Nat.eq_zero_or_pos p with e|h1
  ·rw[e];exact zkr hV.wb.h
  ·have hm:=hp.resolve_left (by omega)
   have:=zo2 hV.wb.h (hV.wb.ix.e p ((hV.mem p).1 hm).1) (by omega);rw[((hV.mem p).1 hm).2]at this;exact this))
 have HBl:=hid (fun V (hV:NI w0 q S L l u E B V)=>zyg hV.wb hf)
 have HFi:=hid (fun V (hV:NI w0 q S L l u E B V)=>(show Calls prog 254 #[.pointer (some ⟨q.m,0,none⟩),.int .i64 p,.string (zag b)] V fun e w'=>e= .returned (.tuple #[.int .i64 0,.bool false])∧IsH w' q u∧Fr q.blocks V w' from by
  have:=zyv hV p hp b hb;rw[if_pos hk,hno]at this;exact this))
 have HLo:=hid (fun V=>zqf V b hb (by omega))
 have HHs:=hid (fun V (hV:NI w0 q S L l u E B V)=>(show Calls prog 155 #[.pointer (some ⟨q.m,0,none⟩),.int .i64 p] V fun e w'=>e= .returned (.int .u32 (hsh E p))∧IsH w' q u∧Fr q.blocks V w' from by
  unfold hsh;rcases Nat.eq_zero_or_pos p with e|h1
  ·rw[if_pos e,e]
   exact(zqg V _).mono fun e w' ⟨h1,h2⟩=>⟨h1,by rw[h2];exact hV.wb.h,by rw[h2];exact Fr.refl _ _⟩
  ·have hm:=hp.resolve_left (by omega)
   rw[if_neg (by omega)];exact zvo hV.wb.h (hV.wb.ix.e p ((hV.mem p).1 hm).1) (by omega) ((hV.mem p).1 hm).2))
 have HMx:=hid (fun V=>(show Calls prog 264 #[.int .u32 (hsh E p),.string (zag (b.map lowB))] V fun e w'=>e= .returned (.int .u32 (mixL (hsh E p) (b.map lowB)))∧Fr [] V w' from by
  have:=xlab V (hsh E p) (b.map lowB) hlow (by omega);rw[zgu]at this;exact this))
 have hsz0:(zag (b.map lowB)).size=b.length:=by rw[za4,hll]
 have HPu:=hid (fun V (hV:NI w0 q S L l u E B V)=>(show Calls prog 89 #[.pointer (some ⟨q.m,0,none⟩),.int .i64 x,.agg #[.int .i64 2,.int .i64 (clsN (16+b.length)),.bool false,.int .i64 (zag (b.map lowB)).size,.int .u32 p,.int .u32 0,.int .u32 0,.int .u32 0,.int .u64 0,.int .u16 0,.int .i64 0,.int .u32 (mixL (hsh E p) (b.map lowB))]] V fun e w'=>e= .returned (.int .i64 0)∧Fr q.blocks V w'∧∃v,(WB w0 q S L v E B w'∧BlkE v x X)∧v.sl=u.sl∧v.rt=u.rt from by
  rw[hsz0];have:=zs2 hV.wb hf.lv hf.no hXo hXr (.inr hXt);rw[←hX]at this;refine this.mono fun e w' ⟨h1,h2,v,h3,h4,h5,h6⟩=>⟨h1,h2,v,⟨h3,hX▸h4⟩,h5,h6⟩))
 have hfit:16+(b.map lowB).length≤csz (clsN (16+b.length)):=by rw[hll];exact hc.2.2
 have HWr:=hid (fun V v (hV:WB w0 q S L v E B V∧BlkE v x X) (g1:Nat) (cap:Nat) (hB:Byt V (some ⟨g1,0,none⟩) (b.map lowB)) (hg1:g1≠q.pw)=>(show Calls prog 90 #[.pointer (some ⟨q.m,0,none⟩),.int .i64 ((x:Int)+16),.slice (some ⟨g1,0,none⟩) (zag (b.map lowB)).size cap,.int .i64 5] V fun e w'=>e= .returned (.bool true)∧Fr q.blocks V w'∧∃v',WB w0 q S (fun y=>y=x∨L y) v' (up E x X) (up B x (b.map lowB)) w'∧v'.sl=v.sl∧v'.rt=v.rt from by
  rw[hsz0];have:=zq8 (c:=cap) hV.1 hf.lv hf.no hV.2 hXt hB (fun g o e=>by cases e;exact hg1) hfit;rw[hll]at this;refine this.mono fun e w' ⟨h1,h2,v',h3,h4,h5,h6,h7⟩=>⟨h1,h2,v',h3.add hf.no h4 ?_,h5,h6⟩;have hsz:sz X.tag.toNat=16:=by rw[hXt];rfl
  refine⟨⟨clsN (16+b.length),?_,hc.1,hc.2.1,hf.lv,?_⟩,hlow,?_,fun _=>⟨?_,by rw[hll];exact hlen.1,by rw[hll];exact hlen.2⟩,fun h=> ?_⟩
  ·rw[←hX];rfl
  ·rw[hsz];exact hfit
  ·rw[hsz,hll];exact h7
  ·rw[←hX,hll];rfl
  ·rw[hXt]at h;cases h))
 have HHe:=hid (fun(hp0:p≠0) V v (hV:WB w0 q S (fun y=>y=x∨L y) v (up E x X) (up B x (b.map lowB)) V)=>(show Calls prog 214 #[.pointer (some ⟨q.m,0,none⟩),.int .i64 p,.int .i64 1] V fun e w'=>e= .returned (.int .i64 (((E p).refs+1:Nat):Int))∧Fr q.blocks V w'∧∃v',WB w0 q S (fun y=>y=x∨L y) v' (up (up E x X) p {E p with refs:=(E p).refs+1}) (up B x (b.map lowB)) w'∧v'.sl=v.sl∧v'.rt=v.rt from by
  have hm:=(g.mem p).1 (hp.resolve_left hp0);have hne:p≠x:=fun e=>hf.no (e▸hm.1);have he:up E x X p=E p:=zac _ _ hne;have:=zj0 hV (x:=p) (.inr hm.1) (by rw[he];exact hm.2) 1 ((E p).refs+1) (by rw[he];omega) (by omega) (hrf hp0);rw[he]at this;exact this))
 have hNx:¬InT 224 u.sl x:=fun h=>hf.no ((g.inx x hx0).1 h);have HIn:=hid (fun V v E3 (hV:WB w0 q S (fun y=>y=x∨L y) v E3 (up B x (b.map lowB)) V) (hs:v.sl=u.sl)=>zs7 hV (.inl rfl) (by rw[hs];exact hNx));have HCo:=hid (fun V v E3 (hV:WB w0 q S (fun y=>y=x∨L y) v E3 (up B x (b.map lowB)) V) (hr:v.rt 17=l.length)=>zte hV 1 (l.length+1) (by rw[hr];omega) (by omega) (by omega));have hcnt:=g.cnt;have HC17:=hid hcnt
 have HEnd1:=hid (fun(hp0:p=0) V T (v:TM) (hV:WB w0 q S (fun y=>y=x∨L y) ((v.wsl T).setRt 17 (l.length+1)) (up E x X) (up B x (b.map lowB)) V) (hs:v.sl=u.sl) (hrt:v.rt=u.rt) (hT:∀y,y≠0→(InT 224 T y↔y=x∨InT 224 v.sl y))=>
  (show∃v E' B',NI w0 q S (fun y=>y=x∨L y) (l++ [x]) v E' B' V∧NewE E E' B B' x p (b.map lowB)∧RtQ u v from by
   have hN:NewE E (up E x X) B (up B x (b.map lowB)) x p (b.map lowB):=by
    refine⟨by rw[zaa];exact hXt,by rw[zaa,←hX];rfl,by rw[zaa,←hX];rfl,by rw[zaa,←hX];rfl,zaa _ _ _,fun y hy=>by rw[zac _ _ hy];exact⟨rfl,rfl,rfl⟩,fun y hy hy0=> ?_,fun y hy=>zac _ _ hy,fun y hy _=>zac _ _ hy⟩;rw[zac _ _ hy,if_neg (by omega),Nat.add_zero]
   exact⟨_,_,_,g.new hV hf.no hx0 hN (show up v.rt 17 (l.length+1) 17=l.length+1 from zaa _ _ _) (fun y hy=>by rw[←hs];exact hT y hy) hp (by rw[zfw];exact hk) (zgu b) hno,hN,fun f h1 h2=>by show up v.rt 17 (l.length+1) f=u.rt f;rw[zac _ _ h1,hrt]⟩))
 have HEnd2:=hid (fun(hp0:p≠0) V T (v:TM) (hV:WB w0 q S (fun y=>y=x∨L y) ((v.wsl T).setRt 17 (l.length+1)) (up (up E x X) p {E p with refs:=(E p).refs+1}) (up B x (b.map lowB)) V) (hs:v.sl=u.sl) (hrt:v.rt=u.rt) (hT:∀y,y≠0→(InT 224 T y↔y=x∨InT 224 v.sl y))=>
  (show∃v E' B',NI w0 q S (fun y=>y=x∨L y) (l++ [x]) v E' B' V∧NewE E E' B B' x p (b.map lowB)∧RtQ u v from by
   have hm:=(g.mem p).1 (hp.resolve_left hp0);have hne:p≠x:=fun e=>hf.no (e▸hm.1)
   have hN:NewE E (up (up E x X) p {E p with refs:=(E p).refs+1}) B (up B x (b.map lowB)) x p (b.map lowB):=by
    have hxx:up (up E x X) p {E p with refs:=(E p).refs+1} x=X:=by rw[zac _ _ hne.symm,zaa]
    refine⟨by rw[hxx];exact hXt,by rw[hxx,←hX];rfl,by rw[hxx,←hX];rfl,by rw[hxx,←hX];rfl,zaa _ _ _,fun y hy=> ?_,fun y hy hy0=> ?_,fun y hy=>zac _ _ hy,fun y hy h2=>by rw[zac _ _ h2,zac _ _ hy]⟩
    ·by_cases e:y=p
     ·rw[e,zaa];exact⟨rfl,rfl,rfl⟩
     ·rw[zac _ _ e,zac _ _ hy];exact⟨rfl,rfl,rfl⟩
    ·by_cases e:y=p
     ·rw[if_pos e,e,zaa]
     ·rw[if_neg e,zac _ _ e,zac _ _ hy];rfl
   exact⟨_,_,_,g.new hV hf.no hx0 hN (show up v.rt 17 (l.length+1) 17=l.length+1 from zaa _ _ _) (fun y hy=>by rw[←hs];exact hT y hy) hp (by rw[zfw];exact hk) (zgu b) hno,hN,fun f h1 h2=>by show up v.rt 17 (l.length+1) f=u.rt f;rw[zac _ _ h1,hrt]⟩))
 have wu:IntKind.u32.wrap (p:Int)=(p:Int):=by show(p:Int) %4294967296=p;omega
 have wx:=i64_in ((x:Int)+16) (by omega);have hcv:=fun W=>run_bytes_of_string (P:=prog) W 9 44 5 (zag (b.map lowB)) underlying9 underlying44 underlying5;have HBy:=hid (fun(w:World) (cap:Nat) (z:Nat×Nat)=>zwd w 5 (b.map lowB) hlow (by omega) cap z);have HPW:=hid (show q.pw∈q.blocks from by simp[MH.blocks]);generalize hS2:zag (b.map lowB)=s2 at*;have hp0c:=Classical.em (p=0);have g0:=hid g
 have hp1:((p:Int) !=0)= !decide (p=0):=by
  by_cases e:p=0
  ·subst e;rfl
  ·simp[e]
 generalize mixL (hsh E p) (b.map lowB)=hx at*;generalize hsh E p=h0 at*;generalize zag b=s at*;generalize clsN (16+b.length)=cl at*;clear hX hXo hXr hXt few hlt hll hlow hxb hbase hx0 hxs hpl hh hmx hfit hNx hcnt hno hrf hb hk g hf hc hlen hS2 hsz0;go_enter_defers func193,ntmps193;go_wp2_with fail;with_reducible refine HM.out.mono ?_
 rintro e w1 ⟨rfl,f1⟩;have K1:=hid (H0.out.fr0 f1);have F1:=hid (F0.out.trans f1.nil);have A1:=hid (A0.out.fr f1 (by simp));clear f1 HM H0 F0 A0;go_wp2_with fail;with_reducible refine(zbu _ _).mono ?_
 rintro e w1' ⟨rfl,rfl⟩;go_wp2_with fail;with_reducible refine(HCl.out _ K1.out).mono ?_
 rintro e w2 ⟨rfl,f2⟩;have K2:=hid (K1.out.fr0 f2);have F2:=hid (F1.out.trans f2.nil);have A2:=hid (A1.out.fr f2 (by simp));clear f2 K1 F1 A1;go_wp2_with fail;with_reducible refine(zbu _ _).mono ?_
 rintro e w2' ⟨rfl,rfl⟩;go_wp2_with fail;with_reducible refine(HPa.out _ K2.out).mono ?_
 rintro e w3 ⟨rfl,k3,f3⟩;have K3:=hid (K2.out.same k3 f3);have F3:=hid (F2.out.trans f3);have A3:=hid (A2.out.fr f3 HNA.out);clear k3 f3 K2 F2 A2;go_wp2_with fail;with_reducible refine(HBl.out _ K3.out).mono ?_
 rintro e w4 ⟨rfl,k4,f4⟩;have K4:=hid (K3.out.same k4 f4);have F4:=hid (F3.out.trans f4);have A4:=hid (A3.out.fr f4 HNA.out);clear k4 f4 K3 F3 A3;go_wp2_with fail;with_reducible refine(zbu _ _).mono ?_
 rintro e w4' ⟨rfl,rfl⟩;go_wp2_with fail;with_reducible refine(HFi.out _ K4.out).mono ?_
 rintro e w5 ⟨rfl,k5,f5⟩;have K5:=hid (K4.out.same k5 f5);have F5:=hid (F4.out.trans f5);have A5:=hid (A4.out.fr f5 HNA.out);clear k5 f5 K4 F4 A4;go_wp2_with fail;with_reducible refine(zbu _ _).mono ?_
 rintro e w5' ⟨rfl,rfl⟩;go_wp2_with fail;with_reducible refine(HLo.out _).mono ?_
 rintro e w6 ⟨rfl,f6⟩;have K6:=hid (K5.out.fr0 f6);have F6:=hid (F5.out.trans f6.nil);have A6:=hid (A5.out.fr f6 (by simp));clear f6 K5 F5 A5;go_wp2_with fail;with_reducible refine(HHs.out _ K6.out).mono ?_
 rintro e w7 ⟨rfl,k7,f7⟩;have K7:=hid (K6.out.same k7 f7);have F7:=hid (F6.out.trans f7);have A7:=hid (A6.out.fr f7 HNA.out);clear k7 f7 K6 F6 A6;go_wp2_with fail;with_reducible refine(HMx.out _).mono ?_
 rintro e w8 ⟨rfl,f8⟩;have K8:=hid (K7.out.fr0 f8);have F8:=hid (F7.out.trans f8.nil);have A8:=hid (A7.out.fr f8 (by simp));clear f8 K7 F7 A7;go_wp2_with fail;with_reducible refine(HPu.out _ K8.out).mono ?_
 rintro e w9 ⟨rfl,f9,v9,k9,s9,r9⟩;have K9:=hid k9;have F9:=hid (F8.out.trans f9);have A9:=hid (A8.out.fr f9 HNA.out);clear k9 f9 K8 F8 A8;go_wp2_with fail;have FA:=(Fr.refl q.blocks w9).alloc (.cells (bytesRow s2 (grownCap w9 s2.size 0 5)) 5 ((bytesRow s2 (grownCap w9 s2.size 0 5)).size,(bytesRow s2 (grownCap w9 s2.size 0 5)).size+1));have FB:=(Fr.refl [] w9).alloc (.cells (bytesRow s2 (grownCap w9 s2.size 0 5)) 5 ((bytesRow s2 (grownCap w9 s2.size 0 5)).size,(bytesRow s2 (grownCap w9 s2.size 0 5)).size+1));have hlt9:=K9.out.1.lt _ HPW.out;with_reducible refine(HWr.out _ v9 ⟨K9.out.1.fr0 FB.drew,K9.out.2⟩ w9.heap.size _ ((HBy.out w9 _ _).fr (Fr.refl [] _).drew (by simp)) (by omega)).mono ?_
 rintro e w10 ⟨rfl,f10,v10,k10,s10,r10⟩;have K10:=hid k10;have F10:=hid ((F9.out.trans FA.drew).trans f10);have A10:=hid ((A9.out.fr FA.drew HNA.out).fr f10 HNA.out);have s11:v10.sl=u.sl:=s10.trans s9;have r11:v10.rt 17=l.length:=by rw[r10,r9];exact HC17.out
 have RR:=hid (r10.trans r9);clear k10 f10 F9 A9 FA FB hlt9 K9 s10 r10 s9 r9 HPW HBy HWr HPu;rcases hp0c with h0'|h0'
 ·have hq1:((p:Int) !=0)=false:=by rw[hp1,decide_eq_true h0'];rfl
  have K11:=K10;have F11:=F10;have A11:=A10;clear hp1 K10 F10 A10 HEnd2 HHe;go_wp2_with fail;with_reducible refine(HIn.out _ _ _ K11.out s11).mono ?_
  rintro e w20 ⟨rfl,f20,T,k20,hT⟩;have K20:=hid k20;have F20:=hid (F11.out.trans f20);have A20:=hid (A11.out.fr f20 HNA.out);clear k20 f20 F11 A11;go_wp2_with fail;have rT:(v10.wsl T).rt 17=l.length:=r11;with_reducible refine(HCo.out _ _ _ K20.out rT).mono ?_
  rintro e w21 ⟨rfl,f21,k21⟩;have K21:=hid k21;have F21:=hid (F20.out.trans f21);have A21:=hid (A20.out.fr f21 HNA.out);have hcl:=A21.out.cell 0;have hfz:=A21.out.frozen 0;simp only[List.getElem?_toArray,List.getElem?_cons_zero]at hcl;clear k21 f21 F20 A20;go_wp2_with fail;refine leaves_cons (f:=212) (args:= #[.pointer (some ⟨W.heap.size,0,none⟩)]) (by simp) (by simp[go_sem]) ?_;refine(zbn _ _).mono ?_;rintro e u' w'' ⟨rfl,rfl,rfl⟩;have hr:=(A21.out.set 0 (.int .i64 0)).cell 0;simp only[List.setIfInBounds_toArray,List.set_cons_zero,List.getElem?_toArray,List.getElem?_cons_zero]at hr;simp[Leaves,settle,results,results193,go_sem,hr];exact⟨F21.out.setCell (.inr (Nat.le_refl _)) _,HEnd1.out h0' _ T _ (WB.own g0.out.wb K21.out 0 _) s11 RR.out hT⟩
 ·have hq1:((p:Int) !=0)=true:=by rw[hp1,decide_eq_false h0'];rfl
  clear hp1 HEnd1;go_wp2_with fail;with_reducible refine(HHe.out h0' _ _ K10.out).mono ?_
  rintro e w11 ⟨rfl,f11,v11,k11,s12,r12⟩;have K12:=hid k11;have F12:=hid (F10.out.trans f11);have A12:=hid (A10.out.fr f11 HNA.out);have s12'':v11.sl=u.sl:=s12.trans s11;have r13:v11.rt 17=l.length:=by rw[r12];exact r11
  have RR2:=hid (r12.trans RR.out);clear k11 f11 F10 A10 K10 HHe;go_wp2_with fail;with_reducible refine(HIn.out _ _ _ K12.out s12'').mono ?_
  rintro e w20 ⟨rfl,f20,T,k20,hT⟩;have K20:=hid k20;have F20:=hid (F12.out.trans f20);have A20:=hid (A12.out.fr f20 HNA.out);clear k20 f20 F12 A12;go_wp2_with fail;have rT:(v11.wsl T).rt 17=l.length:=r13;with_reducible refine(HCo.out _ _ _ K20.out rT).mono ?_
  rintro e w21 ⟨rfl,f21,k21⟩;have K21:=hid k21;have F21:=hid (F20.out.trans f21);have A21:=hid (A20.out.fr f21 HNA.out);have hcl:=A21.out.cell 0;have hfz:=A21.out.frozen 0;simp only[List.getElem?_toArray,List.getElem?_cons_zero]at hcl;clear k21 f21 F20 A20;go_wp2_with fail;refine leaves_cons (f:=212) (args:= #[.pointer (some ⟨W.heap.size,0,none⟩)]) (by simp) (by simp[go_sem]) ?_;refine(zbn _ _).mono ?_;rintro e u' w'' ⟨rfl,rfl,rfl⟩;have hr:=(A21.out.set 0 (.int .i64 0)).cell 0;simp only[List.setIfInBounds_toArray,List.set_cons_zero,List.getElem?_toArray,List.getElem?_cons_zero]at hr;simp[Leaves,settle,results,results193,go_sem,hr];exact⟨F21.out.setCell (.inr (Nat.le_refl _)) _,HEnd2.out h0' _ T _ (WB.own g0.out.wb K21.out 0 _) s12'' RR2.out hT⟩
end
section
variable {w0 W W' : World} {q : MH} {S S' : SS} {x y c : Nat} {u v : TM} {L : Nat → Prop} {l : List Nat} {E : Nat → HB} {B : Nat → List Nat} {X : HB} {b : List Nat}
theorem NI.del(g:NI w0 q S L l u E B W)(hx:x∈l)(hno:∀y∈l,(E y).name≠x)(g':WB w0 q S' (fun y=>L y∧y≠x) v E B W')(hr:v.rt 17=l.length-1)(hin:∀y,y≠0→(InT 224 v.sl y↔InT 224 u.sl y∧y≠x)):NI w0 q S' (fun y=>L y∧y≠x) (l.erase x) v E B W':=by
 have hm:∀y,y∈l.erase x↔y∈l∧y≠x:=fun y=>by rw[g.nd.mem_erase_iff];exact And.comm
 refine⟨g',g.nd.erase x,fun y=> ?_,?_,fun y hy=> ?_,fun y hy=> ?_,fun y hy=>g.hs y ((hm y).1 hy).1,fun y hy=>g.lb y ((hm y).1 hy).1,fun y hy z hz=>g.one y ((hm y).1 hy).1 z ((hm z).1 hz).1⟩
 ·rw[hm,g.mem y]
  constructor
  ·rintro⟨⟨a,b⟩,c⟩;exact⟨⟨a,c⟩,b⟩
  ·rintro⟨⟨a,c⟩,b⟩;exact⟨⟨a,b⟩,c⟩
 ·rw[hr,List.length_erase_of_mem hx]
 ·rw[hin y hy,g.inx y hy]
 ·have hy':=(hm y).1 hy
  rcases g.up y hy'.1 with k|k
  ·exact .inl k
  ·exact .inr ((hm _).2 ⟨k,hno y hy'.1⟩)
theorem z0t(g:NI w0 q S L l u E B W)(hx:x∈l)(hno:∀y∈l,(E y).name≠x)(hX:E x=X):Calls prog 215 #[.pointer (some ⟨q.m,0,none⟩),.int .i64 x,X.val] W fun e w'=>e= .returned (.int .i64 X.name)∧Fr q.blocks W w'∧∃S' v,NI w0 q S' (fun y=>L y∧y≠x) (l.erase x) v E B w'∧RtQ u v∧∀y m,Lv 7 S' y m↔Lv 7 S y m∧y≠x:=by
 have hL:=(g.mem x).1 hx;have hx0:=(g.lt hx).1;have hlv:∃m,Lv 7 S x m:=g.wb.lv hL.1;obtain⟨m,hm⟩:=hlv;have hlp:1≤l.length:=List.length_pos_of_mem hx;have few:=g.few;have hlt:=g.wb.lt;have HNA:=hid (show W.heap.size∉q.blocks from fun hm=>by have:=hlt _ hm;omega)
 have hnm:X.name<1048576:=by
  rw[←hX];rcases g.up x hx with e|e
  ·omega
  ·exact(g.lt e).2
 have wn:IntKind.i64.wrap (X.name:Int)=(X.name:Int):=i64_in _ (by omega);have H0:=hid (g.fr0 ((Fr.refl [] W).alloc (.cells X.cells 89)));have F0:=hid ((Fr.refl q.blocks W).alloc (.cells X.cells 89));have A0:=hid (Blk.new W 89 X.cells);have HD:=hid (fun V (hV:NI w0 q S L l u E B V)=>zz5 hV.wb hL.1 ((g.inx x hx0).2 hL.1))
 have HG:=hid (fun V T (hV:WB w0 q S L (u.wsl T) E B V) (hT:∀y,y≠0→(InT 224 T y↔InT 224 u.sl y∧y≠x))=>zmq hV hm (fun i hi e=>by
  have:InT 224 T x:=⟨i,hi,e⟩;exact((hT x hx0).1 this).2 rfl))
 have hcnt:=g.cnt;have HC:=hid (fun V S' (v:TM) (hV:WB w0 q S' (fun y=>L y∧y≠x) v E B V) (hr:v.rt 17=l.length)=>zte hV (-1) (l.length-1) (by rw[hr];omega) (by omega) (by omega))
 have HE:=hid (fun V S' (v:TM) (T:Nat→Nat) (hV:WB w0 q S' (fun y=>L y∧y≠x) (v.setRt 17 (l.length-1)) E B V) (hs:v.sl=T) (hT:∀y,y≠0→(InT 224 T y↔InT 224 u.sl y∧y≠x))=>
  (show NI w0 q S' (fun y=>L y∧y≠x) (l.erase x) (v.setRt 17 (l.length-1)) E B V from g.del hx hno hV (show up v.rt 17 (l.length-1) 17=l.length-1 from zaa _ _ _) (by show∀y,y≠0→(InT 224 v.sl y↔_);rw[hs];exact hT)))
 have HC17:=hid hcnt;have g0:=hid g;clear hcnt hlt few hlp hnm hX hm hx0 hL hno hx g;obtain⟨x1,x2,x3,x4,x5,x6,x7,x8,x9,x10,x11,x12⟩:=X;simp only[]at wn;show Calls prog 215 #[.pointer (some ⟨q.m,0,none⟩),.int .i64 x,.agg #[.int .i64 x1,.int .i64 x2,.bool x3,.int .i64 x4,.int .u32 x5,.int .u32 x6,.int .u32 x7,.int .u32 x8,.int .u64 x9,.int .u16 x10,.int .i64 x11,.int .u32 x12]] W fun e w'=>e= .returned (.int .i64 x5)∧Fr q.blocks W w'∧∃S' v,NI w0 q S' (fun y=>L y∧y≠x) (l.erase x) v E B w'∧RtQ u v∧∀y m,Lv 7 S' y m↔Lv 7 S y m∧y≠x
 have A0':Hid (Blk (W.alloc (.cells #[.int .i64 x1,.int .i64 x2,.bool x3,.int .i64 x4,.int .u32 x5,.int .u32 x6,.int .u32 x7,.int .u32 x8,.int .u64 x9,.int .u16 x10,.int .i64 x11,.int .u32 x12] 89)) W.heap.size 89 #[.int .i64 x1,.int .i64 x2,.bool x3,.int .i64 x4,.int .u32 x5,.int .u32 x6,.int .u32 x7,.int .u32 x8,.int .u64 x9,.int .u16 x10,.int .i64 x11,.int .u32 x12]):=A0;have H0':Hid (NI w0 q S L l u E B (W.alloc (.cells #[.int .i64 x1,.int .i64 x2,.bool x3,.int .i64 x4,.int .u32 x5,.int .u32 x6,.int .u32 x7,.int .u32 x8,.int .u64 x9,.int .u16 x10,.int .i64 x11,.int .u32 x12] 89))):=H0;have F0':Hid (Fr q.blocks W (W.alloc (.cells #[.int .i64 x1,.int .i64 x2,.bool x3,.int .i64 x4,.int .u32 x5,.int .u32 x6,.int .u32 x7,.int .u32 x8,.int .u64 x9,.int .u16 x10,.int .i64 x11,.int .u32 x12] 89))):=F0;clear A0 H0 F0;go_enter func215,ntmps215;go_wp2_with fail;with_reducible refine(HD.out _ H0'.out).mono ?_
 rintro e w1 ⟨rfl,f1,T,k1,hT⟩;have K1:=hid k1;have F1:=hid (F0'.out.trans f1);have A1:=hid (A0'.out.fr f1 HNA.out);clear k1 f1 A0' F0' HD;go_wp2_with fail;with_reducible refine(HG.out _ T K1.out hT).mono ?_
 rintro e w2 ⟨rfl,f2,S2,v2,sla,k2,hlv⟩;have K2:=hid k2;have F2:=hid (F1.out.trans f2);have A2:=hid (A1.out.fr f2 HNA.out);have r2:v2.rt 17=l.length:=(sla.rt 17 (.inr (by decide))).trans HC17.out;have s2:v2.sl=T:=sla.sl;have q2:=hid (show RtQ u v2 from fun f _ h=>sla.rt f h);clear k2 f2 A1 F1 HG sla;go_wp2_with fail;with_reducible refine(HC.out _ S2 v2 K2.out r2).mono ?_
 rintro e w3 ⟨rfl,f3,k3⟩;have K3:=hid k3;have F3:=hid (F2.out.trans f3);have A3:=hid (A2.out.fr f3 HNA.out);have hc4:=A3.out.cell 4;simp only[List.getElem?_toArray,List.getElem?_cons_zero,List.getElem?_cons_succ]at hc4;clear k3 f3 A2 F2 HC;go_wp2_with fail;go_ret;exact⟨rfl,F3.out,S2,_,HE.out _ S2 v2 T K3.out s2 hT,q2.out.trans (RtQ.set v2 _),hlv⟩
end
def bel(par:Nat→Nat)(l:List Nat)(y:Nat):Nat:=l.countP (fun z=>par z==y)
theorem bel_pos{par:Nat→Nat}{l:List Nat}{y:Nat}:bel par l y≠0↔∃z∈l,par z=y:=by
 unfold bel;rw[Nat.ne_zero_iff_zero_lt,List.countP_pos_iff];simp
theorem ze8{par:Nat→Nat}{l:List Nat}{x:Nat}(hx:x∈l)(y:Nat):bel par l y=bel par (l.erase x) y+(if par x=y then 1 else 0):=by
 unfold bel;rw[(List.perm_cons_erase hx).countP_eq,List.countP_cons];simp
theorem zkn{par:Nat→Nat}{l:List Nat}{x:Nat}(y:Nat):bel par (l++ [x]) y=bel par l y+(if par x=y then 1 else 0):=by
 unfold bel;rw[List.countP_append,List.countP_cons];simp
theorem zce{par par':Nat→Nat}{l:List Nat}(h:∀z∈l,par' z=par z)(y:Nat):bel par' l y=bel par l y:=by
 unfold bel;exact List.countP_congr fun z hz=>by rw[h z hz]
theorem zim(par:Nat→Nat)(l:List Nat)(y:Nat):bel par l y≤l.length:=List.countP_le_length
inductive Rem(own par:Nat→Nat):List Nat→List Nat→Prop
 |refl (l:List Nat):Rem own par l l
 |step {l m:List Nat} {x:Nat}:Rem own par l m→x∈m→own x=0→(∀z∈m,par z≠x)→Rem own par l (m.erase x)
def Firm(own par:Nat→Nat)(l:List Nat):Prop:= ∀y∈l,own y=0→ ∃z∈l,par z=y
theorem Rem.sub{own par:Nat→Nat}{l m:List Nat}(h:Rem own par l m):m.Sublist l:=by
 induction h with
 |refl=>exact List.Sublist.refl _
 |step _ _ _ _ ih=>exact List.Sublist.trans List.erase_sublist ih
theorem Rem.stay{own par:Nat→Nat}{l m f:List Nat}(h:Rem own par l m)(hf:Firm own par f)(hs:∀y∈f,y∈l)(hn:l.Nodup):∀y∈f,y∈m:=by
 induction h with
 |refl=>exact hs
 |step h1 hx h0 hz ih=>
  intro y hy;have hm:=ih y hy;refine(List.mem_erase_of_ne fun e=> ?_).2 hm;subst e;obtain⟨z,hz1,hz2⟩:=hf y hy h0;exact hz z (ih z hz1) hz2
theorem zgh{a l:List Nat}(h:a.Sublist l)(hn:l.Nodup):a=l.filter (fun y=>decide (y∈a)):=by
 induction h with
 |slnil=>rfl
 | @cons a l x h ih=>
  rw[List.nodup_cons]at hn;rw[List.filter_cons,if_neg (by simp;exact fun hm=>hn.1 (h.subset hm))];exact ih hn.2
 | @cons_cons a l x h ih=>
  rw[List.nodup_cons]at hn;rw[List.filter_cons,if_pos (by simp)];congr 1;rw[List.filter_congr (q:=fun y=>decide (y∈a)) (fun y hy=> ?_)]
  ·exact ih hn.2
  ·rw[decide_eq_decide,List.mem_cons]
   exact⟨fun k=>k.resolve_left (fun e=>hn.1 (e▸hy)),.inr⟩
theorem Rem.uniq{own par:Nat→Nat}{l m f:List Nat}(h:Rem own par l m)(k:Rem own par l f)(hm:Firm own par m)(hf:Firm own par f)(hn:l.Nodup):m=f:=by
 have h1:=h.stay hf (fun y hy=>k.sub.subset hy) hn;have h2:=k.stay hm (fun y hy=>h.sub.subset hy) hn
 have e:∀{a b:List Nat},a.Sublist l→b.Sublist l→(∀y,y∈a→y∈b)→(∀y,y∈b→y∈a)→a=b:=by
  intro a b ha hb h1 h2;rw[zgh ha hn,zgh hb hn];refine List.filter_congr fun y hy=> ?_;rw[decide_eq_decide];exact⟨h1 y,h2 y⟩
 exact e h.sub k.sub h2 h1
structure LetI(l:List Nat)(E:Nat→HB)(own:Nat→Nat)(x1 k:Nat)(l1:List Nat)(E1:Nat→HB):Prop where
 rem:Rem own (fun y=>(E y).name) l l1
 n:k+l1.length=l.length
 he: ∀y,(E1 y).tag=(E y).tag∧(E1 y).name=(E y).name∧(E1 y).hash=(E y).hash
 el: ∀y,y∉l→E1 y=E y
 at_:x1=0∨x1∈l1
 rf: ∀y∈l1,(E1 y).refs=own y+bel (fun y=>(E y).name) l1 y+(if y=x1 then 1 else 0)
 nf: ∀y∈l1,y≠x1→own y=0→ ∃z∈l1,(E z).name=y
structure LetD(l:List Nat)(E:Nat→HB)(own:Nat→Nat)(k:Nat)(l1:List Nat)(E1:Nat→HB):Prop where
 rem:Rem own (fun y=>(E y).name) l l1
 n:k+l1.length=l.length
 he: ∀y,(E1 y).tag=(E y).tag∧(E1 y).name=(E y).name∧(E1 y).hash=(E y).hash
 el: ∀y,y∉l→E1 y=E y
 rf: ∀y∈l1,(E1 y).refs=own y+bel (fun y=>(E y).name) l1 y
 nf:Firm own (fun y=>(E y).name) l1
section
variable {l l1 : List Nat} {E E1 : Nat → HB} {own : Nat → Nat} {x1 k r : Nat}
theorem LetI.zero(h:LetI l E own 0 k l1 E1)(h0:∀y∈l1,y≠0):LetD l E own k l1 E1:=
 ⟨h.rem,h.n,h.he,h.el,fun y hy=>by rw[h.rf y hy,if_neg (h0 y hy)];rfl,fun y hy=>h.nf y hy (h0 y hy)⟩
theorem LetI.he2(h:LetI l E own x1 k l1 E1)(r:Nat)(y:Nat):((up E1 x1 {E1 x1 with refs:=r}) y).tag=(E y).tag∧((up E1 x1 {E1 x1 with refs:=r}) y).name=(E y).name∧((up E1 x1 {E1 x1 with refs:=r}) y).hash=(E y).hash:=by
 have:=ze4 E1 x1 r y;have k:=h.he y;exact⟨this.1.trans k.1,this.2.1.trans k.2.1,this.2.2.trans k.2.2⟩
theorem LetI.el2(h:LetI l E own x1 k l1 E1)(hx:x1∈l1)(r:Nat)(y:Nat)(hy:y∉l):up E1 x1 {E1 x1 with refs:=r} y=E y:=by
 rw[zac _ _ (fun e=>hy (by rw[e];exact h.rem.sub.subset hx))];exact h.el y hy
theorem LetI.rf2(h:LetI l E own x1 k l1 E1)(hx:x1∈l1)(hr:(E1 x1).refs=r+1):∀y∈l1,((up E1 x1 {E1 x1 with refs:=r}) y).refs=own y+bel (fun y=>(E y).name) l1 y:=by
 intro y hy;by_cases e:y=x1
 ·subst e
  rw[zaa];have:=h.rf y hy;rw[if_pos rfl,hr]at this;show r=_;omega
 ·rw[zac _ _ e,h.rf y hy,if_neg e];rfl
theorem LetI.keep(h:LetI l E own x1 k l1 E1)(hx:x1∈l1)(hr:(E1 x1).refs=r+1)(h0:r≠0):LetD l E own k l1 (up E1 x1 {E1 x1 with refs:=r}):=by
 refine⟨h.rem,h.n,h.he2 r,h.el2 hx r,h.rf2 hx hr,fun y hy hy0=> ?_⟩;by_cases e:y=x1
 ·subst e
  have:=h.rf y hy;rw[if_pos rfl,hr]at this;exact bel_pos.1 (by omega)
 ·exact h.nf y hy e hy0
theorem LetI.free(h:LetI l E own x1 k l1 E1)(hx:x1∈l1)(hr:(E1 x1).refs=0+1):own x1=0∧∀z∈l1,(E z).name≠x1:=by
 have:=h.rf x1 hx;rw[if_pos rfl,hr]at this;refine⟨by omega,fun z hz e=> ?_⟩;have h2:bel (fun y=>(E y).name) l1 x1≠0:=bel_pos.2 ⟨z,hz,e⟩;omega
theorem LetI.drop(h:LetI l E own x1 k l1 E1)(hn:l1.Nodup)(hx:x1∈l1)(hr:(E1 x1).refs=0+1)(hup:(E1 x1).name=0∨(E1 x1).name∈l1):LetI l E own (E1 x1).name (k+1) (l1.erase x1) (up E1 x1 {E1 x1 with refs:=0}):=by
 obtain⟨f1,f2⟩:=h.free hx hr;have hnm:=(h.he x1).2.1;have hm:∀y,y∈l1.erase x1↔y∈l1∧y≠x1:=fun y=>by rw[hn.mem_erase_iff];exact And.comm
 have hlp:1≤l1.length:=List.length_pos_of_mem hx;refine⟨.step h.rem hx f1 f2,?_,h.he2 0,h.el2 hx 0,?_,fun y hy=> ?_,fun y hy hne hy0=> ?_⟩
 ·have:=h.n
  rw[List.length_erase_of_mem hx];omega
 ·rcases hup with e|e
  ·exact .inl e
  ·exact .inr ((hm _).2 ⟨e,by rw[hnm];exact f2 x1 hx⟩)
 ·have hy':=(hm y).1 hy
  rw[h.rf2 hx hr y hy'.1,ze8 hx y,hnm];by_cases e:(E x1).name=y
  ·rw[if_pos e,if_pos e.symm];omega
  ·rw[if_neg e,if_neg (fun k=>e k.symm)];rfl
 ·have hy':=(hm y).1 hy
  obtain⟨z,hz,e⟩:=h.nf y hy'.1 hy'.2 hy0;refine⟨z,(hm z).2 ⟨hz,fun k=> ?_⟩,e⟩;subst k;exact hne (by rw[hnm,e])
end
section
variable {w0 W : World} {q : MH} {S S' : SS} {x y n : Nat} {u v : TM} {L L' : Nat → Prop} {l : List Nat} {E : Nat → HB} {B : Nat → List Nat}
theorem NI.getX(g:NI w0 q S L l u E B W)(hx:x∈l):Calls prog 148 #[.pointer (some ⟨q.m,0,none⟩),.int .i64 x] W fun e w'=>∃a1 a2 a4 a11:Int,∃a3,∃a5 a6 a7 a8 a9 a10 a12:Nat,E x=⟨a1,a2,a3,a4,a5,a6,a7,a8,a9,a10,a11,a12⟩∧e= .returned (.tuple #[.agg #[.int .i64 a1,.int .i64 a2,.bool a3,.int .i64 a4,.int .u32 a5,.int .u32 a6,.int .u32 a7,.int .u32 a8,.int .u64 a9,.int .u16 a10,.int .i64 a11,.int .u32 a12],.bool true])∧Fr q.blocks W w'∧NI w0 q S L l u E B w':=by
 have:=nget g.wb.h (g.wb.ix.e x ((g.mem x).1 hx).1);rw[((g.mem x).1 hx).2]at this;exact this.mono fun e w' ⟨h1,h2,h3⟩=>⟨_,_,_,_,_,_,_,_,_,_,_,_,rfl,h1,h3,g.same h2 h3⟩
theorem zvf(g:NI w0 q S L l u E B W)(hx:x∈l){r:Nat}(hr:(E x).refs=r+1):Calls prog 214 #[.pointer (some ⟨q.m,0,none⟩),.int .i64 x,.int .i64 (-1)] W fun e w'=>e= .returned (.int .i64 r)∧Fr q.blocks W w'∧∃v,NI w0 q S L l v (up E x {E x with refs:=r}) B w'∧RtQ u v:=by
 have hm:=(g.mem x).1 hx;have hb:=(g.wb.ix.e x hm.1).ok.refs;refine(zj0 g.wb hm.1 hm.2 (-1) r (by omega) (by omega) (by omega)).mono fun e w' ⟨h1,h2,v,h3,h4,h5⟩=>⟨h1,h2,v,g.re h3 (ze4 E x r) h4 (by rw[h5]),RtQ.eq h5⟩
def AllN(S:SS)(l R:List Nat)(L:Nat→Prop):Prop:=(∀y m,Lv 7 S y m→y∈l∨y∈R)∧ ∀y∈R,L y∧y∉l
theorem zw0(g:NI w0 q S L l u E B W)(hx:x∈l)(hno:∀y∈l,(E y).name≠x)(a1 a2 a4 a11:Int)(a3:Bool)(a5 a6 a7 a8 a9 a10 a12:Nat)(hX:E x=⟨a1,a2,a3,a4,a5,a6,a7,a8,a9,a10,a11,a12⟩):Calls prog 215 #[.pointer (some ⟨q.m,0,none⟩),.int .i64 x,.agg #[.int .i64 a1,.int .i64 a2,.bool a3,.int .i64 a4,.int .u32 a5,.int .u32 a6,.int .u32 a7,.int .u32 a8,.int .u64 a9,.int .u16 a10,.int .i64 a11,.int .u32 a12]] W fun e w'=>e= .returned (.int .i64 a5)∧Fr q.blocks W w'∧∃S' L' v,NI w0 q S' L' (l.erase x) v E B w'∧(∀R,AllN S l R L→AllN S' (l.erase x) R L')∧RtQ u v:=
 (z0t g hx hno hX).mono fun e w' ⟨h1,h2,S',v,h3,hq,h4⟩=>⟨h1,h2,S',_,v,h3,fun R ha=>⟨fun y m hy=>(by
  have:=(h4 y m).1 hy;exact(ha.1 y m this.1).imp (fun k=>(g.nd.mem_erase_iff).2 ⟨this.2,k⟩) id),fun y hy=>⟨⟨(ha.2 y hy).1,fun e=>(ha.2 y hy).2 (by rw[e];exact hx)⟩,fun k=>(ha.2 y hy).2 (List.mem_of_mem_erase k)⟩⟩,hq⟩
theorem nlet(g:NI w0 q S L l u E B W)(own:Nat→Nat)(hx:x∈l)(hI:LetI l E own x 0 l E):Calls prog 115 #[.pointer (some ⟨q.m,0,none⟩),.int .i64 x] W fun e w'=>∃k S1 L1 l1 u1 E1,e= .returned (.tuple #[.int .i64 (k:Nat),.int .i64 0])∧Fr q.blocks W w'∧NI w0 q S1 L1 l1 u1 E1 B w'∧LetD l E own k l1 E1∧(∀R,AllN S l R L→AllN S1 l1 R L1)∧RtQ u u1:=by
 have few:=g.few;have hlt:=g.wb.lt;have hr:=hI.rf x hx;rw[if_pos rfl]at hr;have HRp:=hid (show 0<(E x).refs from by omega);have HNA:=hid (show W.heap.size∉q.blocks from fun hm=>by have:=hlt _ hm;omega);have H0:=hid (g.fr0 ((Fr.refl [] W).alloc (.cells #[.int .i64 0] 39)));have F0:=hid ((Fr.refl q.blocks W).alloc (.cells #[.int .i64 0] 39));have A0:=hid (Blk.new W 39 #[.int .i64 0]);have HM:=hid (zll H0.out.wb.h.m);have HG:=hid (fun V (hV:NI w0 q S L l u E B V)=>hV.getX hx);have g0:=hid g;have HI:=hid hI;clear hlt hr hI hx g;generalize hN:l.length=N at*;have HN:=hid hN;clear hN;go_enter_defers func115,ntmps115;go_wp2_with fail;with_reducible refine HM.out.mono ?_
 rintro e w1 ⟨rfl,f1⟩;have K1:=hid (H0.out.fr0 f1);have F1:=hid (F0.out.trans f1.nil);have A1:=hid (A0.out.fr f1 (by simp));clear f1 HM H0 F0 A0;go_wp2_with fail;with_reducible refine(zbu _ _).mono ?_
 rintro e w1' ⟨rfl,rfl⟩;go_wp2_with fail;with_reducible refine(HG.out _ K1.out).mono ?_
 rintro e w2 ⟨a1,a2,a4,a11,a3,a5,a6,a7,a8,a9,a10,a12,hX,rfl,f2,k2⟩;have h8:0<a8:=by have:=HRp.out;rw[hX]at this;exact this
 have hrp:decide ((0:Int)<(a8:Int))=true:=decide_eq_true (by omega);have hrp':decide (0<a8)=true:=decide_eq_true h8;clear h8 hX HRp;have K2:=hid k2;have F2:=hid (F1.out.trans f2);have A2:=hid (A1.out.fr f2 HNA.out);clear k2 f2 K1 F1 A1 HG;go_wp2_with fail;have B3:=hid (Blk.new w2 89 #[.int .i64 a1,.int .i64 a2,.bool a3,.int .i64 a4,.int .u32 a5,.int .u32 a6,.int .u32 a7,.int .u32 a8,.int .u64 a9,.int .u16 a10,.int .i64 a11,.int .u32 a12]);have K3:=hid (K2.out.fr0 ((Fr.refl [] w2).alloc (.cells #[.int .i64 a1,.int .i64 a2,.bool a3,.int .i64 a4,.int .u32 a5,.int .u32 a6,.int .u32 a7,.int .u32 a8,.int .u64 a9,.int .u16 a10,.int .i64 a11,.int .u32 a12] 89)));have F3:=hid (F2.out.alloc (.cells #[.int .i64 a1,.int .i64 a2,.bool a3,.int .i64 a4,.int .u32 a5,.int .u32 a6,.int .u32 a7,.int .u32 a8,.int .u64 a9,.int .u16 a10,.int .i64 a11,.int .u32 a12] 89));have A3:=hid (A2.out.alloc (.cells #[.int .i64 a1,.int .i64 a2,.bool a3,.int .i64 a4,.int .u32 a5,.int .u32 a6,.int .u32 a7,.int .u32 a8,.int .u64 a9,.int .u16 a10,.int .i64 a11,.int .u32 a12] 89));have hc7:=B3.out.cell 7;simp only[List.getElem?_toArray,List.getElem?_cons_zero,List.getElem?_cons_succ]at hc7;clear K2 F2 A2 B3;generalize hw3:w2.alloc (.cells #[.int .i64 a1,.int .i64 a2,.bool a3,.int .i64 a4,.int .u32 a5,.int .u32 a6,.int .u32 a7,.int .u32 a8,.int .u64 a9,.int .u16 a10,.int .i64 a11,.int .u32 a12] 89)=w3 at*;have hw3':=hid hw3;clear hw3;with_reducible refine(zbu _ _).mono ?_
 rintro e w3' ⟨rfl,rfl⟩;go_wp2_with fail;with_reducible refine(zbu _ _).mono ?_
 rintro e w4 ⟨rfl,rfl⟩;go_wp2_with fail;go_loopw [1,4] (fun v1 v4 V=>∃x1 k:Nat,∃S1 L1 l1 u1 E1,v1= .int .i64 x1∧v4= .int .i64 k∧Hid (LetI l E own x1 k l1 E1)∧Hid (NI w0 q S1 L1 l1 u1 E1 B V)∧Hid (∀R,AllN S l R L→AllN S1 l1 R L1)∧Hid (RtQ u u1)∧Hid (Fr q.blocks W V)∧Hid (Blk V W.heap.size 39 #[.int .i64 0])) (fun _ v4 _=>N-(intOf v4).toNat);case atStart=>exact⟨x,0,_,_,_,_,_,rfl,rfl,HI,K3,hid (fun _ h=>h),hid (RtQ.refl u),F3,A3⟩
 case round=>
  clear K3 F3 A3 HI;obtain⟨x1,k,S1,L1,l1,u1,E1,rfl,rfl,I4,K4,N4,Q4,F4,A4⟩:=hrel;have hcl:=A4.out.cell 0;have hfz:=A4.out.frozen 0;simp only[List.getElem?_toArray,List.getElem?_cons_zero]at hcl;rcases I4.out.at_ with e0|hx1
  ·subst e0
   have D4:=I4.out.zero (fun y hy=>(K4.out.lt hy).1);clear I4;go_wp2_with fail;clear hcl;refine leaves_cons (f:=212) (args:= #[.pointer (some ⟨W.heap.size,0,none⟩)]) (by simp) (by simp[go_sem]) ?_;refine(zbn _ _).mono ?_;rintro e u' w'' ⟨rfl,rfl,rfl⟩;have hr:=(A4.out.set 0 (.int .i64 0)).cell 0;simp only[List.setIfInBounds_toArray,List.set_cons_zero,List.getElem?_toArray,List.getElem?_cons_zero]at hr;simp[Leaves,settle,results,results115,go_sem,hr];exact⟨k,rfl,F4.out.setCell (.inr (Nat.le_refl _)) _,S1,L1,l1,_,_,NI.re K4.out (WB.own g0.out.wb K4.out.wb 0 _) (fun y=>⟨rfl,rfl,rfl⟩) rfl rfl,D4,N4.out,Q4.out⟩
  ·obtain⟨r,hr⟩:∃r,(E1 x1).refs=r+1:=⟨_,by have:=I4.out.rf x1 hx1;rw[if_pos rfl]at this;exact this⟩
   have hx0:=(K4.out.lt hx1).1;have hxs:=(K4.out.lt hx1).2;have hq1:((x1:Int) !=0)=true:=by simp;omega
   have HHe:=hid (zvf K4.out hx1 hr);have hn4:=I4.out.n;have wk:IntKind.i64.wrap ((k:Int)+1)=((k+1:Nat):Int):=by rw[i64_in _ (by have:=HN.out;omega)];push_cast;rfl
   have hx1':=hid hx1;have hr':=hid hr;have hx0':=hid hx0;have hn4':=hid hn4;have HLp:=hid (show 1≤l1.length from List.length_pos_of_mem hx1);clear hx1 hr hcl hfz hx0 hxs hn4;go_wp2_with fail;with_reducible refine HHe.out.mono ?_
   rintro e w5 ⟨rfl,f5,v5,k5,q5⟩;have K5:=hid k5;have Q5:=hid (Q4.out.trans q5);have F5:=hid (F4.out.trans f5);have A5:=hid (A4.out.fr f5 HNA.out);have hcl:=A5.out.cell 0;have hfz:=A5.out.frozen 0;simp only[List.getElem?_toArray,List.getElem?_cons_zero]at hcl;clear k5 q5 f5 F4 A4 HHe;by_cases hr0:r=0
   ·subst hr0
    have hf:=I4.out.free hx1'.out hr'.out;have I5:=hid (I4.out.drop K4.out.nd hx1'.out hr'.out (K4.out.up x1 hx1'.out));have HGt:=hid (fun V (hV:NI w0 q S1 L1 l1 v5 (up E1 x1 {E1 x1 with refs:=0}) B V)=>hV.getX hx1'.out);have hno:∀y∈l1,(up E1 x1 {E1 x1 with refs:=0} y).name≠x1:=fun y hy=>by rw[(I4.out.he2 0 y).2.1];exact hf.2 y hy
    have HDr:=hid (fun V (hV:NI w0 q S1 L1 l1 v5 (up E1 x1 {E1 x1 with refs:=0}) B V)=>zw0 hV hx1'.out hno);have HNm:=hid (show(up E1 x1 {E1 x1 with refs:=0} x1).name=(E1 x1).name from(ze4 E1 x1 0 x1).2.1);clear hf hno I4 K4 hcl hfz;go_wp2_with fail;with_reducible refine(HGt.out _ K5.out).mono ?_
    rintro e w6 ⟨a1,a2,a4,a11,a3,a5,a6,a7,a8,a9,a10,a12,hX,rfl,f6,k6⟩;have K6:=hid k6;have F6:=hid (F5.out.trans f6);have A6:=hid (A5.out.fr f6 HNA.out);have hX':=hid hX;clear k6 f6 F5 A5 HGt hX;go_wp2_with fail;with_reducible refine(HDr.out _ (K6.out.fr0 ((Fr.refl [] w6).alloc (.cells #[.int .i64 a1,.int .i64 a2,.bool a3,.int .i64 a4,.int .u32 a5,.int .u32 a6,.int .u32 a7,.int .u32 a8,.int .u64 a9,.int .u16 a10,.int .i64 a11,.int .u32 a12] 89))) a1 a2 a4 a11 a3 a5 a6 a7 a8 a9 a10 a12 hX'.out).mono ?_
    rintro e w7 ⟨rfl,f7,S7,L7,v7,k7,n7,q7⟩;have K7:=hid k7;have Q7:=hid (Q5.out.trans q7);have N7:=hid (fun R h=>n7 R (N4.out R h));have F7:=hid ((F6.out.alloc (.cells #[.int .i64 a1,.int .i64 a2,.bool a3,.int .i64 a4,.int .u32 a5,.int .u32 a6,.int .u32 a7,.int .u32 a8,.int .u64 a9,.int .u16 a10,.int .i64 a11,.int .u32 a12] 89)).trans f7);have A7:=hid ((A6.out.alloc (.cells #[.int .i64 a1,.int .i64 a2,.bool a3,.int .i64 a4,.int .u32 a5,.int .u32 a6,.int .u32 a7,.int .u32 a8,.int .u64 a9,.int .u16 a10,.int .i64 a11,.int .u32 a12] 89)).fr f7 HNA.out);have h5:a5=(E1 x1).name:=by rw[←HNm.out,hX'.out]
    have I7:=hid (show LetI l E own a5 (k+1) (l1.erase x1) (up E1 x1 {E1 x1 with refs:=0})from h5▸I5.out);clear k7 n7 q7 f7 F6 A6 HDr h5 I5;go_wp2_with fail;go_roundw;case rel=>exact⟨a5,k+1,S7,L7,_,v7,_,rfl,rfl,I7,K7,N7,Q7,F7,A7⟩
    case measure=>simp[intOf];have:=hn4'.out;have:=HLp.out;have:=HN.out;omega
   ·have D5:=I4.out.keep hx1'.out hr'.out hr0
    have hq2:((r:Int)==0)=false:=by simp;omega
    clear I4 K4;go_wp2_with fail;clear hcl;refine leaves_cons (f:=212) (args:= #[.pointer (some ⟨W.heap.size,0,none⟩)]) (by simp) (by simp[go_sem]) ?_;refine(zbn _ _).mono ?_;rintro e u' w'' ⟨rfl,rfl,rfl⟩;have hr:=(A5.out.set 0 (.int .i64 0)).cell 0;simp only[List.setIfInBounds_toArray,List.set_cons_zero,List.getElem?_toArray,List.getElem?_cons_zero]at hr;simp[Leaves,settle,results,results115,go_sem,hr];exact⟨k,rfl,F5.out.setCell (.inr (Nat.le_refl _)) _,S1,L1,l1,_,_,NI.re K5.out (WB.own g0.out.wb K5.out.wb 0 _) (fun y=>⟨rfl,rfl,rfl⟩) rfl rfl,D5,N4.out,Q5.out⟩
end
def cln(X:HB):HB:={X with next:=0,prev:=0}
structure EW where
 t:TM
 R:List Nat
 b:Nat
 d:Nat→HB
 p:Nat→List Nat
structure EnD(g:EW)(u:TM)(E:Nat→HB)(B:Nat→List Nat):Prop where
 rtb: ∀f,f≠17→(f<3∨15<f)→u.rt f=g.t.rt f
 hand:u.rt 13=g.R.headD 0
 broom:u.rt 14=g.b
 cnt:u.rt 15=g.R.length
 nd:g.R.Nodup
 bin:g.R≠ [] →g.b∈g.R
 bnil:g.R= [] →g.b=0
 cyc:Cyc E g.R
 dat: ∀y∈g.R,cln (E y)=g.d y∧B y=g.p y
theorem EnD.to{g:EW}{u v:TM}{E E':Nat→HB}{B B':Nat→List Nat}(h:EnD g u E B)(hq:RtQ u v)(he:∀y∈g.R,E' y=E y∧B' y=B y):EnD g v E' B':=
 ⟨fun f h1 h2=>(hq f h1 (h2.imp id (fun k=>by omega))).trans (h.rtb f h1 h2),(hq 13 (by decide) (by decide)).trans h.hand,(hq 14 (by decide) (by decide)).trans h.broom,(hq 15 (by decide) (by decide)).trans h.cnt,h.nd,h.bin,h.bnil,h.cyc.same (fun y hy=>by rw[(he y hy).1];exact⟨rfl,rfl⟩),fun y hy=>by rw[(he y hy).1,(he y hy).2];exact h.dat y hy⟩
end Go.Proofs.YtolhkhdbgnciiaaGreatDoor
