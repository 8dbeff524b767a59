/- law24.EntryShares. -/
import Derived.Test.YtolhkhdbgnciiaaGreatDoorEF
import Derived.Test.YtolhkhdbgnciiaaGreatDoorEE
namespace Go.Proofs.YtolhkhdbgnciiaaGreatDoor
open _root_.Go.Proofs.Tryz
open Go.Lib (hid)
open Go.IntWalk (i64_in)
set_option linter.unusedVariables false
set_option linter.unusedSimpArgs false
open Go.RowKit
theorem RecO.at_{w:World}{base i:Nat}{v:Value}{L:List (List Nat)}{x:List Nat}(h:RecO w base v L)(hi:L[i]?=some x){j:Nat}(hj:j<x.length):∃gc cap gb cb cs,v= .slice (some ⟨gc,0,none⟩) L.length cap∧gc<w.heap.size∧base≤gc∧w.cell? ⟨gc,i,none⟩=some (.slice (some ⟨gb,0,none⟩) x.length cb)∧base≤gb∧Blk w gb 5 cs∧cs[j]?=some (.int .u8 ((x[j]?.getD 0:Nat):Int)):=by
 obtain⟨vs,h1,h2,h3⟩:=h;have hl:=(List.getElem?_eq_some_iff.1 hi).1;obtain⟨k1,⟨rfl,k2⟩|⟨gv,cap,cur,rfl,kb,kg,kc,km,ks,kt⟩⟩:=h1
 ·omega
 obtain⟨va,e1,e2⟩:=h3 i _ hi;obtain⟨l1,⟨rfl,l2⟩|⟨ge,ce,cue,rfl,eb,eg,ec,em,es,et⟩⟩:=e2
 ·omega
 refine⟨gv,cap,ge,ce,cue,rfl,Blk.lt kg,kb,?_,eb,eg,?_⟩
 ·have h3:(cur.toList.take (L.length*1))[i]?=vs[i]?:=by rw[kt]
  rw[List.getElem?_take,if_pos (by omega),e1]at h3;rw[Blk.cell kg,←h3];simp
 ·have h3:(cue.toList.take (x.length*1))[j]?=(zaj x)[j]?:=by rw[et]
  rw[List.getElem?_take,if_pos (by omega)]at h3;rw[←Array.getElem?_toList,h3,zaj,List.getElem?_map,List.getElem?_eq_getElem hj];rfl
set_option maxRecDepth 100000 in
theorem zq9(W:World)(g o m:Nat)(l:List Nat)(hb:Byt W (some ⟨g,o,none⟩) l)(hl:l.length=m)(hm:m≤3000):∃cap w',(Builtin.append_ #[44,44] 44 #[.slice (some ⟨g,o,none⟩) m m,.slice (some ⟨W.heap.size,0,none⟩) 3 3]).run prog (W.alloc (.cells #[.int .u8 1,.int .u8 2,.int .u8 3] 5))= .ok (.slice (some ⟨W.heap.size+1,0,none⟩) (m+3) cap) w'∧Fr [] W w':=by
 obtain⟨i,hi,hz,hs,hby⟩:=zj4;have hadd:∀g o n:Nat,(⟨g,o,none⟩:Addr).add n=⟨g,o+n,none⟩:=fun g o n=>by unfold Addr.add;split<;>simp_all
 have:=run_append_grow (P:=prog) (w:=W.alloc (.cells #[.int .u8 1,.int .u8 2,.int .u8 3] 5)) 44 44 5 i (.int .u8 0) underlying44 hi hz ⟨g,o,none⟩ m m (zaj l) (by simp[zaj,hs,hl])
  (fun j v hv=>by
   simp only[zaj,List.getElem?_map]at hv
   have hj:j<l.length:=by
    rcases Nat.lt_or_ge j l.length with h|h
    ·exact h
    ·rw[List.getElem?_eq_none h]at hv;cases hv
   obtain⟨g',o',e,h1,h2⟩:=hb.at_ j hj;injection e with e;injection e with e1 e2;subst e1 e2;rw[hadd,((Fr.refl [] W).alloc _).cell h2 (by simp),h1,←hv,List.getElem?_eq_getElem hj];rfl)
  ⟨W.heap.size,0,none⟩ 3 3 [.int .u8 1,.int .u8 2,.int .u8 3] (by simp[hs]) (fun j v hv=>by
   rw[hadd,Nat.zero_add,(Blk.new W 5 #[.int .u8 1,.int .u8 2,.int .u8 3]).cell j,←hv];simp) (by omega) (by omega) (growslice_fits (by omega) (by rw[hby];omega))
 rw[World.size_alloc]at this;exact⟨_,_,this,((Fr.refl [] W).alloc _).drew.alloc _⟩
theorem z0n(W:World):StrA (W.alloc (.cells #[.string {data:= #[97]}] 9)) (some ⟨W.heap.size,0,none⟩) [[97]] :=
 ⟨fun i hi=>by
  obtain rfl:i=0:=by simpa using hi
  exact⟨_,0,rfl,(Blk.new W 9 #[.string {data:= #[97]}]).cell 0,by rw[World.size_alloc];omega⟩,by simp,by simp,by simp⟩
section
variable {w0 W W' : World} {q : MH} {x y n b k fr : Nat} {u v : TM} {R l : List Nat} {X : HB} {g : EW} {par refs own : Nat → Nat} {nm : Nat → List (List Nat)}
theorem z0m{Ls:List (List Nat)}(h:CP w0 q g l par own nm fr W)(hx:x∈g.R)(hp:g.p x=zad Ls):Byt W (some ⟨q.ga,x+32,none⟩) (zad Ls):=by
 obtain⟨u,X,hI,f,-⟩:=h.en hx;obtain⟨n,n1,n2,n3,n4,n5⟩:=f.fit;have hon:=f.on;rw[hp]at hon n1;have hp0:zav (x+32) (zad Ls).length=x+32:=by unfold zav;rw[if_neg (by rw[zar];omega)]
 have hl':u.ms.l.length=zae u.a u.s:=TM.bytes_len u;have:=hI.m.m.ar.part (x+32) (zad Ls).length (by rw[hl'];omega);rw[zjb u _ _ (by omega),zjg hon,hp0]at this;exact this
theorem z1k(h:CP w0 q g l par own nm fr W)(y:Nat):W.frozen? ⟨q.ga,y,none⟩=false:=by
 obtain⟨refs,B,⟨S,L,u,E,B0,gi,-⟩,-⟩:=h;obtain⟨cur,hb,-⟩:=gi.wb.h.m.m.ar.row;exact hb.frozen y
set_option maxRecDepth 100000 in
theorem zzp{Ls:List (List Nat)}{j:Nat}{s:List Nat}(h:CP w0 q g l par own nm fr W)(hx:x∈g.R)(hp:g.p x=zad Ls)(hG:GoodR Ls)(hk:Ls[k]?=some s)(hj:j<s.length)(hb:b<256)(hW:(W.setCell ⟨q.ga,x+32+(2+2*Ls.length)+(Ls.take k).flatten.length+j,none⟩ (.int .u8 (b:Int))).drew=W'):Calls prog 12 #[.pointer (some ⟨q.m,0,none⟩),.int .i64 x] W' fun e w'=>∃v,e= .returned (.tuple #[v,.int .i64 0])∧RecO w' W'.heap.size v (Ls.set k (s.set j b))∧Fr q.blocks W' w'∧∀V,Fr [] w' V→Calls prog 16 #[.pointer (some ⟨q.m,0,none⟩)] V fun e w'=>e= .returned (.int .i64 0)∧Fr [] V w':=by
 obtain⟨u,X,hI,f,-,hB,hT,hft,hlb⟩:=h.en hx;obtain⟨n,n1,n2,n3,n4,n5⟩:=f.fit;have hon:=f.on;have hlt:=f.lt;have hsz:=f.sz;rw[hp]at hon n1 hlt hsz;have ht:=(za0 hk).2;have hpl:=zar Ls;have ok:=hI.m.ok;have hln:(zad (Ls.set k (s.set j b))).length=(zad Ls).length:=by rw[zg9 hk hj,List.length_set]
 have hK:=(hI.poke (x+32+(2+2*Ls.length)+(Ls.take k).flatten.length+j) b hb (by omega) (by omega)).fr0 (Fr.refl [] _).drew;rw[hW]at hK
 have hB':BlkE (u.setF (x+32+(2+2*Ls.length)+(Ls.take k).flatten.length+j) 1 (fun _=>b)) x X:=hB.keep rfl rfl (fun g g1 g2=>n5 g g1 (by omega)) (by omega) (fun k hk=>by
  have:sz X.tag.toNat=32:=by rw[hT];rfl
  rw[zbm ok _ 1 _ (fun _ _=>hb) (by omega),if_neg (by omega)])
 refine(zyn hK (zk6 hB' hT) (by rw[hln];exact hsz) (fun i hi=> ?_) (fun y hy=> ?_) ⟨n,by rw[hln];exact n1,n2,n3,n4,n5⟩ (hG.set hk (by simp))).mono fun e w' ⟨v,h1,h2,h3,h4⟩=>⟨v,h1,h2,h4,fun V hV=> ?_⟩
 ·rw[hln]at hi
  show _=(zad (Ls.set k (s.set j b)))[i]?.getD 0;rw[zbm ok _ 1 _ (fun _ _=>hb) (by omega),zg9 hk hj,List.getElem?_set];by_cases e:i=2+2*Ls.length+(Ls.take k).flatten.length+j
  ·rw[if_pos (by omega),if_pos e.symm,if_pos (by omega)];rfl
  ·rw[if_neg (by omega),if_neg (fun h=>e h.symm)];exact hon i hi
 ·rw[zg9 hk hj]at hy
  rcases List.mem_or_eq_of_mem_set hy with h|h
  ·exact hlt y h
  ·omega
 ·have:=zi8 (h3.fr0 hV).m
  rw[show(u.setF (x+32+(2+2*Ls.length)+(Ls.take k).flatten.length+j) 1 (fun _=>b)).ft=0 from hft]at this;exact this
end
set_option maxRecDepth 100000 in
set_option maxHeartbeats 16000000 in
theorem zhx(w:World)(hM:TabM w)(hT:Tabs w)(ad:Option Addr)(cap:Nat)(L:List (List Nat))(hA:RecW w ad L)(wh at_:Int):Calls prog 4 #[.slice ad L.length cap,.int .i64 wh,.int .i64 at_] w fun e w'=>e= .returned (.bool true)∧Fr [] w w':=by
 have HFew:=hid (show Calls prog 17 #[.slice ad L.length cap] w (Few6 L w)from few6 w ad cap L hA);have HHo:=hid (fun W (hf:Fr [] w W)=>zug W (hM.fr hf (by simp)) (hT.fr hf (by simp)));have HFr:=hid (show Calls prog 9 #[.int .i64 0] w _ from zpz 0 w hM hT);have HA:=hid hA;obtain⟨nl,hnl⟩:∃nl,L.length=nl:=⟨_,rfl⟩;have HNL:=hid hnl;rw[hnl]at HFew⊢;clear hA hM hT hnl;go_enter func4,ntmps4;go_wp2_with fail;with_reducible refine HFew.out.mono ?_
 rintro e w1 ⟨bf,rfl,rfl,hfw⟩;cases bf with
 |false=>
  have F8:=hid (Fr.refl [] w1);clear hfw HFew HFr;go_wp2_with fail;with_reducible refine(HHo.out _ F8.out).mono ?_
  rintro e w9 ⟨rfl,f9⟩;have F9:=hid (F8.out.trans f9);clear f9 F8;go_wp2_with fail;go_ret;exact⟨rfl,F9.out⟩
 |true=>
  have HRA:=hid (fun V (hV:Fr [] w1 V)=>(HA.out.fr0 hV).recA (hfw rfl).2);clear hfw HFew;go_wp2_with fail;with_reducible refine HFr.out.mono ?_
  rintro e w2 ⟨q,t,rfl,h2,-,hq,f2⟩;have HNw:=hid (zx8 w2 (fun _=>0) (fun _=>0) (fun _=> []));have C2:=hid h2;have HQ:=hid hq;have F2:=hid f2;clear h2 f2 hq HFr;go_wp2_with fail;with_reducible refine HNw.out.mono ?_
  rintro e w3 ⟨p,pn,pr,D0,rfl,d3,f3,hD3⟩;have k3:KE w1 q w2.heap.size p pn pr D0 (ew0 t) [] (fun _=>0) (fun _=>0) (fun _=> []) 7 [] (ew0 t).R (ew0 t).b w3:=⟨C2.out.fr0 f3,d3,C2.out.bok,hD3⟩;have fA:Fr [] w3 (w3.alloc (.cells #[.string {data:= #[97]}] 9)):=(Fr.refl [] w3).alloc _;have FA:=hid ((F2.out.trans f3).trans fA);have k4:=k3.fr0 fA
  have HPut:=hid (show Calls prog 11 #[.int .i64 0,.pointer (some ⟨q.m,0,none⟩),.pointer (some ⟨p,0,none⟩),.slice (some ⟨w3.heap.size,0,none⟩) 1 1,.int .u16 9,.int .u64 0,.slice ad L.length cap] _ (Pt24 w1 q w2.heap.size p pn pr D0 (ew0 t) [] (fun _=>0) (fun _=>0) (fun _=> []) [] [[97]] 9 0 L _)from
   zzu 0 k4 ⟨rfl,fun d hd=>(nomatch hd)⟩ (EHs.zero t _ _) (some ⟨w3.heap.size,0,none⟩) 1 [[97]] (z0n w3) (fun _ gb o e=>by
    injection e with e;injection e with e;subst e;exact⟨fun hm=>by have:=k3.c.bok.q _ hm;omega,fun hm=>by have:=k3.d.lt _ hm;omega⟩) (by decide) (by decide) (fun _=>Nat.zero_le _) ad cap L (HRA.out _ FA.out) (by decide) (by decide))
  rw[HNL.out]at HPut;have HDb:=hid (fun k hk=>Nat.le_trans F2.out.size (k4.hD k hk));have S4:=hid (Nat.le_trans f3.size fA.size);clear d3 f3 hD3 HNw k3 k4 fA;go_wp2_with fail;with_reducible refine HPut.out.mono ?_
  rintro e w4 ⟨D2,n2,⟨rfl,-,-⟩|⟨x,name,l1,par1,nm1,fr1,ad1,cp1,rfl,⟨hx0,hxb,hxR,-⟩,hGd,-,-,-,-,-,-,-,k4⟩⟩
  ·have F8:=hid (show Fr [] w1 w4 from FA.out.step n2.f (fun k hk=> .inr (by
    rcases List.mem_append.1 hk with hk|hk
    ·exact HQ.out k hk
    ·exact HDb.out k hk)))
   clear n2 HPut FA;go_wp2_with fail;with_reducible refine(HHo.out _ F8.out).mono ?_
   rintro e w9 ⟨rfl,f9⟩;have F9:=hid (F8.out.trans f9);clear f9 F8;go_wp2_with fail;go_ret;exact⟨rfl,F9.out⟩
  have F4:=hid (show Fr [] w1 w4 from FA.out.step n2.f (fun k hk=> .inr (by
   rcases List.mem_append.1 hk with hk|hk
   ·exact HQ.out k hk
   ·exact HDb.out k hk)))
  obtain⟨G,hG⟩:∃G:EW,EW.add (ew0 t) x (enX (clsM (32+(zad L).length)) (zad L).length name 9 0 (keyH (HN (nm1 name)) 9)) (zad L)=G:=⟨_,rfl⟩;have hxG:x∈G.R:=by rw[←hG];simp[EW.add]
  have hpG:G.p x=zad L:=by rw[←hG];exact zaa _ _ _
  obtain⟨own1,hown⟩:∃o1,ownP (fun _=>0) name=o1:=⟨_,rfl⟩;have c4:CP w1 q G l1 par1 own1 nm1 fr1 w4:=by have:=k4.c;rw[hG,hown]at this;exact this
  have BO:=hid (And.intro k4.ok (And.intro (Nat.le_trans S4.out n2.f.size) c4.bok.q));have HCV:=hid (zwg c4 hxG hpG hGd);have HCR:=hid (fun W (c:CP w1 q G l1 par1 own1 nm1 fr1 W)=>zuc c hxG hpG hGd);have HCB:=hid (fun W (c:CP w1 q G l1 par1 own1 nm1 fr1 W)=>z0m c hxG hpG);have HPo:=hid (fun W W' k j b s (c:CP w1 q G l1 par1 own1 nm1 fr1 W) (hk:L[k]?=some s) (hj:j<s.length) (hb:b<256) hW=>zzp (W':=W') c hxG hpG hGd hk hj hb hW);have HG:=hid hGd;have b0:((x:Int)==0)=false:=by simp;omega
  have b0':(x==0)=false:=by simp;omega
  clear n2 HPut FA hxb hxR k4 hG hxG hpG hown c4 hGd hx0;go_wp2_with fail;with_reducible refine HCV.out.mono ?_
  rintro e w5 ⟨v,rfl,r5,c5,f5⟩;have R5:=hid r5;have C5:=hid c5;have Q5:=hid f5;have F5:=hid (F4.out.step f5 (fun k hk=> .inr (HQ.out k hk)));clear r5 c5 f5 HCV;go_wp2_with fail;with_reducible refine(HCR.out _ C5.out).mono ?_
  rintro e w6 ⟨cv,rfl,r6,c6,f6⟩;have hby:=(HRA.out w1 (Fr.refl [] _)).byte
  have hle:∀s∈L,s.length≤3000:=fun s hs=>by
   have h1:=HG.out.s;obtain⟨i,hi,rfl⟩:=List.mem_iff_getElem.1 hs;have h2:=(za0 (List.getElem?_eq_getElem hi)).2;have h3:=HG.out.size;omega
  have HLE:=hid (And.intro hby hle);have hn16:=HG.out.n;have hq5:∀k∈q.blocks,k<w4.heap.size:=BO.out.2.2;have F6:=hid (F5.out.step f6 (fun k hk=> .inr (HQ.out k hk)));have r6v:=R5.out.fr f6 (fun k hk=>hq5 k hk);obtain⟨adc,capc,rfl,A6c⟩:=r6.recA hby (fun s hs=>by have:=hle s hs;omega) (by omega);have hbv:=HCB.out w6 c6;obtain⟨adv,capv,rfl,A6v⟩:=r6v.recA hbv hn16.1 (by omega);have R6:=hid r6v;have RO6:=hid r6;have C6:=hid c6;have HS1:=hid (zqi w6 adv ad capv cap L A6v (HRA.out _ F6.out));have HS2:=hid (fun V (hV:Fr [] w6 V)=>zqi V adc ad capc cap L (A6c.fr0 hV) (HRA.out _ (F6.out.trans hV)));rw[HNL.out]at hn16 HS1 HS2⊢;have S6:=hid f6.size;clear r6 c6 f6 hby hle hq5 r6v A6c hbv A6v;go_wp2_with fail;with_reducible refine HS1.out.mono ?_
  rintro e w7 ⟨rfl,f7⟩;have Z7:=hid f7;clear f7 HS1;go_wp2_with fail;with_reducible refine(HS2.out _ Z7.out).mono ?_
  rintro e w8 ⟨rfl,f8⟩;have Z8:=hid (Z7.out.trans f8);have F8:=hid (F6.out.trans Z8.out);clear f8 Z7 HS2;by_cases h1:wh<0
  ·have b1:decide (wh<0)=true:=by simp;omega
   clear R5 R6 RO6 C6 Z8;go_wp2_with fail;with_reducible refine(HHo.out _ F8.out).mono ?_
   rintro e w9 ⟨rfl,f9⟩;have F9:=hid (F8.out.trans f9);clear f9 F8;go_wp2_with fail;go_ret;exact⟨rfl,F9.out⟩
  have b1:decide (wh<0)=false:=by simp;omega
  by_cases h2:(nl:Int)≤wh
  ·have b2:decide ((nl:Int)≤wh)=true:=by simp;omega
   clear R5 R6 RO6 C6 Z8;go_wp2_with fail;with_reducible refine(HHo.out _ F8.out).mono ?_
   rintro e w9 ⟨rfl,f9⟩;have F9:=hid (F8.out.trans f9);clear f9 F8;go_wp2_with fail;go_ret;exact⟨rfl,F9.out⟩
  have b2:decide ((nl:Int)≤wh)=false:=by simp;omega
  by_cases h3:at_<0
  ·have b3:decide (at_<0)=true:=by simp;omega
   clear R5 R6 RO6 C6 Z8;go_wp2_with fail;with_reducible refine(HHo.out _ F8.out).mono ?_
   rintro e w9 ⟨rfl,f9⟩;have F9:=hid (F8.out.trans f9);clear f9 F8;go_wp2_with fail;go_ret;exact⟨rfl,F9.out⟩
  have b3:decide (at_<0)=false:=by simp;omega
  obtain⟨k,rfl⟩:∃k:Nat,wh=k:=⟨wh.toNat,by omega⟩;obtain⟨j,rfl⟩:∃j:Nat,at_=j:=⟨at_.toNat,by omega⟩;have hkl:k<L.length:=by have:=HNL.out;omega
  have hgd:L[k]?=some L[k] :=List.getElem?_eq_getElem hkl;have hsl:=HLE.out.2 _ (List.getElem_mem hkl);generalize L[k]'hkl=s at*;obtain⟨gv,cv,o,e1,hgv1,hgv2,hcv,hcl,ho⟩:=R6.out.at_ hgd;injection e1 with e1 e2 e3;subst e1 e3;obtain⟨gv5,_,_,e5,-,hgv5,-⟩:=R5.out.at_ hgd;injection e5 with e5;injection e5 with e5;injection e5 with e5;subst e5;obtain⟨m,hm⟩:∃m,s.length=m:=⟨_,rfl⟩;rw[hm]at hcl ho hsl;have b2':decide (nl≤k)=false:=by simp;omega
  have b1':decide ((k:Int)<0)=false:=by simp
  have b3':decide ((j:Int)<0)=false:=by simp
  have i0:(0:Int)≤k:=by omega
  have i1:(k:Int)<nl:=by omega
  have HGV:=hid (And.intro hgv1 hgv5);have hc8:=(Z8.out.cell (p:=⟨gv,k,none⟩) hgv2 (by simp)).trans hcl;by_cases h4:m≤j
  ·have b4':decide (m≤j)=true:=by simp;omega
   clear R5 R6 RO6 C6 Z8 hcl ho;go_wp2_with fail;with_reducible refine(HHo.out _ F8.out).mono ?_
   rintro e w9 ⟨rfl,f9⟩;have F9:=hid (F8.out.trans f9);clear f9 F8;go_wp2_with fail;go_ret;exact⟨rfl,F9.out⟩
  have b4':decide (m≤j)=false:=by simp;omega
  have i2:(0:Int)≤j:=by omega
  have i3:(j:Int)<m:=by omega
  have hjs:j<s.length:=by omega
  have ho1:=ho (by omega);subst ho1;obtain⟨yy,hyy⟩:∃yy,x+32+(2+2*L.length)+(L.take k).flatten.length=yy:=⟨_,rfl⟩;rw[hyy]at hc8;have HYY:=hid hyy;have htf:=(za0 hgd).2;have hpk:=zar L
  have HPB:=hid (show∀V,Byt V (some ⟨q.ga,x+32,none⟩) (zad L)→Byt V (some ⟨q.ga,yy,none⟩) s from fun V hV=>by
   have:=hV.part (2+2*L.length+(L.take k).flatten.length) s.length (yy) (by omega) (fun _=>by omega);rwa[zcs hgd]at this)
  obtain⟨b,hb⟩:∃b,s[j]?.getD 0=b:=⟨_,rfl⟩
  have hb256:b<256:=by
   rw[←hb,List.getElem?_eq_getElem hjs];exact HLE.out.1 _ (List.mem_of_getElem? hgd) _ (List.getElem_mem hjs)
  obtain⟨b1v,hb1⟩:∃b1,(b+1) %256=b1:=⟨_,rfl⟩;have wu:IntKind.u8.wrap ((b:Int)+1)=(b1v:Int):=by rw[IntKind.wrap_u8];omega
  have HB1:=hid (show b1v<256 from by omega);obtain⟨cap3,w9,hrun,f9⟩:=zq9 w8 q.ga (yy) m s ((HPB.out _ (HCB.out w6 C6.out)).fr Z8.out (by simp)) hm hsl;obtain⟨gc,capx,gb,cb,cs,ec,hgc,hgc1,hcc,hgb,hBb,hcs⟩:=RO6.out.at_ hgd hjs;injection ec with ec1 ec2 ec3;subst ec1 ec3;rw[hm]at hcc;have Z9:=hid (Z8.out.trans f9);have B9:=hid (hBb.fr Z9.out (by simp));have c9:=(Z9.out.cell (p:=⟨gc,k,none⟩) hgc (by simp)).trans hcc;have d9:=(B9.out.cell j).trans hcs;rw[hb]at d9;have z9:=B9.out.frozen j;have HBb:=hid (And.intro hgb (Blk.lt hBb));have Y9:=hid f9;have HLe:=hid HLE.out.2;have HLm:=hid hsl;have HX:=hid (And.intro hgd (And.intro hjs (And.intro hb (And.intro hkl hm))));clear hyy hcl ho htf hpk hb256 hb1 hgd hjs hb hgb hBb hcs hcc hgc hgc1 f9 R5 R6 HLE hsl hkl hm;go_wp2_with (first|(at_builtin;refine za1 rfl (.tmp 93) (.tmp 94) 44 rfl rfl _ _ _ _ rfl rfl hrun ?_)|fail);go_region;have f10:Fr [gb] w6 (w9.setCell ⟨gb,j,none⟩ (.int .u8 (b1v:Int))).drew:=(Z9.out.nil.setCell (.inl (by simp)) _).drew;have F10:=hid (F6.out.step f10 (fun k hk=> .inr (by simp at hk;rw[hk];exact Nat.le_trans F5.out.size HBb.out.1)));have hB2:w2.heap.size≤gb:=Nat.le_trans BO.out.2.1 (Nat.le_trans Q5.out.size HBb.out.1);have c10:=C6.out.frL BO.out.1 f10 (fun k hk=>by simp at hk;rw[hk];exact hB2)
  have HV:=hid (show∀V,Fr (q.blocks++ [gb]) w8 V→V.cell? ⟨gv,k,none⟩=some (.slice (some ⟨q.ga,yy,none⟩) m m)from fun V hV=>(hV.cell (p:=⟨gv,k,none⟩) (Nat.lt_of_lt_of_le HGV.out.2 (Nat.le_trans S6.out Z8.out.size)) (fun hm=>by
   rcases List.mem_append.1 hm with hm|hm
   ·exact absurd (BO.out.2.2 gv hm) (Nat.not_lt.2 HGV.out.1)
   ·exact absurd (show w5.heap.size≤gv from by rw[show gv=gb from List.mem_singleton.1 hm];exact HBb.out.1) (Nat.not_le.2 HGV.out.2))).trans hc8)
  have Y10:=hid (show Fr (q.blocks++ [gb]) w8 (w9.setCell ⟨gb,j,none⟩ (.int .u8 (b1v:Int))).drew from(Y9.out.nil.setCell (.inl (by simp)) _).drew);have HR10:=HCR.out _ c10;clear f10 c10 hB2 B9 c9 d9 z9 hc8 C6 RO6 hrun;go_wp2_with fail;with_reducible refine HR10.mono ?_
  rintro e w11 ⟨nv,rfl,r11,c11,f11⟩;have F11:=hid (F10.out.step f11 (fun k hk=> .inr (HQ.out k hk)));obtain⟨adn,capn,rfl,A11⟩:=r11.recA (HRA.out w1 (Fr.refl [] _)).byte (fun s hs=>by have:=HLe.out s hs;omega) (by have:=HX.out.2.2.2.1;have:=HG.out.n;omega);have HS3:=hid (zqi w11 adn ad capn cap L A11 (HRA.out _ F11.out));have C11:=hid c11;have Y11:=hid (Y10.out.trans (f11.mono (fun k hk=> .inl (List.mem_append_left _ hk))));have hc11:=HV.out _ Y11.out;have wn:IntKind.i64.wrap ((m:Int)+3)=((m+3:Nat):Int):=by rw[i64_in _ (by have:=HLm.out;omega)];push_cast;rfl
  rw[HNL.out]at HS3⊢;clear r11 c11 f11 A11 HR10 Y10 F10;go_wp2_with fail;with_reducible refine HS3.out.mono ?_
  rintro e w12 ⟨rfl,f12⟩;have c12:=C11.out.fr0 f12;have F12:=hid (F11.out.trans f12);have hc12:=HV.out _ (Y11.out.trans f12.nil);have hb12:=HPB.out _ (HCB.out _ c12);obtain⟨gx,ox,ex,hx1,-⟩:=hb12.at_ j HX.out.2.1;injection ex with ex;injection ex with ex1 ex2;subst ex1 ex2;rw[HX.out.2.2.1]at hx1;have hx1':w12.cell? ⟨q.ga,yy+j,none⟩=some (.int .u8 (b:Int)):=hx1;have zx:=z1k c12 (yy+j);have HP13:=hid (HPo.out _ _ k j b1v s c12 HX.out.1 HX.out.2.1 HB1.out (show _=(w12.setCell ⟨q.ga,yy+j,none⟩ (.int .u8 (b1v:Int))).drew from by rw[HYY.out]));clear c12 hb12 hx1 f12 hc11 HS3 C11 Y11 F11;go_wp2_with fail;go_region;have F13:=hid (show Fr [] w1 (w12.setCell ⟨q.ga,yy+j,none⟩ (.int .u8 (b1v:Int))).drew from F12.out.step ((Fr.refl [q.ga] w12).setCell (.inl (by simp)) _).drew (fun k hk=> .inr (by simp at hk;rw[hk];exact HQ.out _ (by simp[MH.blocks]))));clear hc12 hx1' zx F12;go_wp2_with fail;with_reducible refine HP13.out.mono ?_
  rintro e w14 ⟨nv2,rfl,r14,f14,hfl⟩;have F14:=hid (F13.out.step f14 (fun k hk=> .inr (HQ.out k hk)));obtain⟨hgd,hjs,hb,hkl,hm⟩:=HX.out;obtain⟨gn,capm,gm,cm,cs2,rfl,hgn,-,hcn,-,hBm,hcs2⟩:=r14.at_ (i:=k) (x:=s.set j b1v) (by rw[List.getElem?_set,if_pos rfl,if_pos hkl]) (j:=j) (by simpa using hjs);rw[List.length_set,hm]at hcn;rw[List.getElem?_set,if_pos rfl,if_pos hjs,Option.getD_some]at hcs2;have hcm:w14.cell? ⟨gm,j,none⟩=some (.int .u8 (b1v:Int)):=(hBm.cell j).trans hcs2;obtain⟨gr,or_,ar,cr,rfl,hcr,hbr,hgr,-⟩:=(HRA.out _ F14.out).at_ k hkl;rw[hgd,Option.getD_some]at hcr hbr;obtain⟨gs,os,rfl,hcsx,hgs⟩:=hbr.at_ j hjs;rw[hm]at hcr;rw[hb]at hcsx
  have HY:=hid (show∀V,Fr [] w14 V→V.cell? ⟨gn,k,none⟩=some (.slice (some ⟨gm,0,none⟩) m cm)∧V.cell? ⟨gm,j,none⟩=some (.int .u8 (b1v:Int))∧V.cell? ⟨gr,or_+k,none⟩=some (.slice (some ⟨gs,os,none⟩) m cr)∧V.cell? ⟨gs,os+j,none⟩=some (.int .u8 (b:Int))from fun V hV=>
   ⟨(hV.cell (p:=⟨gn,k,none⟩) hgn (by simp)).trans hcn,(hV.cell (p:=⟨gm,j,none⟩) hBm.lt (by simp)).trans hcm,(hV.cell (p:=⟨gr,or_+k,none⟩) hgr (by simp)).trans hcr,(hV.cell (p:=⟨gs,os+j,none⟩) hgs (by simp)).trans hcsx⟩)
  have hll:(L.set k (s.set j b1v)).length=nl:=by rw[List.length_set];exact HNL.out
  rw[hll];have HFl:=hid hfl;clear r14 f14 hgn hcn hBm hcs2 hcm hcr hbr hgr hcsx hgs hfl hgd hjs hb hkl hm hll F13 HP13;go_wp2_with fail;have hY:=HY.out _ (Fr.refl [] w14).drew;refine wp_region_held_drew (S:=fun W=>W.cell? ⟨gn,k,none⟩=some (.slice (some ⟨gm,0,none⟩) m cm)∧W.cell? ⟨gm,j,none⟩=some (.int .u8 (b1v:Int))∧W.cell? ⟨gr,or_+k,none⟩=some (.slice (some ⟨gs,os,none⟩) m cr)∧W.cell? ⟨gs,os+j,none⟩=some (.int .u8 (b:Int))) (by kernel_rfl) (hY) (fun yH=> ?_);refine tkY 0 yH ?_;refine tkY 1 yH ?_;refine tkY 2 yH ?_;refine tkY 3 yH ?_;refine tkY 4 yH ?_;refine tkY 5 yH ?_;refine tkY 6 yH ?_;refine tkY 7 yH ?_;refine tkY 8 yH ?_;refine tkY 9 yH ?_;refine tkY 10 yH ?_;refine tkY 11 yH ?_;refine tkY 12 yH ?_;refine tkY 13 yH ?_;refine tkY 14 yH ?_;refine tkY 15 yH ?_;refine tkY 16 yH ?_;refine tkY 17 yH ?_;refine tkY 18 yH ?_;refine tkY 19 yH ?_;refine tkY 20 yH ?_;refine tkY 21 yH ?_;refine tkC 22 fun K hK=> ?_;go_simp;with_reducible refine(HFl.out _ (Fr.refl [] w14).drew).mono ?_
  rintro e w15 ⟨rfl,f15⟩;have Z15:=hid ((Fr.refl [] w14).drew.trans f15);have hY:=HY.out _ Z15.out;have HH15:=HHo.out _ (F14.out.trans Z15.out);clear f15;go_wp2_with fail;refine hK.out _ _ _ hY fun yH=> ?_;clear hK K;refine tkY 23 yH ?_;refine tkY 24 yH ?_;refine tkY 25 yH ?_;refine tkC 26 fun K hK=> ?_;go_simp;with_reducible refine HH15.mono ?_
  rintro e w16 ⟨rfl,f16⟩;have Z16:=hid (Z15.out.trans f16);have hY:=HY.out _ Z16.out;clear f16;go_wp2_with fail;refine hK.out _ _ _ hY fun yH=> ?_;clear hK K;refine tkY 27 yH ?_;refine tkY 28 yH ?_;refine wpAnyH_done (by kernel_rfl) ?_ _;go_wp2_with fail;go_ret;exact⟨rfl,F14.out.trans Z16.out⟩
theorem walk_esharesW(w:World)(h:TabM w∧Tabs w)(ad:Option Addr)(cap:Nat)(L:List (List Nat))(hA:RecW w ad L)(wh at_:Int):Calls prog 4 #[.slice ad L.length cap,.int .i64 wh,.int .i64 at_] w fun e w'=>e= .returned (.bool true)∧Fr [] w w':=zhx w h.1 h.2 ad cap L hA wh at_
end Go.Proofs.YtolhkhdbgnciiaaGreatDoor
