/- Several texts in one. -/
import Derived.Test.YtjjkfcnlgmbbcaaGreatDoorEB
import Derived.Test.YtjjkfcnlgmbbcaaGreatDoorMI
import Derived.Test.YtjjkfcnlgmbbcaaGreatDoorKB
import Derived.Test.YtjjkfcnlgmbbcaaGreatDoorVA
import Derived.Test.YtjjkfcnlgmbbcaaGreatDoorGD
import Derived.Test.YtjjkfcnlgmbbcaaGreatDoorKT
import Derived.Test.YtjjkfcnlgmbbcaaGreatDoorMJ
namespace Go.Proofs.YtjjkfcnlgmbbcaaGreatDoor
set_option linter.unusedVariables false
set_option linter.unusedSimpArgs false
open Go.RowKit
set_option maxRecDepth 100000
set_option maxHeartbeats 4000000
def EW.del(g:EW)(A C:List Nat)(x:Nat):EW:=⟨g.t,A++C,if g.b=x then(C++A).headD 0 else g.b,g.d,g.p⟩
section
variable {w0 W W' : World} {q : MH} {S S' : SS} {x y n b c name typ ex k fr : Nat} {u v : TM} {L L' Lr : Nat → Prop} {E E' : Nat → HB} {B B' : Nat → List Nat} {A C R l : List Nat} {X : HB} {bs : List Nat} {g : EW} {par refs own : Nat → Nat} {nm : Nat → List (List Nat)}
theorem c_egive(h:CPT w0 q g l par own nm x c W):Calls Tryz.prog 73 #[.pointer (some ⟨q.m,0,none⟩),.int .i64 x] W fun e w'=>e= .returned (.int .i64 0)∧Fr q.blocks W w'∧∃fr,CP w0 q g l par own nm fr w':=by
 obtain⟨refs,B,h1,kn,h3⟩:=h;have hxl:=h1.ne;obtain⟨S,L,u,E,B0,gi,hfx,ha,hd,r⟩:=h1;refine(wb_give gi.wb hfx.lv (fun i hi e=>hfx.no ((gi.inx x hxl.2.1).1 ⟨i,hi,e⟩))).mono fun e w' ⟨h1,h2,S',v,h4,h5,h6⟩=>⟨h1,h2,_,refs,B,⟨S',L,v,E,B0,?_,⟨fun y m hy=> ?_,ha.2⟩,hd.to (RtQ.sla h4) (fun _ _=>⟨rfl,rfl⟩),r,rfl⟩,kn,h3⟩
 ·have hL:(fun y=>L y∧y≠x)=L:=by
   funext y;exact propext ⟨fun k=>k.1,fun k=>⟨k,fun e=>hfx.no (e▸k)⟩⟩
  rw[hL]at h5;exact gi.re h5 (fun y=>⟨rfl,rfl,rfl⟩) h4.sl (h4.rt 17 (.inr (by decide)))
 ·obtain⟨k1,k2⟩:=(h6 y m).1 hy
  exact(ha.1 y m k1).resolve_left k2
end
section
variable {w0 W W' : World} {q : MH} {S S' : SS} {x y n b c name typ ex k fr : Nat} {u v : TM} {L L' Lr : Nat → Prop} {E E' : Nat → HB} {B B' : Nat → List Nat} {A C R l : List Nat} {X : HB} {bs : List Nat} {g : EW} {par refs own : Nat → Nat} {nm : Nat → List (List Nat)}
structure EnF(g:EW)(x:Nat)(X:HB)(q:MH)(u:TM):Prop where
 get:EGet q u x X (some ⟨q.m,0,none⟩) x 0
 cl:cln X=g.d x
 sz:X.size=((g.p x).length:Int)
 on:ByOn u (x+32) (g.p x).length (fun j=>(g.p x)[j]?.getD 0)
 lt: ∀y∈g.p x,y<256
 fit: ∃n,32+(g.p x).length≤n∧n %16=0∧x %16=0∧x+n≤lsize u.a u.s∧KdOn u x n 5
 nm:X.name<4294967296
theorem CP.en(h:CP w0 q g l par own nm fr W)(hx:x∈g.R):∃u X,IsH W q u∧EnF g x X q u∧(∀V,IsH V q u→Fr q.blocks W V→CP w0 q g l par own nm fr V)∧BlkE u x X∧X.tag=1:=by
 obtain⟨refs,B,⟨S,L,u,E,B0,gi,ha,hd,r,hfr⟩,kn,h3⟩:=h;have hL:=(ha.2 x hx).1
 have ht:(E x).tag=1:=by
  rcases(gi.wb.ix.e x hL).tg with k|k
  ·exact k
  ·exact absurd ((gi.mem x).2 ⟨hL,k⟩) (ha.2 x hx).2
 have ct:=gi.wb.ct x hL;obtain⟨c,hc,c1,c9,hlv,hfit⟩:=ct.n;obtain⟨b1,b2,b3,b4,b5,b6,b7⟩:=gi.wb.at_ hlv;have hsz:sz (E x).tag.toNat=32:=by rw[ht];rfl
 have hon:=ct.on;rw[hsz]at hon hfit;have hp:=(hd.dat x hx).2;rw[hp]at hon hfit;refine⟨u,E x,gi.wb.h,⟨eget_yes (gi.wb.ix.e x hL) ht,(hd.dat x hx).1,by rw[←hp];exact ct.l1 ht,hon,by rw[←hp];exact ct.lt,⟨csz c,hfit,b3,b2,b6,b7⟩,(gi.wb.ix.e x hL).ok.name⟩,fun V hV hf=>⟨refs,B,⟨S,L,u,E,B0,gi.same hV hf,ha,hd,r,hfr⟩,kn,h3⟩,gi.wb.ix.e x hL,ht⟩
theorem c_erecs{Ls:List (List Nat)}(h:CP w0 q g l par own nm fr W)(hx:x∈g.R)(hp:g.p x=packN Ls)(hG:GoodR Ls):Calls Tryz.prog 26 #[.pointer (some ⟨q.m,0,none⟩),.int .i64 x] W fun e w'=>∃v,e= .returned (.tuple #[v,.int .i64 0])∧RecO w' W.heap.size v Ls∧CP w0 q g l par own nm fr w'∧Fr q.blocks W w':=by
 obtain⟨u,X,hI,f,HM,-,-⟩:=h.en hx;have HG:=Lib.hid (f.get W hI);obtain⟨n,n1,n2,n3,n4,n5⟩:=f.fit;have hlt:=f.lt;have hon:=f.on;have hsz:=f.sz;rw[hp]at hlt hon hsz n1;have HPk:=Lib.hid (fun V (hV:IsH V q u) a1 a2 a4 a3 a5 a6 a7 a8 a9 a10 a12=>(show Calls Tryz.prog 76 #[.agg #[.int .i64 a1,.int .i64 a2,.bool a3,.int .i64 a4,.int .u32 (a5:Nat),.int .u32 (a6:Nat),.int .u32 (a7:Nat),.int .u32 (a8:Nat),.int .u64 (a9:Nat),.int .u16 (a10:Nat),.int .i64 (packN Ls).length,.int .u32 (a12:Nat),.pointer (some ⟨q.m,0,none⟩),.int .i64 x]] V fun e w'=>∃g cap,e= .returned (.slice (some ⟨g,0,none⟩) (packN Ls).length cap)∧V.heap.size≤g∧RowB w' g cap (packN Ls)∧IsH w' q u∧Fr q.blocks V w' from epacked hV _ hon n n1 n2 n3 n4 n5));have hpl:(packN Ls).length≤480:=by rw[pack_len,←hG.size];exact hG.s
 have HU:=Lib.hid (fun V g cap (hr:RowB V g cap (packN Ls))=>runpack V (some ⟨g,0,none⟩) cap Ls hG (hr.byt hlt (by omega)) hr.le);have HM:=Lib.hid HM;clear f n1 n2 n3 n4 n5 hlt hon hI h hpl hp hx;obtain⟨tag,cls,used,label,nm1,next,prev,rf,expiry,ty,size,hash⟩:=X;simp only at HG hsz;subst hsz;generalize(packN Ls).length=z at*;go_enter Tryz.func26,Tryz.ntmps26;go_wp2_with fail;with_reducible refine HG.out.mono ?_
 rintro e w1 ⟨rfl,k1,f1⟩;have K1:=Lib.hid (k1.alloc (.cells #[.int .i64 tag,.int .i64 cls,.bool used,.int .i64 label,.int .u32 nm1,.int .u32 next,.int .u32 prev,.int .u32 rf,.int .u64 expiry,.int .u16 ty,.int .i64 z,.int .u32 hash,.pointer (some ⟨q.m,0,none⟩),.int .i64 x] 137));have F1:=Lib.hid (f1.alloc (.cells #[.int .i64 tag,.int .i64 cls,.bool used,.int .i64 label,.int .u32 nm1,.int .u32 next,.int .u32 prev,.int .u32 rf,.int .u64 expiry,.int .u16 ty,.int .i64 z,.int .u32 hash,.pointer (some ⟨q.m,0,none⟩),.int .i64 x] 137));clear k1 f1 HG;go_wp2_with fail;with_reducible refine(HPk.out _ K1.out _ _ _ _ _ _ _ _ _ _ _).mono ?_
 rintro e w2 ⟨g2,cap2,rfl,hg2,hr2,k2,f2⟩;have HU2:=Lib.hid (HU.out _ g2 cap2 hr2);have K2:=Lib.hid (And.intro k2 (F1.out.trans f2));clear hg2 hr2 k2 f2 K1 F1 HPk HU;go_wp2_with fail;with_reducible refine HU2.out.mono ?_
 rintro e w3 ⟨v3,rfl,k3,f3⟩;have K3:=Lib.hid (And.intro (k3.lo K2.out.2.size) (And.intro (K2.out.1.fr0 f3) (K2.out.2.trans f3.nil)));clear k3 f3 HU2 K2;go_wp2_with fail;go_ret2;exact⟨v3,rfl,K3.out.1,HM.out _ K3.out.2.1 K3.out.2.2,K3.out.2.2⟩
theorem c_eend(h:CP w0 q g l par own nm fr W)(hx:x∈g.R):Calls Tryz.prog 28 #[.pointer (some ⟨q.m,0,none⟩),.int .i64 x] W fun e w'=>e= .returned (.int .u64 (g.d x).expiry)∧CP w0 q g l par own nm fr w'∧Fr q.blocks W w':=by
 obtain⟨u,X,hI,f,HM,-,-⟩:=h.en hx;refine(eend hI f.get).mono fun e w' ⟨h1,h2,h3⟩=>⟨?_,HM _ h2 h3,h3⟩;rw[h1,←f.cl];rfl
theorem c_rlen(h:CP w0 q g l par own nm fr W):Calls Tryz.prog 29 #[.pointer (some ⟨q.m,0,none⟩)] W fun e w'=>e= .returned (.int .i64 g.R.length)∧CP w0 q g l par own nm fr w'∧Fr q.blocks W w':=by
 obtain⟨refs,B,⟨S,L,u,E,B0,gi,ha,hd,r,hfr⟩,kn,h3⟩:=h;have:=rlen gi.wb.h;rw[hd.cnt]at this;exact this.mono fun e w' ⟨h1,hV,hf⟩=>⟨h1,⟨refs,B,⟨S,L,u,E,B0,gi.same hV hf,ha,hd,r,hfr⟩,kn,h3⟩,hf⟩
end
theorem kindL_8{t:TM}(hok:t.Ok):kindL t.kinds 8 4=2:=by
 have hc:=cfg_sizes hok.cfg;have hlen:=t.kinds_len
 have h0:t.kinds[2]?.getD 0=2:=by
  rw[t.kinds_get 2 (by omega)];unfold kindAt;rw[if_neg (by decide),if_pos (by decide)]
 unfold kindL;rw[if_neg (by simp[fitsB];omega)];unfold kindY
 have:oneK t.kinds (8/4:Int).toNat ((8+4+3)/4:Int).toNat=true:=by
  show oneK t.kinds 2 3=true;simp[oneK]
 rw[if_pos this];exact h0
section
variable {w0 W W' : World} {q : MH} {S S' : SS} {x y n b c name typ ex k fr : Nat} {u v : TM} {L L' Lr : Nat → Prop} {E E' : Nat → HB} {B B' : Nat → List Nat} {A C R l : List Nat} {X : HB} {bs : List Nat} {g : EW} {par refs own : Nat → Nat} {nm : Nat → List (List Nat)}
theorem c_text0(h:CP w0 q g l par own nm fr W):Calls Tryz.prog 41 #[.pointer (some ⟨q.m,0,none⟩),.int .i64 0] W fun e w'=>e= .returned (.tuple #[.string ⟨#[46]⟩,.int .i64 0])∧CP w0 q g l par own nm fr w'∧Fr q.blocks W w':=by
 have HN:=Lib.hid (cname0 h)
 have HT:=Lib.hid (fun V ad (hA:StrA V ad [])=>(show Calls Tryz.prog 99 #[.slice ad 0 0] V fun e w'=>e= .returned (.tuple #[.string ⟨#[46]⟩,.int .i64 0])∧Fr [] V w' from by
  have HC:=Lib.hid (show Calls Tryz.prog 131 #[.slice ad 0 0] V fun e w'=>e= .returned (.int .i64 (chkN []))∧Fr [] V w' from ncheck V ad 0 [] hA (by decide));rw[show chkN [] =0 from by decide]at HC;go_enter Tryz.func99,Tryz.ntmps99;go_wp2_with fail;with_reducible refine HC.out.mono ?_
  rintro e w1 ⟨rfl,f1⟩;have F1:=Lib.hid f1;clear f1 HC;go_wp2_with fail;go_ret2;exact⟨rfl,F1.out⟩))
 clear h;go_enter Tryz.func41,Tryz.ntmps41;go_wp2_with fail;with_reducible refine HN.out.mono ?_
 rintro e w1 ⟨rfl,h2,h3⟩;have H2:=Lib.hid (And.intro h2 h3);have hT:=HT.out w1 none ⟨fun i hi=>by simp at hi,fun s hs=>by simp at hs,fun s hs=>by simp at hs,by simp⟩;clear h2 h3 HN HT;go_wp2_with fail;with_reducible refine hT.mono ?_
 rintro e w2 ⟨rfl,f2⟩;have F2:=Lib.hid f2;clear f2 hT;go_wp2_with fail;go_ret2;exact⟨rfl,H2.out.1.fr0 F2.out,H2.out.2.trans F2.out.nil⟩
abbrev itZ:Array Value:= #[.string ⟨#[]⟩,.int .u16 0,.slice none 0 0,.int .u64 0,.bool false]
theorem eitem_no{t:TM}{pl:Int}(h:IsH W q t)(hg:EGet q t pl zHB none 0 30):Calls Tryz.prog 65 #[.pointer (some ⟨q.m,0,none⟩),.int .i64 pl] W fun e w'=>e= .returned (.tuple #[.agg itZ,.int .i64 30])∧IsH w' q t∧Fr q.blocks W w':=by
 have A0:=Lib.hid (Blk.new W 116 itZ);have H0:=Lib.hid (h.alloc (.cells itZ 116));have F0:=Lib.hid (((Fr.refl [] W).alloc (.cells itZ 116)).nil (S:=q.blocks));have hlt:=h.m.lt;have HNA:=Lib.hid (show W.heap.size∉q.blocks from fun hm=>by have:=hlt _ hm;omega);have HI:=Lib.hid h;have HG:=Lib.hid (hg _ H0.out);clear h hg hlt;unfold zHB at HG;go_enter Tryz.func65,Tryz.ntmps65;go_wp2_with fail;with_reducible refine HG.out.mono ?_
 rintro e w1 ⟨rfl,k1,f1⟩;have HO:=Lib.hid (fun o=>And.intro (k1.alloc o) (And.intro ((F0.out.trans f1).alloc o) ((A0.out.fr f1 HNA.out).alloc o)));have dd:=(HO.out (.cells #[.int .i64 0,.int .i64 0,.bool false,.int .i64 0,.int .u32 0,.int .u32 0,.int .u32 0,.int .u32 0,.int .u64 0,.int .u16 0,.int .i64 0,.int .u32 0,.pointer none,.int .i64 0] 137)).2.2.cell;have zz:=(HO.out (.cells #[.int .i64 0,.int .i64 0,.bool false,.int .i64 0,.int .u32 0,.int .u32 0,.int .u32 0,.int .u32 0,.int .u64 0,.int .u16 0,.int .i64 0,.int .u32 0,.pointer none,.int .i64 0] 137)).2.2.frozen;clear k1 f1 HG H0 F0 A0;go_wp2_with fail;refine gen5 (fun w9=>bodyPost _ _ _ _ _ w9) (HO.out _).2.2 rfl (Fr.refl [W.heap.size] _) (.inl (by simp)) ?_;intro w9 hb9 hf9;refine bodyPost_ret (results_cell2 (p:=4) (s:=5) (ty:=116) rfl _ _ W.heap.size 116 _ _ rfl hb9 Tryz.underlying116 rfl (by kernel_rfl)) rfl ?_;exact⟨rfl,HI.out.ownB (HO.out _).1 hf9,(HO.out _).2.1.step hf9 (fun k hk=> .inr (by simp at hk;omega))⟩
theorem c_packed{Ls:List (List Nat)}(h:CP w0 q g l par own nm fr W)(hx:x∈g.R)(hp:g.p x=packN Ls)(a1 a2:Int)(a3:Bool)(a4:Int)(a5 a6 a7 a8 a9 a10 a12:Nat):Calls Tryz.prog 76 #[.agg #[.int .i64 a1,.int .i64 a2,.bool a3,.int .i64 a4,.int .u32 a5,.int .u32 a6,.int .u32 a7,.int .u32 a8,.int .u64 a9,.int .u16 a10,.int .i64 (packN Ls).length,.int .u32 a12,.pointer (some ⟨q.m,0,none⟩),.int .i64 x]] W fun e w'=>∃gb cap,e= .returned (.slice (some ⟨gb,0,none⟩) (packN Ls).length cap)∧W.heap.size≤gb∧RowB w' gb cap (packN Ls)∧(∀y∈packN Ls,y<256)∧CP w0 q g l par own nm fr w'∧Fr q.blocks W w':=by
 obtain⟨u,X,hI,f,HM,-,-⟩:=h.en hx;obtain⟨n,n1,n2,n3,n4,n5⟩:=f.fit;have hlt:=f.lt;have hon:=f.on;rw[hp]at hlt hon n1;exact(epacked hI _ hon n n1 n2 n3 n4 n5).mono fun e w' ⟨gb,cap,h1,h2,h3,h4,h5⟩=>⟨gb,cap,h1,h2,h3,hlt,HM _ h4 h5,h5⟩
theorem c_item{Ls:List (List Nat)}(h:CP w0 q g l par own nm fr W)(hx:x∈g.R)(hp:g.p x=packN Ls)(hG:GoodR Ls)(S:List Nat)(hT:∀V,CP w0 q g l par own nm fr V→Calls Tryz.prog 41 #[.pointer (some ⟨q.m,0,none⟩),.int .i64 (g.d x).name] V fun e w'=>e= .returned (.tuple #[.string (strOf S),.int .i64 0])∧CP w0 q g l par own nm fr w'∧Fr q.blocks V w'):Calls Tryz.prog 65 #[.pointer (some ⟨q.m,0,none⟩),.int .i64 x] W fun e w'=>∃ad cp,e= .returned (.tuple #[.agg #[.string (strOf S),.int .u16 (g.d x).typ,.slice ad Ls.length cp,.int .u64 (g.d x).expiry,.bool (g.d x).used],.int .i64 0])∧RecO w' W.heap.size (.slice ad Ls.length cp) Ls∧CP w0 q g l par own nm fr w'∧Fr q.blocks W w':=by
 have A0:=Lib.hid (Blk.new W 116 itZ);have h0:=h.fr0 ((Fr.refl [] W).alloc (.cells itZ 116));obtain⟨u,X,hI,f,HM,-,-⟩:=h0.en hx;have HG:=Lib.hid (f.get _ hI);have hsz:=f.sz;have hcl:=f.cl;have hnm:=f.nm;rw[hp]at hsz;rw[←hcl]at hT⊢;have HPk:=Lib.hid (fun V (hV:CP w0 q g l par own nm fr V) a1 a2 a3 a4 a5 a6 a7 a8 a9 a10 a12=>c_packed hV hx hp a1 a2 a3 a4 a5 a6 a7 a8 a9 a10 a12);have hpl:(packN Ls).length≤480:=by rw[pack_len,←hG.size];exact hG.s
 have HU:=Lib.hid (fun V gb cap (hr:RowB V gb cap (packN Ls)) (hlt:∀y∈packN Ls,y<256)=>runpack V (some ⟨gb,0,none⟩) cap Ls hG (hr.byt hlt (by omega)) hr.le)
 have HLS:=Lib.hid (show Ls.length≤16∧(∀y∈Ls,y.length≤480)from⟨hG.n.2,fun y hy=>by
  have h1:=hG.size;have h2:=hG.s;obtain⟨k,hk,e⟩:=List.mem_iff_getElem.1 hy;have h3:=(take_flat (L:=Ls) (k:=k) (x:=y) (by rw[List.getElem?_eq_getElem hk,e])).2;omega⟩)
 have HLB:=Lib.hid (show(∀y∈packN Ls,y<256)→∀y∈Ls,∀b∈y,b<256 from fun hl y hy b hb=>hl b (by
  unfold packN;simp only[List.mem_cons,List.mem_append,List.mem_flatten];exact .inr (.inr (.inr ⟨y,hy,hb⟩))))
 have HCl:=Lib.hid (fun V ad cap (hR:RecA (fun k=>W.heap.size≤k) V ad Ls)=>rclone V ad cap Ls hR (by have:=hG.n.2;omega));have HM:=Lib.hid HM;have HH:=Lib.hid h;have hok:=h.bok;have HBK:=Lib.hid hok;have HNA:=Lib.hid (show W.heap.size∉q.blocks from fun hm=>by have:=hok.q _ hm;omega);obtain⟨n,hn⟩:∃n,Ls.length=n:=⟨_,rfl⟩;have HN:=Lib.hid hn;rw[hn]at HCl⊢;clear f hpl hp hx hI h0 h hG hcl hok hn;obtain⟨tag,cls,used,label,nm1,next,prev,rf,expiry,ty,size,hash⟩:=X;have HT:=Lib.hid hT;simp only[cln]at HG HT hsz hnm⊢;clear hT;subst hsz;generalize hz:(packN Ls).length=z at*;have HZ:=Lib.hid hz;generalize strOf S=SS0 at*;have wn:IntKind.i64.wrap (nm1:Int)=(nm1:Int):=IntWalk.i64_in _ (by omega);clear hz;go_enter Tryz.func65,Tryz.ntmps65;go_wp2_with fail;with_reducible refine HG.out.mono ?_
 rintro e w1 ⟨rfl,k1,f1⟩;obtain⟨w2,hw2⟩:∃w2,w1.alloc (.cells #[.int .i64 tag,.int .i64 cls,.bool used,.int .i64 label,.int .u32 nm1,.int .u32 next,.int .u32 prev,.int .u32 rf,.int .u64 expiry,.int .u16 ty,.int .i64 z,.int .u32 hash,.pointer (some ⟨q.m,0,none⟩),.int .i64 x] 137)=w2:=⟨_,rfl⟩;have C2:=Lib.hid (show CP w0 q g l par own nm fr w2 from hw2▸(HM.out _ k1 f1).fr0 ((Fr.refl [] w1).alloc _));have F2:=Lib.hid (show Fr q.blocks W w2 from hw2▸((((Fr.refl [] W).alloc (.cells itZ 116)).nil).trans f1).alloc _);have A2:=Lib.hid (show Blk w2 W.heap.size 116 itZ from hw2▸(A0.out.fr f1 HNA.out).alloc _);have E2:=Lib.hid (show Blk w2 w1.heap.size 137 #[.int .i64 tag,.int .i64 cls,.bool used,.int .i64 label,.int .u32 nm1,.int .u32 next,.int .u32 prev,.int .u32 rf,.int .u64 expiry,.int .u16 ty,.int .i64 z,.int .u32 hash,.pointer (some ⟨q.m,0,none⟩),.int .i64 x]from hw2▸Blk.new _ _ _)
 have hs1:W.heap.size+1≤w1.heap.size:=by
  have:=f1.size;rw[World.size_alloc]at this;exact this
 have HE1:=Lib.hid (show W.heap.size<w1.heap.size∧w1.heap.size∉q.blocks from⟨by omega,fun hm=>by have:=HBK.out.q _ hm;omega⟩);have HTt:=Lib.hid (HT.out w2 C2.out);have dd2:=E2.out.cell;clear k1 f1 HG A0 HM hs1;go_wp2_with fail;with_reducible refine HTt.out.mono ?_
 rintro e w3 ⟨rfl,k3,f3⟩;have C3:=Lib.hid k3;have F3:=Lib.hid (F2.out.trans f3);have A3:=Lib.hid (A2.out.fr f3 HNA.out);have E3:=Lib.hid (E2.out.fr f3 HE1.out.2);have dd3:=E3.out.cell;clear k3 f3 HTt HT dd2;go_wp2_with fail;with_reducible refine(HPk.out _ C3.out _ _ _ _ _ _ _ _ _ _ _).mono ?_
 rintro e w4 ⟨g2,cap2,rfl,hg2,hr2,hl2,k4,f4⟩;have HU2:=Lib.hid (HU.out _ g2 cap2 hr2 hl2);have HL2:=Lib.hid (HLB.out hl2);have C4:=Lib.hid k4;have F4:=Lib.hid (F3.out.trans f4);have A4:=Lib.hid (A3.out.fr f4 HNA.out);have E4:=Lib.hid (E3.out.fr f4 HE1.out.2);clear hg2 hr2 hl2 k4 f4 HPk HU dd3 C3 F3 A3 E3;go_wp2_with fail;with_reducible refine HU2.out.mono ?_
 rintro e w5 ⟨v5,rfl,k5,f5⟩;obtain⟨ad5,cp5,hv5,hr5⟩:=(k5.lo F4.out.size).recA HL2.out (fun y hy=>by have:=HLS.out.2 y hy;omega) (by have:=HLS.out.1;omega);rw[HN.out]at hv5;subst hv5;have C5:=Lib.hid (C4.out.fr0 f5);have F5:=Lib.hid (F4.out.trans f5.nil);have A5:=Lib.hid (A4.out.fr f5 (by simp));have E5:=Lib.hid (E4.out.fr f5 (by simp));have HCc:=Lib.hid (HCl.out _ ad5 cp5 (hr5.fr0 (Fr.refl [] w5).drew));clear k5 f5 hr5 HU2 C4 F4 A4 E4 HCl;go_wp2_with fail;have hY:∀i,w5.drew.cell? ⟨w1.heap.size,i,none⟩=(#[.int .i64 tag,.int .i64 cls,.bool used,.int .i64 label,.int .u32 nm1,.int .u32 next,.int .u32 prev,.int .u32 rf,.int .u64 expiry,.int .u16 ty,.int .i64 z,.int .u32 hash,.pointer (some ⟨q.m,0,none⟩),.int .i64 x] :Array Value)[i]?:=(E5.out.fr (Fr.refl [] w5).drew (by simp)).cell;have hne:w1.heap.size≠W.heap.size:=by have:=HE1.out.1;omega
 refine wp_region_held_drew (S:=fun W=>∀i,W.cell? ⟨w1.heap.size,i,none⟩=(#[.int .i64 tag,.int .i64 cls,.bool used,.int .i64 label,.int .u32 nm1,.int .u32 next,.int .u32 prev,.int .u32 rf,.int .u64 expiry,.int .u16 ty,.int .i64 z,.int .u32 hash,.pointer (some ⟨q.m,0,none⟩),.int .i64 x] :Array Value)[i]?) (by kernel_rfl) (hY) (fun yH=> ?_);refine tkY 0 yH (h:= ?_);refine tkY 1 yH (h:= ?_);refine tkY 2 yH (h:= ?_);refine tkY 3 yH (h:= ?_);refine tkY 4 yH (h:= ?_);refine tkY 5 yH (h:= ?_);refine tkY 7 yH (h:= ?_);refine tkY 8 yH (h:= ?_);refine tkY 9 yH (h:= ?_);refine tkY 10 yH (h:= ?_);refine tkY 11 yH (h:= ?_);refine tkY 12 yH (h:= ?_);refine wpAnyH_ready (rs:= [6]) (by kernel_rfl) (by simp) ?_;refine AllReadyH.cons (o:= ?ooa12) ?hia12 (fun K hK=> ?hca12) AllReadyH.nil;case hia12=>(simp only[List.getElem?_toArray,List.getElem?_cons_zero,List.getElem?_cons_succ];rfl)
 go_simp;with_reducible refine HCc.out.mono ?_
 rintro e w6 ⟨v6,rfl,k6,f6⟩;have f6':=(Fr.refl [] w5).drew.trans f6;obtain⟨ad6,cp6,hv6⟩:=k6.val;rw[HN.out]at hv6;subst hv6;have R6:=Lib.hid (show RecO w6 (W.heap.size+1) (.slice ad6 n cp6) Ls from k6.lo (show W.heap.size+1≤w5.heap.size from A5.out.lt));have C6:=Lib.hid (C5.out.fr0 f6');have F6:=Lib.hid (F5.out.trans f6'.nil);have A6:=Lib.hid (A5.out.fr f6' (by simp));have E6:=Lib.hid (E5.out.fr f6' (by simp));have hY:=E6.out.cell;have cc6:=A6.out.cell;have zz6:=A6.out.frozen;clear k6 f6 f6';go_wp2_with fail;refine hK.out _ _ (hY) (fun yH=> ?_);clear hK K;try simp only[Act.put,List.setIfInBounds_toArray,List.set_cons_zero,List.set_cons_succ]
 refine tkY 13 yH (h:= ?_);refine wpAnyH_ready (rs:= [14]) (by kernel_rfl) (by simp) ?_;refine AllReadyH.cons (o:= ?ooa14) ?hia14 (fun K hK=> ?hca14) AllReadyH.nil;case hia14=>(simp only[List.getElem?_toArray,List.getElem?_cons_zero,List.getElem?_cons_succ];rfl)
 go_simp;refine hK.out _ _ ((((((E6.out.far hne _).far hne _).far hne _).far hne _).far hne _).cell) (fun yH=> ?_);clear hK K;try simp only[Act.put,List.setIfInBounds_toArray,List.set_cons_zero,List.set_cons_succ]
 refine tkY 15 yH (h:= ?_);refine wpAnyH_done (by kernel_rfl) ?_ _;try simp only[Act.put,List.getElem_toArray,List.getElem_cons_zero,List.getElem_cons_succ,List.setIfInBounds_toArray,List.set_cons_zero,List.set_cons_succ]
 go_wp2_with fail;refine gen5 (fun w9=>bodyPost _ _ _ _ _ w9) A6.out rfl (Fr.refl [W.heap.size] _) (.inl (by simp)) ?_;intro w9 hb9 hf9;refine bodyPost_ret (results_cell2 (p:=4) (s:=5) (ty:=116) rfl _ _ W.heap.size 116 _ _ rfl hb9 Tryz.underlying116 rfl (by kernel_rfl)) rfl ?_;exact⟨ad6,cp6,rfl,(R6.out.fr hf9 (fun k hk=>by simp at hk;omega)).lo (by omega),C6.out.frL HBK.out hf9 (by simp),F6.out.step hf9 (fun k hk=> .inr (by simp at hk;omega))⟩
end
end Go.Proofs.YtjjkfcnlgmbbcaaGreatDoor
