/- Several texts in one. -/
import Derived.Test.YtolhkhdbgnciiaaGreatDoorEB
import Derived.Test.YtolhkhdbgnciiaaGreatDoorMJ
namespace Go.Proofs.YtolhkhdbgnciiaaGreatDoor
open _root_.Go.Proofs.Tryz
open Go.Lib (hid)
open Go.IntWalk (i64_in)
set_option linter.unusedVariables false
set_option linter.unusedSimpArgs false
open Go.RowKit
set_option maxRecDepth 100000
set_option maxHeartbeats 4000000
def EW.del(g:EW)(A C:List Nat)(x:Nat):EW:=⟨g.t,A++C,if g.b=x then(C++A).headD 0 else g.b,g.d,g.p⟩
section
variable {w0 W : World} {q : MH} {S S' : SS} {x y c k fr : Nat} {u v : TM} {L : Nat → Prop} {E : Nat → HB} {B : Nat → List Nat} {l : List Nat} {g : EW} {par refs own : Nat → Nat} {nm : Nat → List (List Nat)}
theorem zvu(h:CPT w0 q g l par own nm x c W):Calls prog 39 #[.pointer (some ⟨q.m,0,none⟩),.int .i64 x] W fun e w'=>e= .returned (.int .i64 0)∧Fr q.blocks W w'∧∃fr,CP w0 q g l par own nm fr w':=by
 obtain⟨refs,B,h1,kn,h3⟩:=h;have hxl:=h1.ne;obtain⟨S,L,u,E,B0,gi,hfx,ha,hd,r⟩:=h1;refine(zmq gi.wb hfx.lv (fun i hi e=>hfx.no ((gi.inx x hxl.2.1).1 ⟨i,hi,e⟩))).mono fun e w' ⟨h1,h2,S',v,h4,h5,h6⟩=>⟨h1,h2,_,refs,B,⟨S',L,v,E,B0,?_,⟨fun y m hy=> ?_,ha.2⟩,hd.to (RtQ.sla h4) (fun _ _=>⟨rfl,rfl⟩),r,rfl⟩,kn,h3⟩
 ·have hL:(fun y=>L y∧y≠x)=L:=by
   funext y;exact propext ⟨fun k=>k.1,fun k=>⟨k,fun e=>hfx.no (e▸k)⟩⟩
  rw[hL]at h5;exact gi.re h5 (fun y=>⟨rfl,rfl,rfl⟩) h4.sl (h4.rt 17 (.inr (by decide)))
 ·obtain⟨k1,k2⟩:=(h6 y m).1 hy
  exact(ha.1 y m k1).resolve_left k2
end
section
variable {w0 W : World} {q : MH} {S : SS} {x y n c name k fr : Nat} {u v : TM} {L : Nat → Prop} {E : Nat → HB} {B : Nat → List Nat} {R l : List Nat} {X : HB} {g : EW} {par refs own : Nat → Nat} {nm : Nat → List (List Nat)}
structure EnF(g:EW)(x:Nat)(X:HB)(q:MH)(u:TM):Prop where
 get:EGet q u x X (some ⟨q.m,0,none⟩) x 0
 cl:cln X=g.d x
 sz:X.size=((g.p x).length:Int)
 on:ByOn u (x+32) (g.p x).length (fun j=>(g.p x)[j]?.getD 0)
 lt: ∀y∈g.p x,y<256
 fit: ∃n,32+(g.p x).length≤n∧n %16=0∧x %16=0∧x+n≤zae u.a u.s∧KdOn u x n 5
 nm:X.name<4294967296
theorem CP.en(h:CP w0 q g l par own nm fr W)(hx:x∈g.R):∃u X,IsH W q u∧EnF g x X q u∧(∀V,IsH V q u→Fr q.blocks W V→CP w0 q g l par own nm fr V)∧BlkE u x X∧X.tag=1∧u.ft=0∧zab u.a u.s≤x:=by
 obtain⟨refs,B,⟨S,L,u,E,B0,gi,ha,hd,r,hfr⟩,kn,h3⟩:=h;have hL:=(ha.2 x hx).1
 have ht:(E x).tag=1:=by
  rcases(gi.wb.ix.e x hL).tg with k|k
  ·exact k
  ·exact absurd ((gi.mem x).2 ⟨hL,k⟩) (ha.2 x hx).2
 have ct:=gi.wb.ct x hL;obtain⟨c,hc,c1,c9,hlv,hfit⟩:=ct.n;obtain⟨b1,b2,b3,b4,b5,b6,b7⟩:=gi.wb.at_ hlv;have hsz:sz (E x).tag.toNat=32:=by rw[ht];rfl
 have hon:=ct.on;rw[hsz]at hon hfit;have hp:=(hd.dat x hx).2;rw[hp]at hon hfit;refine⟨u,E x,gi.wb.h,⟨zk6 (gi.wb.ix.e x hL) ht,(hd.dat x hx).1,by rw[←hp];exact ct.l1 ht,hon,by rw[←hp];exact ct.lt,⟨csz c,hfit,b3,b2,b6,b7⟩,(gi.wb.ix.e x hL).ok.name⟩,fun V hV hf=>⟨refs,B,⟨S,L,u,E,B0,gi.same hV hf,ha,hd,r,hfr⟩,kn,h3⟩,gi.wb.ix.e x hL,ht,gi.wb.ft,b1⟩
theorem zyn{Ls:List (List Nat)}(hI:IsH W q u)(hg:EGet q u x X (some ⟨q.m,0,none⟩) x 0)(hsz:X.size=((zad Ls).length:Int))(hon:ByOn u (x+32) (zad Ls).length (fun j=>(zad Ls)[j]?.getD 0))(hlt:∀y∈zad Ls,y<256)(hfit:∃n,32+(zad Ls).length≤n∧n %16=0∧x %16=0∧x+n≤zae u.a u.s∧KdOn u x n 5)(hG:GoodR Ls):Calls prog 12 #[.pointer (some ⟨q.m,0,none⟩),.int .i64 x] W fun e w'=>∃v,e= .returned (.tuple #[v,.int .i64 0])∧RecO w' W.heap.size v Ls∧IsH w' q u∧Fr q.blocks W w':=by
 have HG:=hid (hg W hI);obtain⟨n,n1,n2,n3,n4,n5⟩:=hfit;have HPk:=hid (fun V (hV:IsH V q u) a1 a2 a4 a3 a5 a6 a7 a8 a9 a10 a12=>(show Calls prog 44 #[.agg #[.int .i64 a1,.int .i64 a2,.bool a3,.int .i64 a4,.int .u32 (a5:Nat),.int .u32 (a6:Nat),.int .u32 (a7:Nat),.int .u32 (a8:Nat),.int .u64 (a9:Nat),.int .u16 (a10:Nat),.int .i64 (zad Ls).length,.int .u32 (a12:Nat),.pointer (some ⟨q.m,0,none⟩),.int .i64 x]] V fun e w'=>∃g cap,e= .returned (.slice (some ⟨g,0,none⟩) (zad Ls).length cap)∧V.heap.size≤g∧RowB w' g cap (zad Ls)∧IsH w' q u∧Fr q.blocks V w' from zpy hV _ hon n n1 n2 n3 n4 n5));have hpl:(zad Ls).length≤480:=by rw[zar,←hG.size];exact hG.s
 have HU:=hid (fun V g cap (hr:RowB V g cap (zad Ls))=>zfa V (some ⟨g,0,none⟩) cap Ls hG (hr.byt hlt (by omega)) hr.le);clear n1 n2 n3 n4 n5 hlt hon hI hg hpl;obtain⟨tag,cls,used,label,nm1,next,prev,rf,expiry,ty,size,hash⟩:=X;simp only at HG hsz;subst hsz;generalize(zad Ls).length=z at*;go_enter func12,ntmps12;go_wp2_with fail;with_reducible refine HG.out.mono ?_
 rintro e w1 ⟨rfl,k1,f1⟩;have K1:=hid (k1.alloc (.cells #[.int .i64 tag,.int .i64 cls,.bool used,.int .i64 label,.int .u32 nm1,.int .u32 next,.int .u32 prev,.int .u32 rf,.int .u64 expiry,.int .u16 ty,.int .i64 z,.int .u32 hash,.pointer (some ⟨q.m,0,none⟩),.int .i64 x] 91));have F1:=hid (f1.alloc (.cells #[.int .i64 tag,.int .i64 cls,.bool used,.int .i64 label,.int .u32 nm1,.int .u32 next,.int .u32 prev,.int .u32 rf,.int .u64 expiry,.int .u16 ty,.int .i64 z,.int .u32 hash,.pointer (some ⟨q.m,0,none⟩),.int .i64 x] 91));clear k1 f1 HG;go_wp2_with fail;with_reducible refine(HPk.out _ K1.out _ _ _ _ _ _ _ _ _ _ _).mono ?_
 rintro e w2 ⟨g2,cap2,rfl,hg2,hr2,k2,f2⟩;have HU2:=hid (HU.out _ g2 cap2 hr2);have K2:=hid (And.intro k2 (F1.out.trans f2));clear hg2 hr2 k2 f2 K1 F1 HPk HU;go_wp2_with fail;with_reducible refine HU2.out.mono ?_
 rintro e w3 ⟨v3,rfl,k3,f3⟩;have K3:=hid (And.intro (k3.lo K2.out.2.size) (And.intro (K2.out.1.fr0 f3) (K2.out.2.trans f3.nil)));clear k3 f3 HU2 K2;go_wp2_with fail;go_ret2;exact⟨v3,rfl,K3.out⟩
theorem zuc{Ls:List (List Nat)}(h:CP w0 q g l par own nm fr W)(hx:x∈g.R)(hp:g.p x=zad Ls)(hG:GoodR Ls):Calls prog 12 #[.pointer (some ⟨q.m,0,none⟩),.int .i64 x] W fun e w'=>∃v,e= .returned (.tuple #[v,.int .i64 0])∧RecO w' W.heap.size v Ls∧CP w0 q g l par own nm fr w'∧Fr q.blocks W w':=by
 obtain⟨u,X,hI,f,HM,-,-⟩:=h.en hx;obtain⟨f1,-,f3,f4,f5,f6,-⟩:=f;rw[hp]at f3 f4 f5 f6;exact(zyn hI f1 f3 f4 f5 f6 hG).mono fun e w' ⟨v,h1,h2,h3,h4⟩=>⟨v,h1,h2,HM _ h3 h4,h4⟩
end
theorem zv6{t:TM}(hok:t.Ok):zbd t.kinds 8 4=2:=by
 have hc:=zak hok.cfg;have hlen:=t.kinds_len
 have h0:t.kinds[2]?.getD 0=2:=by
  rw[t.kinds_get 2 (by omega)];unfold zan;rw[if_neg (by decide),if_pos (by decide)]
 unfold zbd;rw[if_neg (by simp[zc8];omega)];unfold zf3
 have:oneK t.kinds (8/4:Int).toNat ((8+4+3)/4:Int).toNat=true:=by
  show oneK t.kinds 2 3=true;simp[oneK]
 rw[if_pos this];exact h0
section
variable {w0 W : World} {q : MH} {S : SS} {x y n b name typ k fr : Nat} {u : TM} {L : Nat → Prop} {R l : List Nat} {X : HB} {g : EW} {par own : Nat → Nat} {nm : Nat → List (List Nat)}
theorem zvv(h:CP w0 q g l par own nm fr W):Calls prog 67 #[.pointer (some ⟨q.m,0,none⟩),.int .i64 0] W fun e w'=>e= .returned (.tuple #[.string ⟨#[46]⟩,.int .i64 0])∧CP w0 q g l par own nm fr w'∧Fr q.blocks W w':=by
 have HN:=hid (zz0 h)
 have HT:=hid (fun V ad (hA:StrA V ad [])=>(show Calls prog 150 #[.slice ad 0 0] V fun e w'=>e= .returned (.tuple #[.string ⟨#[46]⟩,.int .i64 0])∧Fr [] V w' from by
  have HC:=hid (show Calls prog 184 #[.slice ad 0 0] V fun e w'=>e= .returned (.int .i64 (chkN []))∧Fr [] V w' from zs4 V ad 0 [] hA (by decide));rw[show chkN [] =0 from by decide]at HC;go_enter func150,ntmps150;go_wp2_with fail;with_reducible refine HC.out.mono ?_
  rintro e w1 ⟨rfl,f1⟩;have F1:=hid f1;clear f1 HC;go_wp2_with fail;go_ret2;exact⟨rfl,F1.out⟩))
 clear h;go_enter func67,ntmps67;go_wp2_with fail;with_reducible refine HN.out.mono ?_
 rintro e w1 ⟨rfl,h2,h3⟩;have H2:=hid (And.intro h2 h3);have hT:=HT.out w1 none ⟨fun i hi=>by simp at hi,fun s hs=>by simp at hs,fun s hs=>by simp at hs,by simp⟩;clear h2 h3 HN HT;go_wp2_with fail;with_reducible refine hT.mono ?_
 rintro e w2 ⟨rfl,f2⟩;have F2:=hid f2;clear f2 hT;go_wp2_with fail;go_ret2;exact⟨rfl,H2.out.1.fr0 F2.out,H2.out.2.trans F2.out.nil⟩
abbrev itZ:Array Value:= #[.string ⟨#[]⟩,.int .u16 0,.slice none 0 0,.int .u64 0,.bool false]
theorem zsx{t:TM}{pl:Int}(h:IsH W q t)(hg:EGet q t pl zHB none 0 30):Calls prog 26 #[.pointer (some ⟨q.m,0,none⟩),.int .i64 pl] W fun e w'=>e= .returned (.tuple #[.agg itZ,.int .i64 30])∧IsH w' q t∧Fr q.blocks W w':=by
 have A0:=hid (Blk.new W 60 itZ);have H0:=hid (h.alloc (.cells itZ 60));have F0:=hid (((Fr.refl [] W).alloc (.cells itZ 60)).nil (S:=q.blocks));have hlt:=h.m.lt;have HNA:=hid (show W.heap.size∉q.blocks from fun hm=>by have:=hlt _ hm;omega);have HI:=hid h;have HG:=hid (hg _ H0.out);clear h hg hlt;unfold zHB at HG;go_enter func26,ntmps26;go_wp2_with fail;with_reducible refine HG.out.mono ?_
 rintro e w1 ⟨rfl,k1,f1⟩;have HO:=hid (fun o=>And.intro (k1.alloc o) (And.intro ((F0.out.trans f1).alloc o) ((A0.out.fr f1 HNA.out).alloc o)));have dd:=(HO.out (.cells #[.int .i64 0,.int .i64 0,.bool false,.int .i64 0,.int .u32 0,.int .u32 0,.int .u32 0,.int .u32 0,.int .u64 0,.int .u16 0,.int .i64 0,.int .u32 0,.pointer none,.int .i64 0] 91)).2.2.cell;have zz:=(HO.out (.cells #[.int .i64 0,.int .i64 0,.bool false,.int .i64 0,.int .u32 0,.int .u32 0,.int .u32 0,.int .u32 0,.int .u64 0,.int .u16 0,.int .i64 0,.int .u32 0,.pointer none,.int .i64 0] 91)).2.2.frozen;clear k1 f1 HG H0 F0 A0;go_wp2_with fail;refine gen5 (fun w9=>bodyPost _ _ _ _ _ w9) (HO.out _).2.2 rfl (Fr.refl [W.heap.size] _) (.inl (by simp)) ?_;intro w9 hb9 hf9;refine bodyPost_ret (zbt (p:=4) (s:=5) (ty:=60) rfl _ _ W.heap.size 60 _ _ rfl hb9 underlying60 rfl (by kernel_rfl)) rfl ?_;exact⟨rfl,HI.out.ownB (HO.out _).1 hf9,(HO.out _).2.1.step hf9 (fun k hk=> .inr (by simp at hk;omega))⟩
theorem zsb{Ls:List (List Nat)}(h:CP w0 q g l par own nm fr W)(hx:x∈g.R)(hp:g.p x=zad Ls)(a1 a2:Int)(a3:Bool)(a4:Int)(a5 a6 a7 a8 a9 a10 a12:Nat):Calls prog 44 #[.agg #[.int .i64 a1,.int .i64 a2,.bool a3,.int .i64 a4,.int .u32 a5,.int .u32 a6,.int .u32 a7,.int .u32 a8,.int .u64 a9,.int .u16 a10,.int .i64 (zad Ls).length,.int .u32 a12,.pointer (some ⟨q.m,0,none⟩),.int .i64 x]] W fun e w'=>∃gb cap,e= .returned (.slice (some ⟨gb,0,none⟩) (zad Ls).length cap)∧W.heap.size≤gb∧RowB w' gb cap (zad Ls)∧(∀y∈zad Ls,y<256)∧CP w0 q g l par own nm fr w'∧Fr q.blocks W w':=by
 obtain⟨u,X,hI,f,HM,-,-⟩:=h.en hx;obtain⟨n,n1,n2,n3,n4,n5⟩:=f.fit;have hlt:=f.lt;have hon:=f.on;rw[hp]at hlt hon n1;exact(zpy hI _ hon n n1 n2 n3 n4 n5).mono fun e w' ⟨gb,cap,h1,h2,h3,h4,h5⟩=>⟨gb,cap,h1,h2,h3,hlt,HM _ h4 h5,h5⟩
theorem zz9 {Ls : List (List Nat)} (h : CP w0 q g l par own nm fr W) (hx : x ∈ g.R) (hp : g.p x = zad Ls) (hG : GoodR Ls) (S : List Nat) (hT : ∀ V, CP w0 q g l par own nm fr V → Calls prog 67 #[.pointer (some ⟨q.m, 0, none⟩), .int .i64 (g.d x).name] V fun e w' => e = .returned (.tuple #[.string (zag S), .int .i64 0]) ∧ CP w0 q g l par own nm fr w' ∧ Fr q.blocks V w') :
    Calls prog 26 #[.pointer (some ⟨q.m, 0, none⟩), .int .i64 x] W fun e w' => ∃ ad cp, e = .returned (.tuple #[.agg #[.string (zag S), .int .u16 (g.d x).typ, .slice ad Ls.length cp, .int .u64 (g.d x).expiry, .bool (g.d x).used], .int .i64 0]) ∧ RecO w' W.heap.size (.slice ad Ls.length cp) Ls ∧ CP w0 q g l par own nm fr w' ∧ Fr q.blocks W w' := by
  have A0 := hid (Blk.new W 60 itZ)
  have h0 := h.fr0 ((Fr.refl [] W).alloc (.cells itZ 60))
  obtain ⟨u, X, hI, f, HM, -, -⟩ := h0.en hx
  have HG := hid (f.get _ hI)
  have hsz := f.sz
  have hcl := f.cl
  have hnm := f.nm
  rw [hp] at hsz
  rw [← hcl] at hT ⊢
  have HPk := hid (fun V (hV : CP w0 q g l par own nm fr V) a1 a2 a3 a4 a5 a6 a7 a8 a9 a10 a12 => zsb hV hx hp a1 a2 a3 a4 a5 a6 a7 a8 a9 a10 a12)
  have hpl : (zad Ls).length ≤ 480 := by rw [zar, ← hG.size]; exact hG.s
  have HU := hid (fun V gb cap (hr : RowB V gb cap (zad Ls)) (hlt : ∀ y ∈ zad Ls, y < 256) => zfa V (some ⟨gb, 0, none⟩) cap Ls hG (hr.byt hlt (by omega)) hr.le)
  have HLS := hid (show Ls.length ≤ 16 ∧ (∀ y ∈ Ls, y.length ≤ 480) from ⟨hG.n.2, fun y hy => by
    have h1 := hG.size
    have h2 := hG.s
    obtain ⟨k, hk, e⟩ := List.mem_iff_getElem.1 hy
    have h3 := (za0 (L := Ls) (k := k) (x := y) (by rw [List.getElem?_eq_getElem hk, e])).2
    omega⟩)
  have HLB := hid (show (∀ y ∈ zad Ls, y < 256) → ∀ y ∈ Ls, ∀ b ∈ y, b < 256 from fun hl y hy b hb => hl b (by
    unfold zad
    simp only [List.mem_cons, List.mem_append, List.mem_flatten]
    exact .inr (.inr (.inr ⟨y, hy, hb⟩))))
  have HCl := hid (fun V ad cap (hR : RecA (fun k => W.heap.size ≤ k) V ad Ls) => zxv V ad cap Ls hR (by have := hG.n.2; omega))
  have HM := hid HM
  have HH := hid h
  have hok := h.bok
  have HBK := hid hok
  have HNA := hid (show W.heap.size ∉ q.blocks from fun hm => by have := hok.q _ hm; omega)
  obtain ⟨n, hn⟩ : ∃ n, Ls.length = n := ⟨_, rfl⟩
  have HN := hid hn
  rw [hn] at HCl ⊢
  clear f hpl hp hx hI h0 h hG hcl hok hn
  obtain ⟨tag, cls, used, label, nm1, next, prev, rf, expiry, ty, size, hash⟩ := X
  have HT := hid hT
  simp only [cln] at HG HT hsz hnm ⊢
  clear hT
  subst hsz
  generalize hz : (zad Ls).length = z at *
  have HZ := hid hz
  generalize zag S = SS0 at *
  have wn : IntKind.i64.wrap (nm1 : Int) = (nm1 : Int) := i64_in _ (by omega)
  clear hz
  go_enter func26, ntmps26
  go_wp2_with fail
  with_reducible refine HG.out.mono ?_
  rintro e w1 ⟨rfl, k1, f1⟩
  obtain ⟨w2, hw2⟩ : ∃ w2, w1.alloc (.cells #[.int .i64 tag, .int .i64 cls, .bool used, .int .i64 label, .int .u32 nm1, .int .u32 next, .int .u32 prev, .int .u32 rf, .int .u64 expiry, .int .u16 ty, .int .i64 z, .int .u32 hash, .pointer (some ⟨q.m, 0, none⟩), .int .i64 x] 91) = w2 := ⟨_, rfl⟩
  have C2 := hid (show CP w0 q g l par own nm fr w2 from hw2 ▸ (HM.out _ k1 f1).fr0 ((Fr.refl [] w1).alloc _))
  have F2 := hid (show Fr q.blocks W w2 from hw2 ▸ ((((Fr.refl [] W).alloc (.cells itZ 60)).nil).trans f1).alloc _)
  have A2 := hid (show Blk w2 W.heap.size 60 itZ from hw2 ▸ (A0.out.fr f1 HNA.out).alloc _)
  have E2 := hid (show Blk w2 w1.heap.size 91 #[.int .i64 tag, .int .i64 cls, .bool used, .int .i64 label, .int .u32 nm1, .int .u32 next, .int .u32 prev, .int .u32 rf, .int .u64 expiry, .int .u16 ty, .int .i64 z, .int .u32 hash, .pointer (some ⟨q.m, 0, none⟩), .int .i64 x] from hw2 ▸ Blk.new _ _ _)
  have hs1 : W.heap.size + 1 ≤ w1.heap.size := by
    have := f1.size
    rw [World.size_alloc] at this
    exact this
  have HE1 := hid (show W.heap.size < w1.heap.size ∧ w1.heap.size ∉ q.blocks from ⟨by omega, fun hm => by have := HBK.out.q _ hm; omega⟩)
  have HTt := hid (HT.out w2 C2.out)
  have dd2 := E2.out.cell
  clear k1 f1 HG A0 HM hs1
  go_wp2_with fail
  with_reducible refine HTt.out.mono ?_
  rintro e w3 ⟨rfl, k3, f3⟩
  have C3 := hid k3
  have F3 := hid (F2.out.trans f3)
  have A3 := hid (A2.out.fr f3 HNA.out)
  have E3 := hid (E2.out.fr f3 HE1.out.2)
  have dd3 := E3.out.cell
  clear k3 f3 HTt HT dd2
  go_wp2_with fail
  with_reducible refine (HPk.out _ C3.out _ _ _ _ _ _ _ _ _ _ _).mono ?_
  rintro e w4 ⟨g2, cap2, rfl, hg2, hr2, hl2, k4, f4⟩
  have HU2 := hid (HU.out _ g2 cap2 hr2 hl2)
  have HL2 := hid (HLB.out hl2)
  have C4 := hid k4
  have F4 := hid (F3.out.trans f4)
  have A4 := hid (A3.out.fr f4 HNA.out)
  have E4 := hid (E3.out.fr f4 HE1.out.2)
  clear hg2 hr2 hl2 k4 f4 HPk HU dd3 C3 F3 A3 E3
  go_wp2_with fail
  with_reducible refine HU2.out.mono ?_
  rintro e w5 ⟨v5, rfl, k5, f5⟩
  obtain ⟨ad5, cp5, hv5, hr5⟩ := (k5.lo F4.out.size).recA HL2.out (fun y hy => by have := HLS.out.2 y hy; omega) (by have := HLS.out.1; omega)
  rw [HN.out] at hv5
  subst hv5
  have C5 := hid (C4.out.fr0 f5)
  have F5 := hid (F4.out.trans f5.nil)
  have A5 := hid (A4.out.fr f5 (by simp))
  have E5 := hid (E4.out.fr f5 (by simp))
  have HCc := hid (HCl.out _ ad5 cp5 (hr5.fr0 (Fr.refl [] w5).drew))
  clear k5 f5 hr5 HU2 C4 F4 A4 E4 HCl
  go_wp2_with fail
  have hY : ∀ i, w5.drew.cell? ⟨w1.heap.size, i, none⟩ = (#[.int .i64 tag, .int .i64 cls, .bool used, .int .i64 label, .int .u32 nm1, .int .u32 next, .int .u32 prev, .int .u32 rf, .int .u64 expiry, .int .u16 ty, .int .i64 z, .int .u32 hash, .pointer (some ⟨q.m, 0, none⟩), .int .i64 x] : Array Value)[i]? := (E5.out.fr (Fr.refl [] w5).drew (by simp)).cell
  have hne : w1.heap.size ≠ W.heap.size := by have := HE1.out.1; omega
  refine wp_region_held_drew (S := fun W => ∀ i, W.cell? ⟨w1.heap.size, i, none⟩ = (#[.int .i64 tag, .int .i64 cls, .bool used, .int .i64 label, .int .u32 nm1, .int .u32 next, .int .u32 prev, .int .u32 rf, .int .u64 expiry, .int .u16 ty, .int .i64 z, .int .u32 hash, .pointer (some ⟨q.m, 0, none⟩), .int .i64 x] : Array Value)[i]?) (by kernel_rfl) (hY) (fun yH => ?_)
  refine tkY 0 yH ?_
  refine tkY 1 yH ?_
  refine tkY 2 yH ?_
  refine tkY 3 yH ?_
  refine tkY 4 yH ?_
  refine tkY 5 yH ?_
  refine tkY 7 yH ?_
  refine tkY 8 yH ?_
  refine tkY 9 yH ?_
  refine tkY 10 yH ?_
  refine tkY 11 yH ?_
  refine tkY 12 yH ?_
  refine tkC 6 fun K hK => ?_
  go_simp
  with_reducible refine HCc.out.mono ?_
  rintro e w6 ⟨v6, rfl, k6, f6⟩
  have f6' := (Fr.refl [] w5).drew.trans f6
  obtain ⟨ad6, cp6, hv6⟩ := k6.val
  rw [HN.out] at hv6
  subst hv6
  have R6 := hid (show RecO w6 (W.heap.size + 1) (.slice ad6 n cp6) Ls from k6.lo (show W.heap.size + 1 ≤ w5.heap.size from A5.out.lt))
  have C6 := hid (C5.out.fr0 f6')
  have F6 := hid (F5.out.trans f6'.nil)
  have A6 := hid (A5.out.fr f6' (by simp))
  have E6 := hid (E5.out.fr f6' (by simp))
  have hY := E6.out.cell
  have cc6 := A6.out.cell
  have zz6 := A6.out.frozen
  clear k6 f6 f6'
  go_wp2_with fail
  refine hK.out _ _ _ hY fun yH => ?_
  clear hK K
  refine tkY 13 yH ?_
  refine tkC 14 fun K hK => ?_
  go_simp
  refine hK.out _ _ _ ((((((E6.out.far hne _).far hne _).far hne _).far hne _).far hne _).cell) fun yH => ?_
  clear hK K
  refine tkY 15 yH ?_
  refine wpAnyH_done (by kernel_rfl) ?_ _
  try simp only [Act.put, List.getElem_toArray, List.getElem_cons_zero, List.getElem_cons_succ, List.setIfInBounds_toArray, List.set_cons_zero, List.set_cons_succ]
  go_wp2_with fail
  refine gen5 (fun w9 => bodyPost _ _ _ _ _ w9) A6.out rfl (Fr.refl [W.heap.size] _) (.inl (by simp)) ?_
  intro w9 hb9 hf9
  refine bodyPost_ret (zbt (p := 4) (s := 5) (ty := 60) rfl _ _ W.heap.size 60 _ _ rfl hb9 underlying60 rfl (by kernel_rfl)) rfl ?_
  exact ⟨ad6, cp6, rfl, (R6.out.fr hf9 (fun k hk => by simp at hk; omega)).lo (by omega), C6.out.frL HBK.out hf9 (by simp), F6.out.step hf9 (fun k hk => .inr (by simp at hk; omega))⟩
end
end Go.Proofs.YtolhkhdbgnciiaaGreatDoor
