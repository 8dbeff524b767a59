/- Several texts in one. -/
import Derived.Test.YtolhkhdbgnciiaaGreatDoorMG
import Derived.Test.YtolhkhdbgnciiaaGreatDoorVA
namespace Go.Proofs.YtolhkhdbgnciiaaGreatDoor
open _root_.Go.Proofs.Tryz
open Go.Lib (hid)
open Go.IntWalk (i64_in)
set_option linter.unusedVariables false
set_option linter.unusedSimpArgs false
open Go.RowKit
set_option maxRecDepth 100000
set_option maxHeartbeats 4000000
theorem zxg{w w0:World}{g:Nat}{t:TypeId}{cs:Array Value}{S:List Nat}{v0 v1 v2 v3 v4 v5 v6 v7 v8 v9 v10 v11 v12 v13:Value}(C:World→Prop)(h:Blk w g t cs)(hs:cs.size=14)(hf:Fr S w0 w)(hg:g∈S∨w0.heap.size≤g)
  (K:∀w9,Blk w9 g t #[v0,v1,v2,v3,v4,v5,v6,v7,v8,v9,v10,v11,v12,v13]→Fr S w0 w9→C w9):C ((((((((((((((w.setCell ⟨g,0,none⟩ v0).setCell ⟨g,1,none⟩ v1).setCell ⟨g,2,none⟩ v2).setCell ⟨g,3,none⟩ v3).setCell ⟨g,4,none⟩ v4).setCell ⟨g,5,none⟩ v5).setCell ⟨g,6,none⟩ v6).setCell ⟨g,7,none⟩ v7).setCell ⟨g,8,none⟩ v8).setCell ⟨g,9,none⟩ v9).setCell ⟨g,10,none⟩ v10).setCell ⟨g,11,none⟩ v11).setCell ⟨g,12,none⟩ v12).setCell ⟨g,13,none⟩ v13):=by
 have:=K (w.setCells g 0 [v0,v1,v2,v3,v4,v5,v6,v7,v8,v9,v10,v11,v12,v13]) (by
  have:=h.setCells [v0,v1,v2,v3,v4,v5,v6,v7,v8,v9,v10,v11,v12,v13] 0;rw[zdi _ _ (by rw[hs];rfl)]at this;exact this) (hf.setCells hg _ _)
 exact this
def atV(X:HB)(m:Nat)(x:Int):Array Value:= #[.int .i64 X.tag,.int .i64 X.cls,.bool X.used,.int .i64 X.label,.int .u32 X.name,.int .u32 X.next,.int .u32 X.prev,.int .u32 X.refs,.int .u64 X.expiry,.int .u16 X.typ,.int .i64 X.size,.int .u32 X.hash,.pointer (some ⟨m,0,none⟩),.int .i64 x]
abbrev atZ:Array Value:= #[.int .i64 0,.int .i64 0,.bool false,.int .i64 0,.int .u32 0,.int .u32 0,.int .u32 0,.int .u32 0,.int .u64 0,.int .u16 0,.int .i64 0,.int .u32 0,.pointer none,.int .i64 0]
theorem zbt{P:Program}{fn:Func}{p s:Tmp}{ty:TypeId}(h:fn.results= #[.cell p ty,.tmp s])(tmps:Array Value)(w:World)(g:Nat)(t:TypeId)(cs:Array Value)(d:TypeDesc)
  (hp:tmps.getD p undef= .pointer (some ⟨g,0,none⟩)) (hg:Blk w g t cs)
  (hu:P.underlying ty=some d) (hd:(match d with| .struct _| .array _ _=>true|_=>false)=true) (hi:(P.info? ty).map (·.size)=some cs.size):
  (results fn tmps).run P w= .ok (.tuple #[.agg cs,tmps.getD s undef]) w:=by
 have hp':tmps[p]?.getD undef= .pointer (some ⟨g,0,none⟩):=by simpa using hp
 simp[results,h,hp',asAddr,run_loadVar_row w g t ty cs (0,0) d hg hu hd hi]
theorem IsH.ownB{w w2 w9:World}{q:MH}{t t2:TM}(h0:IsH w q t)(h:IsH w2 q t2)(hf:Fr [w.heap.size] w2 w9):IsH w9 q t2:=by
 have h1:=h0.m.tab.size;have h2:=h0.tabs.size;exact⟨h.m.fr hf (fun k hk hm=>by simp at hm;have:=h0.m.lt k hk;omega) (fun k hk hm=>by simp at hm;omega),h.tabs.fr hf (by simp;omega),h.hi⟩
section
variable {w : World} {q : MH} {t : TM} {x : Nat} {X : HB}
theorem zyr(h:IsH w q t)(at_:Int)(X:HB)(c:Nat)(hg:∀W,IsH W q t→Calls prog 117 #[.pointer (some ⟨q.m,0,none⟩),.int .i64 at_] W fun e w'=>e= .returned (.tuple #[X.val,.int .i64 c])∧IsH w' q t∧Fr q.blocks W w')(hc:c=0→X.tag=1):Calls prog 42 #[.pointer (some ⟨q.m,0,none⟩),.int .i64 at_] w fun e w'=>e= .returned (.tuple #[.agg (if c=0 then atV X q.m at_ else atZ),.int .i64 (if c=0 then 0 else 30)])∧IsH w' q t∧Fr q.blocks w w':=by
 have HG:=hid (fun W (hW:IsH W q t)=>(show Calls prog 117 #[.pointer (some ⟨q.m,0,none⟩),.int .i64 at_] W fun e w'=>e= .returned (.tuple #[.agg #[.int .i64 X.tag,.int .i64 X.cls,.bool X.used,.int .i64 X.label,.int .u32 X.name,.int .u32 X.next,.int .u32 X.prev,.int .u32 X.refs,.int .u64 X.expiry,.int .u16 X.typ,.int .i64 X.size,.int .u32 X.hash],.int .i64 c])∧IsH w' q t∧Fr q.blocks W w' from hg W hW));have HC:=hid (fun W (hW:IsT W q t)=>zca hW);have hE:=za7 t.a t.s h.m.ok.cfg.a1;unfold cfgV at HC;have A0:=hid (Blk.new w 91 atZ);have H0:=hid (h.alloc (.cells atZ 91));have F0:=hid (((Fr.refl [] w).alloc (.cells atZ 91)).nil (S:=q.blocks));have hlt:=h.m.lt;have HNA:=hid (show w.heap.size∉q.blocks from fun hm=>by have:=hlt _ hm;omega);have HI:=hid h;clear h hg hlt;generalize t.a=a at*;generalize t.s=s at*;unfold atV;obtain⟨tag,cls,used,label,nm,next,prev,refs,expiry,ty,size,hash⟩:=X;simp only at HG hc⊢;by_cases h0:c=0
 ·subst h0
  rw[if_pos rfl,if_pos rfl];obtain rfl:tag=1:=hc rfl;go_enter func42,ntmps42;go_wp2_with fail;with_reducible refine(HC.out _ H0.out.m).mono ?_
  rintro e w1 ⟨rfl,f1⟩;have H1:=hid (H0.out.fr0 f1);have F1:=hid (F0.out.trans f1.nil);have A1:=hid (A0.out.fr f1 (by simp));clear f1 HC H0 F0 A0;go_wp2_with fail;with_reducible refine(HG.out _ H1.out).mono ?_
  rintro e w2 ⟨rfl,k2,f2⟩;have H2:=hid (k2.alloc (.cells #[.int .i64 1,.int .i64 cls,.bool used,.int .i64 label,.int .u32 nm,.int .u32 next,.int .u32 prev,.int .u32 refs,.int .u64 expiry,.int .u16 ty,.int .i64 size,.int .u32 hash] 89));have F2:=hid ((F1.out.trans f2).alloc (.cells #[.int .i64 1,.int .i64 cls,.bool used,.int .i64 label,.int .u32 nm,.int .u32 next,.int .u32 prev,.int .u32 refs,.int .u64 expiry,.int .u16 ty,.int .i64 size,.int .u32 hash] 89));have A2:=hid ((A1.out.fr f2 HNA.out).alloc (.cells #[.int .i64 1,.int .i64 cls,.bool used,.int .i64 label,.int .u32 nm,.int .u32 next,.int .u32 prev,.int .u32 refs,.int .u64 expiry,.int .u16 ty,.int .i64 size,.int .u32 hash] 89));clear k2 f2 HG H1 F1 A1;have dd:=A2.out.cell;have zz:=A2.out.frozen;go_wp2_with fail;refine zxg (fun w9=>bodyPost _ _ _ _ _ w9) A2.out rfl (Fr.refl [w.heap.size] _) (.inl (by simp)) ?_;intro w9 hb9 hf9;refine bodyPost_ret (zbt (p:=4) (s:=5) (ty:=91) rfl _ _ w.heap.size 91 _ _ rfl hb9 underlying91 rfl (by kernel_rfl)) rfl ?_;exact⟨rfl,HI.out.ownB H2.out hf9,F2.out.step hf9 (fun k hk=> .inr (by simp at hk;omega))⟩
 ·rw[if_neg h0,if_neg h0]
  have hc1:((c:Int) !=0)=true:=by simp;omega
  have hc2:(c !=0)=true:=by simp;omega
  clear hc h0;go_enter func42,ntmps42;go_wp2_with fail;with_reducible refine(HC.out _ H0.out.m).mono ?_
  rintro e w1 ⟨rfl,f1⟩;have H1:=hid (H0.out.fr0 f1);have F1:=hid (F0.out.trans f1.nil);have A1:=hid (A0.out.fr f1 (by simp));clear f1 HC H0 F0 A0;go_wp2_with fail;with_reducible refine(HG.out _ H1.out).mono ?_
  rintro e w2 ⟨rfl,k2,f2⟩;have HO:=hid (fun o=>And.intro (k2.alloc o) (And.intro ((F1.out.trans f2).alloc o) ((A1.out.fr f2 HNA.out).alloc o)));have dd:=(HO.out (.cells #[.int .i64 tag,.int .i64 cls,.bool used,.int .i64 label,.int .u32 nm,.int .u32 next,.int .u32 prev,.int .u32 refs,.int .u64 expiry,.int .u16 ty,.int .i64 size,.int .u32 hash] 89)).2.2.cell;have zz:=(HO.out (.cells #[.int .i64 tag,.int .i64 cls,.bool used,.int .i64 label,.int .u32 nm,.int .u32 next,.int .u32 prev,.int .u32 refs,.int .u64 expiry,.int .u16 ty,.int .i64 size,.int .u32 hash] 89)).2.2.frozen;clear k2 f2 HG H1 F1 A1;go_wp2_with fail;refine zxg (fun w9=>bodyPost _ _ _ _ _ w9) (HO.out _).2.2 rfl (Fr.refl [w.heap.size] _) (.inl (by simp)) ?_;intro w9 hb9 hf9;refine bodyPost_ret (zbt (p:=4) (s:=5) (ty:=91) rfl _ _ w.heap.size 91 _ _ rfl hb9 underlying91 rfl (by kernel_rfl)) rfl ?_;exact⟨rfl,HI.out.ownB (HO.out _).1 hf9,(HO.out _).2.1.step hf9 (fun k hk=> .inr (by simp at hk;omega))⟩
def EGet(q:MH)(t:TM)(x:Int)(X:HB)(z:Option Addr)(pl:Int)(c:Nat):Prop:= ∀W,IsH W q t→Calls prog 42 #[.pointer (some ⟨q.m,0,none⟩),.int .i64 x] W fun e w'=>e= .returned (.tuple #[.agg #[.int .i64 X.tag,.int .i64 X.cls,.bool X.used,.int .i64 X.label,.int .u32 X.name,.int .u32 X.next,.int .u32 X.prev,.int .u32 X.refs,.int .u64 X.expiry,.int .u16 X.typ,.int .i64 X.size,.int .u32 X.hash,.pointer z,.int .i64 pl],.int .i64 c])∧IsH w' q t∧Fr q.blocks W w'
theorem zk6(hx:BlkE t x X)(ht:X.tag=1):EGet q t x X (some ⟨q.m,0,none⟩) x 0:=fun W hW=>
 zyr hW x X 0 (fun V hV=>hget V q t hV x X.tag.toNat 5 X hx.h hx.ok hx.r hx.tagN hx.lies (.inl rfl)) (fun _=>ht)
theorem zwr(x:Int)(h5:zbd t.kinds x 4≠5)(h6:zbd t.kinds x 4≠6):EGet q t x zHB none 0 30:=fun W hW=>
 zyr hW x zHB 30 (fun V hV=>zko hV x h5 h6) (fun e=>by cases e)
end
section
variable {w : World} {q : MH} {t : TM} {x : Nat}
theorem zx4(w:World)(C:Array Value)(m x:Nat)(hx:x<1099511627776){a1 a2 a4 a11:Int}{a3:Bool}{a5 a6 a7 a8 a9 a10 a12:Nat}(hC:C= #[.int .i64 a1,.int .i64 a2,.bool a3,.int .i64 a4,.int .u32 a5,.int .u32 a6,.int .u32 a7,.int .u32 a8,.int .u64 a9,.int .u16 a10,.int .i64 a11,.int .u32 a12,.pointer (some ⟨m,0,none⟩),.int .i64 x]):Calls prog 50 #[.agg C] w fun e w'=>e= .returned (.int .i64 ((x:Int)+32))∧Fr [] w w':=by
 subst hC;have wx:=i64_in ((x:Int)+32) (by omega);go_enter func50,ntmps50;go_wp2_with fail;go_ret;exact⟨rfl,(Fr.refl [] w).alloc _⟩
theorem zpy(h:IsH w q t)(b:List Nat)(hb:ByOn t (x+32) b.length (fun j=>b[j]?.getD 0))(n:Nat)(hn:32+b.length≤n)(hn16:n %16=0)(hx16:x %16=0)(hxn:x+n≤zae t.a t.s)(hk:KdOn t x n 5){a1 a2 a4:Int}{a3:Bool}{a5 a6 a7 a8 a9 a10 a12:Nat}:Calls prog 44 #[.agg #[.int .i64 a1,.int .i64 a2,.bool a3,.int .i64 a4,.int .u32 a5,.int .u32 a6,.int .u32 a7,.int .u32 a8,.int .u64 a9,.int .u16 a10,.int .i64 b.length,.int .u32 a12,.pointer (some ⟨q.m,0,none⟩),.int .i64 x]] w fun e w'=>∃g cap,e= .returned (.slice (some ⟨g,0,none⟩) b.length cap)∧w.heap.size≤g∧RowB w' g cap b∧IsH w' q t∧Fr q.blocks w w':=by
 have hle:=zc2 t.a t.s h.m.ok.cfg;have HR:=hid (fun W (hW:IsH W q t)=>z0c hW ((x:Int)+32) (x+32) (by omega) b hb ((b.length+3)/4*4) (by omega) (by omega) (by omega) (by omega) (fun g g1 g2=>hk g (by omega) (by omega)) b.length rfl);have HD:=hid (fun W=>zx4 (a1:=a1) (a2:=a2) (a3:=a3) (a4:=a4) (a5:=a5) (a6:=a6) (a7:=a7) (a8:=a8) (a9:=a9) (a10:=a10) (a11:=b.length) (a12:=a12) W _ q.m x (by omega) rfl);generalize b.length=m at*;have H0:=hid (h.alloc (.cells #[.int .i64 a1,.int .i64 a2,.bool a3,.int .i64 a4,.int .u32 a5,.int .u32 a6,.int .u32 a7,.int .u32 a8,.int .u64 a9,.int .u16 a10,.int .i64 m,.int .u32 a12,.pointer (some ⟨q.m,0,none⟩),.int .i64 x] 91));have F0:=hid (((Fr.refl [] w).alloc (.cells #[.int .i64 a1,.int .i64 a2,.bool a3,.int .i64 a4,.int .u32 a5,.int .u32 a6,.int .u32 a7,.int .u32 a8,.int .u64 a9,.int .u16 a10,.int .i64 m,.int .u32 a12,.pointer (some ⟨q.m,0,none⟩),.int .i64 x] 91)));have A0:=hid (Blk.new w 91 #[.int .i64 a1,.int .i64 a2,.bool a3,.int .i64 a4,.int .u32 a5,.int .u32 a6,.int .u32 a7,.int .u32 a8,.int .u64 a9,.int .u16 a10,.int .i64 m,.int .u32 a12,.pointer (some ⟨q.m,0,none⟩),.int .i64 x]);have hlt:=h.m.lt;have HNA:=hid (show w.heap.size∉q.blocks from fun hm=>by have:=hlt _ hm;omega);clear h hb hn hk hxn hle hlt;go_enter func44,ntmps44;go_wp2_with fail;have hY:=A0.out.drew.cell;refine wp_region_held_drew (S:=fun W=>∀i,W.cell? ⟨w.heap.size,i,none⟩=(#[.int .i64 a1,.int .i64 a2,.bool a3,.int .i64 a4,.int .u32 a5,.int .u32 a6,.int .u32 a7,.int .u32 a8,.int .u64 a9,.int .u16 a10,.int .i64 m,.int .u32 a12,.pointer (some ⟨q.m,0,none⟩),.int .i64 x])[i]?) (by kernel_rfl) (hY) (fun yH=> ?_);refine tkY 0 yH ?_;refine tkY 1 yH ?_;refine tkY 2 yH ?_;refine tkY 4 yH ?_;refine tkY 5 yH ?_;refine tkY 6 yH ?_;refine tkC 3 fun K hK=> ?_;go_simp;with_reducible refine(HD.out _).mono ?_
 rintro e w3 ⟨rfl,f3⟩;have H3:=hid (H0.out.drew.fr0 f3);have F3:=hid (F0.out.drew.trans f3);have A3:=hid (A0.out.drew.fr f3 (by simp));have hY:=A3.out.cell;clear f3;go_wp2_with fail;refine hK.out _ _ _ hY fun yH=> ?_;clear hK K;refine tkC 7 fun K hK=> ?_;go_simp;with_reducible refine(HR.out _ H3.out).mono ?_
 rintro e w7 ⟨g,cap,rfl,hg,hr,k7,f7⟩;have R7:=hid (And.intro (show w.heap.size≤g from Nat.le_trans F3.out.size hg) (And.intro hr (And.intro k7 (F3.out.nil.trans f7))));have hY:=(A3.out.fr f7 HNA.out).cell;clear hg hr k7 f7;go_wp2_with fail;refine hK.out _ _ _ hY fun yH=> ?_;clear hK K;refine tkY 8 yH ?_;refine wpAnyH_done (by kernel_rfl) ?_ _;go_wp2_with fail;go_ret;exact⟨g,cap,rfl,R7.out⟩
end
def keyH(h typ:Nat):Nat:=mixS h [typ %256,typ/256]
theorem zn8{h:Nat}(typ:Nat):keyH h typ<4294967296:=by
 unfold keyH mixS;rw[List.foldl_cons,List.foldl_cons,List.foldl_nil];exact zkg _ _
theorem xkey(w:World)(h typ:Nat)(ht:typ<65536):Calls prog 154 #[.int .u32 h,.int .u16 typ] w fun e w'=>e= .returned (.int .u32 (keyH h typ))∧Fr [] w w':=by
 have HT:=hid (fun W g (hb:Blk W g 5 #[.int .u8 (typ %256:Nat),.int .u8 (typ/256:Nat)])=>(show Calls prog 237 #[.int .u32 h,.slice (some ⟨g,0,none⟩) 2 2] W fun e w'=>e= .returned (.int .u32 (keyH h typ))∧w'=W from by
  have hby:Byt W (some ⟨g,0,none⟩) [typ %256,typ/256] :=⟨fun i hi=>by
   have:i=0∨i=1:=by simp at hi;omega
   rcases this with rfl|rfl
   ·exact⟨g,0,rfl,hb.cell 0,hb.lt⟩
   ·exact⟨g,0,rfl,hb.cell 1,hb.lt⟩,fun b hm=>by simp at hm;omega,by simp⟩
  have ht:=(show Calls prog 283 #[.int .u32 h,.slice (some ⟨g,0,none⟩) 2 2] W fun e w'=>e= .returned (.int .u32 (keyH h typ))∧w'=W from ztj W h _ 2 [typ %256,typ/256] hby (by simp));generalize keyH h typ=R at*;clear hby;go_enter func237,ntmps237;go_wp2_with fail;with_reducible refine ht.mono ?_
  rintro e w2 ⟨rfl,rfl⟩;go_wp2_with fail;go_ret;exact⟨rfl,rfl⟩))
 obtain⟨a,ha⟩:∃a:Nat,typ %256=a:=⟨_,rfl⟩;obtain⟨b,hb⟩:∃b:Nat,typ/256=b:=⟨_,rfl⟩;have e1:IntKind.u8.wrap (typ:Int)=(a:Int):=by show(typ:Int) %256=_;omega
 have e3:IntKind.u8.wrap (b:Int)=(b:Int):=by show(b:Int) %256=_;omega
 rw[ha,hb]at HT;have HX:=hid (And.intro ha hb);clear ha hb;generalize keyH h typ=R at*;go_enter func154,ntmps154;go_wp2_with fail;have hE:((typ:Int)/256)=(b:Int):=by have:=HX.out.2;omega
 with_reducible refine(HT.out _ w.heap.size (by rw[←hE];exact Blk.new _ _ _)).mono ?_
 rintro e w2 ⟨rfl,he⟩;rw[he];clear he hE HT;go_wp2_with fail;go_ret;exact⟨rfl,(Fr.refl [] w).alloc _⟩
section
variable {w0 W : World} {q : MH} {S : SS} {x y n : Nat} {u : TM} {L : Nat → Prop} {l R : List Nat} {E : Nat → HB} {B : Nat → List Nat}
theorem NI.finds(g:NI w0 q S L l u E B W)(P Q:Nat→Bool)(h:Nat)(hP:∀z,L z→(P z=true↔z∈R∧Q z=true))(hL:∀z∈R,L z)(hh:∀z∈R,Q z=true→(E z).hash=h)(one:∀y∈R,∀z∈R,Q y=true→Q z=true→y=z):(fndT u.sl (hmE u E) 224 (h %224) P).map u.sl=R.find? Q:=by
 cases hf:fndT u.sl (hmE u E) 224 (h %224) P with
 |some i=>
  obtain⟨h1,h2,h3⟩:=zdx _ (by decide) 224 0 i hf;obtain⟨k1,k2⟩:=(hP _ ((g.inx _ h3).1 ⟨i,h1,rfl⟩)).1 h2;cases hc:R.find? Q with
  |none=>exact absurd k2 (by simpa using List.find?_eq_none.1 hc _ k1)
  |some z=>exact congrArg some (one _ k1 _ (List.mem_of_find?_eq_some hc) k2 (List.find?_some hc))
 |none=>
  symm;show R.find? Q=none;rw[List.find?_eq_none];intro z hz hp;have h0:=(g.wb.ne0 (hL z hz)).1;obtain⟨i,hi,e⟩:=(g.inx z h0).2 (hL z hz);obtain⟨j,hj,e2,_⟩:=g.wb.rh.r.finds P hi (by rw[e];exact h0) (by rw[e];exact(hP z (hL z hz)).2 ⟨hz,hp⟩);have hm:hmE u E (u.sl i)=h %224:=by rw[e];unfold hmE;rw[g.wb.s,hh z hz hp]
  rw[hm,hf]at e2;cases e2
theorem zxm(g:NI w0 q S L l u E B W)(hx:x=0∨x∈l):Calls prog 155 #[.pointer (some ⟨q.m,0,none⟩),.int .i64 x] W fun e w'=>e= .returned (.int .u32 (hsh E x))∧IsH w' q u∧Fr q.blocks W w':=by
 unfold hsh;rcases Nat.eq_zero_or_pos x with e|h1
 ·rw[if_pos e,e]
  exact(zqg W _).mono fun e w' ⟨h1,h2⟩=>⟨h1,by rw[h2];exact g.wb.h,by rw[h2];exact Fr.refl _ _⟩
 ·have hm:=(g.mem x).1 (hx.resolve_left (by omega))
  rw[if_neg (by omega)];exact zvo g.wb.h (g.wb.ix.e x hm.1) (by omega) hm.2
theorem zw8(g:NI w0 q S L l u E B W)(hx:x=0∨x∈l)(typ:Nat)(ht:typ<65536):Calls prog 71 #[.pointer (some ⟨q.m,0,none⟩),.int .i64 x,.int .u16 typ] W fun e w'=>e= .returned (.int .u32 (keyH (hsh E x) typ))∧IsH w' q u∧Fr q.blocks W w':=by
 have HH:=zxm g hx;have HK:=hid (fun V=>xkey V (hsh E x) typ ht);generalize keyH (hsh E x) typ=k at*;generalize hsh E x=h at*;clear g hx;go_enter func71,ntmps71;go_wp2_with fail;with_reducible refine HH.mono ?_
 rintro e w1 ⟨rfl,k1,f1⟩;have K1:=hid (And.intro k1 f1);clear k1 f1 HH;go_wp2_with fail;with_reducible refine(HK.out _).mono ?_
 rintro e w2 ⟨rfl,f2⟩;have K2:=hid (And.intro (K1.out.1.fr0 f2) (K1.out.2.trans f2.nil));clear f2 K1;go_wp2_with fail;go_ret;exact⟨rfl,K2.out⟩
theorem zqd(g:NI w0 q S L l u E B W)(hx:x=0∨x∈l):Calls prog 69 #[.pointer (some ⟨q.m,0,none⟩),.int .i64 x] W fun e w'=>e= .returned (.bool true)∧IsH w' q u∧Fr q.blocks W w':=by
 rcases Nat.eq_zero_or_pos x with e|h1
 ·subst e
  have hc:=zca g.wb.h.m;have H0:=hid g.wb.h;have hE:=za7 u.a u.s g.wb.h.m.ok.cfg.a1;unfold cfgV at hc;generalize u.a=a at*;generalize u.s=s at*;clear g hx;go_enter func69,ntmps69;go_wp2_with fail;with_reducible refine hc.mono ?_
  rintro e w1 ⟨rfl,f1⟩;have K1:=hid (And.intro (H0.out.fr0 f1) (f1.nil (S:=q.blocks)));clear f1 hc;go_wp2_with fail;go_ret;exact⟨rfl,K1.out⟩
 ·have hx':=hx.resolve_left (by omega)
  have hm:=(g.mem x).1 hx';have ct:=g.wb.ct x hm.1;obtain⟨c,hc,c1,c9,hlv,hfit⟩:=ct.n;obtain⟨b1,b2,b3,b4,b5,b6,b7⟩:=g.wb.at_ hlv;have hsz:sz (E x).tag.toNat=16:=by rw[hm.2];rfl
  have hon:=ct.on;rw[hsz]at hon hfit;have l2:=ct.l2 hm.2;have HL:=zt4 g.wb.h (g.wb.ix.e x hm.1) hm.2 (B x) l2.1 l2.2.2 ct.lt hon (csz c) hfit b3 b2 b6 b7;have b0:((x:Int)==0)=false:=by rw[beq_eq_false_iff_ne];omega
  have b0':(x==0)=false:=by rw[beq_eq_false_iff_ne];omega
  generalize zag (B x)=sb at*;clear g hx hx' hm ct hc hlv hfit b1 b2 b3 b4 b5 b6 b7 hsz hon l2 h1;go_enter func69,ntmps69;go_wp2_with fail;with_reducible refine HL.mono ?_
  rintro e w1 ⟨rfl,k1,f1⟩;have K1:=hid (And.intro k1 f1);clear k1 f1 HL;go_wp2_with fail;go_ret;exact⟨rfl,K1.out⟩
def zbg(E:Nat→HB)(name typ:Nat)(z:Nat):Bool:=(E z).name==name&&(E z).typ==typ
theorem z0r(g:NI w0 q S L l u E B W)(hA:∀z,L z→z∈l∨z∈R)(hR:∀z∈R,L z∧z∉l)(hx:x=0∨x∈l)(typ:Nat)(ht:typ<65536)(hh:∀y∈R,(E y).hash=keyH (hsh E (E y).name) (E y).typ)(one:∀y∈R,∀z∈R,(E y).name=(E z).name→(E y).typ=(E z).typ→y=z):Calls prog 27 #[.pointer (some ⟨q.m,0,none⟩),.int .i64 x,.int .u16 typ] W fun e w'=>e= .returned (ansN (R.find? (zbg E x typ)))∧IsH w' q u∧Fr q.blocks W w':=by
 have hx2:x<1048576:=by
  rcases hx with e|e
  ·omega
  ·exact(g.lt e).2
 have HN:=zqd g hx;have HH:=hid (fun V (hV:IsH V q u) (hf:Fr q.blocks W V)=>zw8 (g.same hV hf) hx typ ht)
 have HE:=hid (fun V (hV:IsH V q u)=>(show Calls prog 70 #[.pointer (some ⟨q.m,0,none⟩),.int .u32 x,.int .u16 typ,.int .u32 (keyH (hsh E x) typ)] V fun e w'=>e= .returned (ansN (R.find? (zbg E x typ)))∧IsH w' q u∧Fr q.blocks V w' from by
  have tg:∀z,L z→((E z).tag=1↔z∈R):=fun z hz=>by
   constructor
   ·intro h1
    exact(hA z hz).resolve_left (fun k=>by have:=((g.mem z).1 k).2;omega)
   ·intro hr
    rcases(g.wb.ix.e z hz).tg with k|k
    ·exact k
    ·exact absurd ((g.mem z).2 ⟨hz,k⟩) (hR z hr).2
  have hk:∀z∈R,zbg E x typ z=true→(E z).hash=keyH (hsh E x) typ:=fun z hz hp=>by
   unfold zbg at hp;simp only[Bool.and_eq_true,beq_iff_eq]at hp;rw[hh z hz,hp.1,hp.2]
  have hf:=g.finds (R:=R) (isEn E x typ (keyH (hsh E x) typ)) (zbg E x typ) (keyH (hsh E x) typ) (fun z hz=>by
   unfold isEn;constructor
   ·intro hp
    simp only[Bool.and_eq_true,beq_iff_eq]at hp;exact⟨(tg z hz).1 hp.1.1.1,by unfold zbg;simp[hp.1.1.2,hp.1.2]⟩
   ·rintro⟨h1,h2⟩
    have h3:=hk z h1 h2;unfold zbg at h2;simp only[Bool.and_eq_true,beq_iff_eq]at h2;simp[(tg z hz).2 h1,h2.1,h2.2,h3]) (fun z hz=>(hR z hz).1) hk (fun y hy z hz h1 h2=>by
   unfold zbg at h1 h2;simp only[Bool.and_eq_true,beq_iff_eq]at h1 h2;exact one y hy z hz (h1.1.trans h2.1.symm) (h1.2.trans h2.2.symm))
  have:=zys hV g.wb.ix x typ (keyH (hsh E x) typ) (by omega) ht (zn8 _);rw[g.wb.s]at this;rw[←hf];refine this.mono fun e w' ⟨he,k⟩=>⟨?_,k⟩;rw[he];cases fndT u.sl (hmE u E) 224 (keyH (hsh E x) typ %224) (isEn E x typ (keyH (hsh E x) typ))<;>rfl))
 have wu:IntKind.u32.wrap (x:Int)=(x:Int):=IntWalk.u32_in _ (by omega);generalize keyH (hsh E x) typ=k at*;obtain⟨V,hV⟩:∃V,ansN (R.find? (zbg E x typ))=V:=⟨_,rfl⟩
 obtain⟨va,vb,hab⟩:∃va vb,ansN (R.find? (zbg E x typ))= .tuple #[va,vb] :=by
  cases R.find? (zbg E x typ)with
  |some z=>exact⟨_,_,rfl⟩
  |none=>exact⟨_,_,rfl⟩
 rw[hab]at HE⊢;clear g hA hR hx hh one hx2 hV hab;go_enter func27,ntmps27;go_wp2_with fail;with_reducible refine HN.mono ?_
 rintro e w1 ⟨rfl,k1,f1⟩;have K1:=hid (And.intro k1 f1);clear k1 f1 HN;go_wp2_with fail;with_reducible refine(HH.out _ K1.out.1 K1.out.2).mono ?_
 rintro e w2 ⟨rfl,k2,f2⟩;have K2:=hid (And.intro k2 (K1.out.2.trans f2));clear k2 f2 HH;go_wp2_with fail;with_reducible refine(HE.out _ K2.out.1).mono ?_
 rintro e w3 ⟨rfl,k3,f3⟩;have K3:=hid (And.intro k3 (K2.out.2.trans f3));clear k3 f3 HE;go_wp2_with fail;go_ret2;exact⟨rfl,K3.out⟩
end
section
variable {w0 W : World} {q : MH} {S : SS} {x c : Nat} {u : TM} {L : Nat → Prop} {E : Nat → HB} {B : Nat → List Nat} {b : List Nat}
theorem zts(g:WB w0 q S L u E B W)(hf:Fx u S L x c):Calls prog 88 #[.pointer (some ⟨q.m,0,none⟩),.int .i64 x,.int .i64 c] W fun e w'=>e= .returned (.bool true)∧IsH w' q u∧Fr q.blocks W w':=by
 obtain⟨b1,b2,b3,b4,b5,b6,b7⟩:=g.at_ hf.lv;obtain⟨i,hi,hxi,hc⟩:=g.lv7 hf.lv;have hb:=zo6 g.sl g.h.m.ok hi (.inr hxi)
 have hcls:S.cls i=c:=by
  have hs1:=g.sl.each i hi;have h0:=hs1.none (.inr hxi);have h9:=hs1.c9;have hcl:=hf.cl;have key:∀a,a≤9→∀b,b≤9→csz a=csz b→a=b:=by decide
  exact key _ h9 _ hcl.2 hc.symm
 have HBl:=(show Calls prog 107 #[.pointer (some ⟨q.m,0,none⟩),.int .i64 x] W fun e w'=>e= .returned (.tuple #[.int .i64 i,.int .i64 x,.bool true])∧IsH w' q u∧Fr q.blocks W w' from by
  have:=zhr g.h g.sl (x:Int);rw[hb]at this;exact this)
 have hk5:zbd u.kinds x 4=5:=by
  rw[zk2 g.h.m.ok (by omega) (by omega)];exact b7 _ (Nat.le_refl _) (by omega)
 have HK:=hid (fun V (hV:IsH V q u)=>(show Calls prog 61 #[.pointer (some ⟨q.m,0,none⟩),.int .i64 x,.int .i64 4] V fun e w'=>e= .returned (.int .i64 5)∧w'=V from by
  have:=zqj V q u.ms hV.m.m x 4;rw[show zbd u.ms.ks x 4=5 from hk5]at this;exact this))
 have HG:=hid (fun V (hV:IsH V q u)=>(show Calls prog 175 #[.pointer (some ⟨q.m,0,none⟩),.int .i64 i] V fun e w'=>e= .returned (.tuple #[.agg #[.int .i64 c,.int .i64 (u.hd i 1),.int .u32 (u.hd i 2),.int .i64 (u.hd i 3),.int .i64 (u.hd i 4)],.int .i64 0])∧IsT w' q u∧Fr q.blocks V w' from by
  have:=zf0 hV.m i hi;rw[(g.sl.each i hi).h0,hcls]at this;exact this))
 have hat:At u x 4 5 0:=⟨by decide,by omega,by decide,by omega,by decide,fun gg g1 g2=>b7 gg (by omega) (by omega),fun j hj=>by rw[hf.z j (by omega),nb_0]⟩;have HL:=hid (fun V (hV:IsH V q u)=>(show Calls prog 122 #[.pointer (some ⟨q.m,0,none⟩),.int .i64 x,.int .i64 4,.int .i64 5] V fun e w'=>e= .returned (.int .u64 0)∧IsT w' q u∧Fr q.blocks V w' from zjj hV.m hat));generalize u.hd i 1=h1 at*;generalize u.hd i 2=h2 at*;generalize u.hd i 3=h3 at*;generalize u.hd i 4=h4 at*;clear hat hk5 hb hcls hxi hc b1 b2 b3 b4 b5 b6 b7 hf g;go_enter func88,ntmps88;go_wp2_with fail;with_reducible refine HBl.mono ?_
 rintro e w1 ⟨rfl,k1,f1⟩;have K1:=hid k1;have F1:=hid f1;clear k1 f1 HBl;go_wp2_with fail;with_reducible refine(HK.out _ K1.out).mono ?_
 rintro e w2 ⟨rfl,rfl⟩;go_wp2_with fail;with_reducible refine(HG.out _ K1.out).mono ?_
 rintro e w3 ⟨rfl,k3,f3⟩;have K3:=hid ((K1.out.step k3 f3).alloc (.cells #[.int .i64 c,.int .i64 h1,.int .u32 h2,.int .i64 h3,.int .i64 h4] 161));have F3:=hid ((F1.out.trans f3).alloc (.cells #[.int .i64 c,.int .i64 h1,.int .u32 h2,.int .i64 h3,.int .i64 h4] 161));clear k3 f3;go_wp2_with fail;with_reducible refine(HL.out _ K3.out).mono ?_
 rintro e w4 ⟨rfl,k4,f4⟩;have K4:=hid (K3.out.step k4 f4);have F4:=hid (F3.out.trans f4);clear k4 f4;go_wp2_with fail;go_ret;exact⟨rfl,K4.out,F4.out⟩
end
theorem zy7(E:Nat→HB)(a c y:Nat):cln (nxE E a c y)=cln (E y):=by
 unfold nxE;by_cases h:y=a
 ·subst h;rw[zaa];rfl
 ·rw[zac _ _ h]
theorem zyj(E:Nat→HB)(a c y:Nat):cln (pvE E a c y)=cln (E y):=by
 unfold pvE;by_cases h:y=a
 ·subst h;rw[zaa];rfl
 ·rw[zac _ _ h]
theorem znb(E:Nat→HB)(a c y:Nat):cln (jnE E a c y)=cln (E y):=by
 unfold jnE;rw[zyj,zy7]
theorem zp6(E:Nat→HB){a c y:Nat}(h1:y≠a)(h2:y≠c):jnE E a c y=E y:=by
 unfold jnE pvE nxE;rw[zac _ _ h2,zac _ _ h1]
theorem ziw(E:Nat→HB)(R:List Nat)(x y:Nat):cln (insH E R x y)=cln (E y):=by
 unfold insH;split
 ·exact znb _ _ _ _
 ·rw[znb,znb]
theorem zr0{X Y:HB}(h:cln X=cln Y):X.tag=Y.tag∧X.cls=Y.cls∧X.used=Y.used∧X.label=Y.label∧X.name=Y.name∧X.refs=Y.refs∧X.expiry=Y.expiry∧X.typ=Y.typ∧X.size=Y.size∧X.hash=Y.hash:=
 have t1:(cln X).tag=(cln Y).tag∧(cln X).cls=(cln Y).cls∧(cln X).used=(cln Y).used∧(cln X).label=(cln Y).label∧(cln X).name=(cln Y).name∧(cln X).refs=(cln Y).refs∧(cln X).expiry=(cln Y).expiry∧(cln X).typ=(cln Y).typ∧(cln X).size=(cln Y).size∧(cln X).hash=(cln Y).hash:=by
  rw[h];exact⟨rfl,rfl,rfl,rfl,rfl,rfl,rfl,rfl,rfl,rfl⟩
 t1
section
variable {w0 W W' : World} {q : MH} {S : SS} {x y n b : Nat} {u v : TM} {L Lr : Nat → Prop} {E E' : Nat → HB} {B : Nat → List Nat} {R : List Nat}
theorem WB.nbr(g:WB w0 q S L u E B W)(h:IsH W' q v)(hf:Fr q.blocks W W')(n:Nbr u v Lr)(hs:SlI v S)(r:Ents v Lr E')(hL:∀y,Lr y→L y)(hE:∀y,¬Lr y→E' y=E y)(hc:∀y,cln (E' y)=cln (E y)):WB w0 q S L v E' B W':=by
 have ea:=n.a;have es:=n.s;have ehm:hmE v E'=hmE u E:=by funext y;unfold hmE;rw[es,(zr0 (hc y)).2.2.2.2.2.2.2.2.2]
 have hlv:∀y,L y→∃c,Lv 7 S y (csz c)∧1≤c∧c≤9:=fun y hy=>by
  obtain⟨c,_,c1,c9,hlv,_⟩:=(g.ct y hy).n;exact⟨c,hlv,c1,c9⟩
 have ap:∀y,L y→∀c,Lv 7 S y (csz c)→∀i,y≤i→i<y+csz c→(∀z,Lr z→z=y→i<y+8∨y+16≤i)→zah v i=zah u i:=fun y hy c hc i h1 h2 h3=>by
  have b1:=(g.at_ hc).1;refine n.by_ i (fun z hz=> ?_) (by omega);by_cases e:z=y
  ·rw[e];exact h3 z hz e
  ·obtain⟨c',hc',k1,k9⟩:=hlv z (hL z hz)
   have:=g.apart hc' hc e;have:=zai c' k1 k9;omega
 refine⟨h,hs,⟨fun y hy=> ?_,fun i hi=>by rw[n.sl];exact g.ix.sl i (by rw[←es];exact hi),by rw[es];exact g.ix.s0,by rw[es];exact g.ix.s1⟩,by rw[n.sl,ehm];exact g.rh,fun y hy=> ?_,ea.trans g.a,es.trans g.s,n.ft.trans g.ft,g.f.step hf (fun k hk=> .inr (g.hq k hk)),g.hq,g.fl⟩
 ·rcases Classical.em (Lr y)with hr|hr
  ·have k:=r.e y hr
   exact⟨by rw[k.tag];exact k.h,k.ok,k.r,.inl k.tag⟩
  ·rw[hE y hr]
   have hb:=g.ix.e y hy;obtain⟨c,_,_,_,hlv,hfit⟩:=(g.ct y hy).n;obtain⟨b1,b2,b3,b4,b5,b6,b7⟩:=zi2 hs h.m.ok (show Lv v.a S y (csz c)by rw[ea,g.a];exact hlv);have hz:=zec (E y).tag.toNat hb.h.tg;exact hb.keep ea es (fun gg g1 g2=>b7 gg g1 (by omega)) (by omega) (fun k hk=>ap y hy c hlv _ (by omega) (by omega) (fun z hz e=>absurd (e▸hz) hr))
 ·have cy:=g.ct y hy
  obtain⟨t1,t2,_,t4,_,_,_,_,t9,_⟩:=zr0 (hc y);have c2:=cy.same (X':=E' y) t1 t2 t4 t9;obtain⟨c,e1,c1,c9,hlv,hfit⟩:=c2.n;have b1:=(g.at_ hlv).1;refine⟨⟨c,e1,c1,c9,hlv,hfit⟩,c2.lt,fun j hj=> ?_,c2.l2,c2.l1⟩
  rw[ap y hy c hlv _ (by omega) (by omega) (fun z hz e=> .inr (by
   have:=(r.e z hz).tag;rw[e]at this;rw[this];show y+16≤y+32+j;omega))]
  exact c2.on j hj
theorem zv9(g:WB w0 q S L u E B W)(r:RgI u Lr E R b)(hL:∀y,Lr y→L y)(hx:Lr x)(hn:x∉R):Calls prog 92 #[.pointer (some ⟨q.m,0,none⟩),.int .i64 x] W fun e w'=>e= .returned (.int .i64 0)∧Fr q.blocks W w'∧WB w0 q S L (insT u E R x) (insH E R x) B w':=by
 have hc:Calls prog 92 #[.pointer (some ⟨q.m,0,none⟩),.int .i64 x] W fun e w'=>e= .returned (.int .i64 0)∧IsH w' q (insT u E R x)∧Fr q.blocks W w':=by
  by_cases h0:R= []
  ·have:=r
   rw[h0]at this;have:=zyl g.h this hx;unfold insT;rw[if_pos h0];exact this
  ·have:=zy1 g.h r h0 hx hn
   unfold insT;rw[if_neg h0];exact this
 have k:=r.insAny hx hn
 refine hc.mono fun e w' ⟨he,h1,h2⟩=>⟨he,h2,g.nbr h1 h2 (r.nbrIns hx) (g.sl.ins r (fun y hy=>by
  obtain⟨m,hm⟩:=g.lv (hL y hy);exact⟨m,g.lv7 hm⟩) hx) k.ents hL (fun y hy=> ?_) (fun y=> ?_)⟩
 ·unfold insH
  have hxy:y≠x:=fun e=>hy (by rw[e];exact hx);split
  ·exact zp6 E hxy hxy
  ·next h0=>
   have hd:R.headD 0∈R:=by cases R with|nil=>exact absurd rfl h0|cons a l=>simp
   have hdp:=r.sub _ (r.nbr hd).2;have hyd:y≠R.headD 0:=fun e=>hy (by rw[e];exact r.sub _ hd);rw[zp6 _ hxy hyd,zp6 _ (fun e=>hy (by rw[e];exact hdp)) hxy]
 ·exact ziw E R x y
end
def enX(c len name typ ex h:Nat):HB:={tag:=1,cls:=(c:Int),used:=false,label:=0,name:=name,next:=0,prev:=0,refs:=0,expiry:=ex,typ:=typ,size:=(len:Int),hash:=h}
theorem zw9{c len name typ ex h:Nat}(hc:c≤9)(hl:len≤480)(hu:name<4294967296)(ht:typ<65536)(he:ex<18446744073709551616)(hh:h<4294967296):(enX c len name typ ex h).Ok:=by
 refine⟨⟨?_,?_⟩,⟨?_,?_⟩,⟨?_,?_⟩,hu,?_,?_,?_,he,ht,⟨?_,?_⟩,hh⟩<;>simp only[enX] <;>omega
theorem zom{c len name typ ex h:Nat}(hc:1≤c∧c≤9)(hl:len≤480):(enX c len name typ ex h).right=true:=by
 have e:zck 1 (c:Int) 0 false=true:=by
  unfold zck;rw[if_neg (by decide),if_pos rfl,show decide (1≤(c:Int)∧(c:Int)≤9)=true from decide_eq_true (by omega)];rfl
 unfold HB.right;rw[show zck (enX c len name typ ex h).tag (enX c len name typ ex h).cls (enX c len name typ ex h).label (enX c len name typ ex h).used=true from e];simp[HB.lackTo,HB.lackAt,enX,HB.num,HB.nums];refine⟨by omega,⟨⟨⟨⟨⟨⟨.inr ?_,.inr ?_⟩,.inl ?_⟩,.inr ?_⟩,.inr ?_⟩,.inr ?_⟩,.inr ?_⟩,.inr ?_⟩<;>decide
def EW.add(g:EW)(x:Nat)(X:HB)(bs:List Nat):EW:=⟨g.t,g.R++ [x],insB g.R g.b x,up g.d x X,up g.p x bs⟩
section
variable {w0 W W' : World} {q : MH} {S S' : SS} {x y n b c : Nat} {u v : TM} {L Lr : Nat → Prop} {E E' : Nat → HB} {B B' : Nat → List Nat} {R l : List Nat} {X : HB}
theorem zo8(g:WB w0 q S L u E B W)(hlv:Lv 7 S x n)(hno:¬L x)(hX:BlkE u x X)(ht:X.tag=1){a:Option Addr}{c:Nat}{l:List Nat}(hb:Byt W a l)(hg:∀g o,a=some ⟨g,o,none⟩→g≠q.pw)(hl:32+l.length≤n):Calls prog 90 #[.pointer (some ⟨q.m,0,none⟩),.int .i64 ((x:Int)+32),.slice a l.length c,.int .i64 5] W fun e w'=>e= .returned (.bool true)∧Fr q.blocks W w'∧∃v,WB w0 q S L v E B w'∧BlkE v x X∧v.sl=u.sl∧v.rt=u.rt∧ByOn v (x+32) l.length (fun j=>l[j]?.getD 0):=by
 have ok:=g.h.m.ok;obtain⟨b1,b2,b3,b4,b5,b6,b7⟩:=g.at_ hlv
 have hf:∀j,j<l.length→(fun j=>l[j]?.getD 0) j<256:=fun j hj=>by
  show l[j]?.getD 0<256;rw[List.getElem?_eq_getElem hj];exact hb.byte _ (List.getElem_mem hj)
 have ho:=(zka ok (x+32) l.length (fun j=>l[j]?.getD 0) hf (by omega)).wide (y:=x) (m:=n) (by omega) (by omega);have hon:=zpa ok (x+32) l.length (fun j=>l[j]?.getD 0) hf (by omega);refine(zt6 g.h.m (x+32) ((l.length+3)/4*4) 5 c a l hb hg (by omega) (by omega) (fun g g1 g2=>b7 g (by omega) (by omega)) (by omega) (by omega) (by omega) (by decide) _ _ (by push_cast;rfl) rfl).mono fun e w' ⟨he,k1,k2⟩=>⟨he,k2,_,g.one (g.h.step k1 k2) k2 hlv hno rfl rfl rfl rfl rfl rfl rfl ho,?_,rfl,rfl,hon⟩;have hsz:sz X.tag.toNat=32:=by rw[ht];rfl
 refine hX.keep rfl rfl (fun g g1 g2=>b7 g g1 (by omega)) (by omega) (fun k hk=> ?_);rw[zbm ok (x+32) l.length _ hf (by omega),if_neg (by omega)]
theorem WB.rgI(g:WB w0 q S L u E B W)(hL:∀y,Lr y→L y∧(E y).tag=1)(sub:∀y∈R,Lr y)(nd:R.Nodup)(h1:u.rt 13=R.headD 0)(h2:u.rt 14=b)(h3:u.rt 15=R.length)(h4:R≠ []→b∈R)(h5:R= []→b=0)(cy:Cyc E R)(out:∀y,Lr y→y∉R→(E y).next=0∧(E y).prev=0):RgI u Lr E R b:=by
 refine⟨⟨g.h.m.ok,fun y hy=> ?_,fun y z hy hz hne=> ?_⟩,sub,nd,h1,h2,h3,h4,h5,cy,out⟩
 ·have hb:=g.ix.e y (hL y hy).1
  have ht:=(hL y hy).2;have hh:=hb.h;rw[show(E y).tag.toNat=1 from by rw[ht];rfl]at hh;exact⟨hh,hb.ok,hb.r,ht⟩
 ·obtain⟨c1,_,k1,k2,l1,_⟩:=(g.ct y (hL y hy).1).n
  obtain⟨c2,_,m1,m2,l2,_⟩:=(g.ct z (hL z hz).1).n;have:=g.apart l1 l2 hne;have:=zai c1 k1 k2;have:=zai c2 m1 m2;omega
theorem NI.addE(g:NI w0 q S L l u E B W)(g':WB w0 q S' (fun y=>y=x∨L y) v E' B' W')(hx:¬L x)(ht:(E' x).tag=1)(he:∀y,y≠x→(E' y).tag=(E y).tag∧(E' y).name=(E y).name∧(E' y).hash=(E y).hash)(hb:∀y,y≠x→B' y=B y)(hr:v.rt 17=u.rt 17)(hin:∀y,y≠0→(InT 224 v.sl y↔y=x∨InT 224 u.sl y)):NI w0 q S' (fun y=>y=x∨L y) l v E' B' W':=by
 have hxl:∀y∈l,y≠x:=fun y hy e=>hx (by rw[←e];exact((g.mem y).1 hy).1);have hx0:x≠0:=(g'.ne0 (.inl rfl)).1
 have hh:∀y,y=0∨y∈l→hsh E' y=hsh E y:=fun y hy=>by
  unfold hsh;rcases hy with e|e
  ·rw[if_pos e,if_pos e]
  ·rw[(he y (hxl y e)).2.2]
 refine⟨g',g.nd,fun y=> ?_,by rw[hr];exact g.cnt,fun y hy=>by rw[hin y hy,g.inx y hy],fun y hy=>by rw[(he y (hxl y hy)).2.1];exact g.up y hy,fun y hy=> ?_,fun y hy=>by rw[hb y (hxl y hy)];exact g.lb y hy,fun y hy z hz=>by rw[(he y (hxl y hy)).2.1,(he z (hxl z hz)).2.1,hb y (hxl y hy),hb z (hxl z hz)];exact g.one y hy z hz⟩
 ·by_cases e:y=x
  ·subst e
   exact⟨fun k=>absurd rfl (hxl y k),fun k=>by have:=k.2;omega⟩
  ·rw[g.mem y,(he y e).1]
   exact⟨fun k=>⟨.inr k.1,k.2⟩,fun k=>⟨k.1.resolve_left e,k.2⟩⟩
 ·rw[(he y (hxl y hy)).2.2,(he y (hxl y hy)).2.1,hh _ (g.up y hy),hb y (hxl y hy)]
  exact g.hs y hy
end
def clsM(m:Nat):Nat:=if m≤32 then 1 else if m≤48 then 2 else if m≤64 then 3 else if m≤96 then 4 else if m≤128 then 5 else if m≤192 then 6 else if m≤256 then 7 else if m≤384 then 8 else 9
theorem zji(m:Nat)(h:m≤512):1≤clsM m∧clsM m≤9∧m≤csz (clsM m)∧∀i,i<clsM m→1≤m→csz i<m:=by
 have key:∀m,m<513→1≤clsM m∧clsM m≤9∧m≤csz (clsM m)∧∀i,i<9→i<clsM m→1≤m→csz i<m:=by decide+kernel
 obtain⟨h1,h2,h3,h4⟩:=key m (by omega);exact⟨h1,h2,h3,fun i hi h=>h4 i (by omega) hi h⟩
section
variable {w : World}
theorem cofM(hM:TabM w)(m:Nat)(h1:1≤m)(h5:m≤512):Calls prog 98 #[.int .i64 m] w fun e w'=>e= .returned (.tuple #[.int .i64 (clsM m),.int .i64 0])∧w'=w:=by
 have cc:=hM.cls;simp[clsT,zht]at cc
 have HX:=hid (fun i (hi:i<10)=>(show∀W,(Instr.index 241 (.agg #[.int .i64 0,.int .i64 32,.int .i64 48,.int .i64 64,.int .i64 96,.int .i64 128,.int .i64 192,.int .i64 256,.int .i64 384,.int .i64 512]) (.int .i64 (i:Nat))).run prog W= .ok (.int .i64 (csz i:Nat)) W from by
  have:i=0∨i=1∨i=2∨i=3∨i=4∨i=5∨i=6∨i=7∨i=8∨i=9:=by omega
  rcases this with rfl|rfl|rfl|rfl|rfl|rfl|rfl|rfl|rfl|rfl<;>(intro W;kernel_rfl)))
 obtain⟨k1,k2,k3,k4⟩:=zji m h5;have K4:=hid k4;have b0:decide ((m:Int)<1)=false:=decide_eq_false (by omega);have b0':decide (m<1)=false:=decide_eq_false (by omega);generalize clsM m=c at*;obtain⟨z,hz⟩:∃z:Nat→Nat,∀i,csz i=z i:=⟨csz,fun _=>rfl⟩;simp only[hz]at HX K4 k3;clear hM k4 hz;go_enter func98,ntmps98;go_wp2_with fail;go_loopg [9] 11 (fun gk v9 W=>∃i:Nat,v9= .int .i64 i∧(i+gk=11∧i≤c)∧w=W);case atStart=>exact⟨0,rfl,by omega,rfl⟩
 case round=>
  obtain⟨i,rfl,hi,rfl⟩:=hrel;have hx:=HX.out i (by omega);have b6:decide ((i:Int)<10)=true:=decide_eq_true (by omega);have b6':decide (i<10)=true:=decide_eq_true (by omega);have wi:=i64_in ((i:Int)+1) (by omega);by_cases hlt:i<c
  ·have hz:=K4.out i hlt h1
   generalize z i=y at*;have b7':decide (m≤y)=false:=decide_eq_false (by omega);go_wp2_with fail;go_roundg (gk-1);case measure=>omega
   case rel=>exact⟨i+1,by go_num,by omega,rfl⟩
  ·obtain rfl:i=c:=by omega
   generalize z i=y at*;have b7':decide (m≤y)=true:=decide_eq_true (by omega);go_wp2_with fail;go_ret2;exact⟨rfl,rfl⟩
theorem zop(hM:TabM w)(n:Nat)(hn:n≤480):Calls prog 36 #[.int .i64 n] w fun e w'=>e= .returned (.tuple #[.int .i64 (clsM (32+n)),.int .i64 0])∧w'=w:=by
 have HC:=cofM hM (32+n) (by omega) (by omega);have b0:decide ((n:Int)<0)=false:=decide_eq_false (by omega);have b0':decide (n<0)=false:=decide_eq_false (by omega);have b1:decide ((480:Int)<n)=false:=decide_eq_false (by omega);have b1':decide (480<n)=false:=decide_eq_false (by omega);have wn:IntKind.i64.wrap (32+(n:Int))=((32+n:Nat):Int):=by rw[i64_in _ (by omega)];push_cast;rfl
 generalize clsM (32+n)=c at*;clear hM;rw[show((32+n:Nat):Int)=32+(n:Int)from by push_cast;rfl]at HC;go_enter func36,ntmps36;go_wp2_with fail;with_reducible refine HC.mono ?_
 rintro e w2 ⟨rfl,rfl⟩;go_wp2_with fail;go_ret2;exact⟨rfl,rfl⟩
end
def HN:List (List Nat)→Nat
 | [] =>2166136261
 |s::t=>mixL (HN t) s
section
variable {w0 W : World} {q : MH} {S : SS} {x y n b c name typ ex k : Nat} {u v : TM} {L : Nat → Prop} {E E' : Nat → HB} {B B' : Nat → List Nat} {R l : List Nat} {X : HB} {bs : List Nat} {g : EW} {par refs : Nat → Nat} {nm : Nat → List (List Nat)}
theorem zod{B0:Nat→List Nat}(gi:NI w0 q S L l u E B0 W)(r:∀y∈l,(E y).name=par y∧(E y).refs=refs y∧B0 y=B y)(kn:NmOk l par B nm):∀(n:Nat) (y:Nat),(nm y).length≤n→(y=0∨y∈l)→hsh E y=HN (nm y)
 |n,y,hn,.inl hy=>by subst hy;rw[kn.z];rfl
 |0,y,hn,.inr hy=>by rw[kn.s y hy]at hn;cases hn
 |n+1,y,hn,.inr hy=>by
  have h0:=(gi.lt hy).1;have hs:=gi.hs y hy;have hu:=gi.up y hy;rw[(r y hy).1]at hs hu;rw[kn.s y hy]at hn⊢;rw[List.length_cons]at hn;have ih:=zod gi r kn n (par y) (by omega) hu;show(if y=0 then 2166136261 else(E y).hash)=mixL (HN (nm (par y))) (B y);rw[if_neg h0,hs,ih,(r y hy).2.2]
def MkE(w0:World)(q:MH)(S:SS)(L:Nat→Prop)(l:List Nat)(u:TM)(E:Nat→HB)(B:Nat→List Nat)(x:Nat)(X:HB)(bs R:List Nat)(b:Nat)(w':World):Prop:=
 ∃v' E' B',NI w0 q S (fun y=>y=x∨L y) l v' E' B' w'∧RgI v' (fun y=>y=x∨y∈R) E' (R++ [x]) (insB R b x)∧(∀y,cln (E' y)=cln (up E x X y))∧(∀y,B' y=up B x bs y)∧ ∀f,f<13∨15<f→v'.rt f=u.rt f
theorem zqy{Ls:List (List Nat)}(gi:NI w0 q S L l u E B W)(hG:GoodR Ls)(hf:Fx u S L x (clsM (32+(zad Ls).length)))(r:RgI u (fun y=>y∈R) E R b)(hRL:∀y∈R,L y)(a:Option Addr)(cc:Nat)(hb:Byt W a (zad Ls))(hcc:(zad Ls).length≤cc)(hq:∀g o,a=some ⟨g,o,none⟩→g∉q.blocks)
  (hx:name=0∨name∈l) (ht:typ<65536) (hex:ex<18446744073709551616) (hFi:∀V,NI w0 q S L l u E B V→Calls prog 27 #[.pointer (some ⟨q.m,0,none⟩),.int .i64 name,.int .u16 typ] V fun e w'=>e= .returned (.tuple #[.int .i64 0,.bool false])∧IsH w' q u∧Fr q.blocks V w'):
  Calls prog 34 #[.pointer (some ⟨q.m,0,none⟩),.int .i64 x,.int .i64 name,.int .u16 typ,.int .u64 ex,.slice a (zad Ls).length cc] W fun e w'=>e= .returned (.int .i64 0)∧Fr q.blocks W w'∧MkE w0 q S L l u E B x (enX (clsM (32+(zad Ls).length)) (zad Ls).length name typ ex (keyH (hsh E name) typ)) (zad Ls) R b w':=by
 have hpl:(zad Ls).length≤480:=by rw[zar,←hG.size];exact hG.s
 obtain⟨c1,c9,hfit,_⟩:=zji (32+(zad Ls).length) (by omega)
 have hn2:name<1048576:=by
  rcases hx with e|e
  ·omega
  ·exact(gi.lt e).2
 have hk:=zn8 (h:=hsh E name) typ;have hxb:=gi.wb.at_ hf.lv;have hbase:=gi.wb.base;have hcz:=gi.wb.cz;have hls:zae 7 224≤1048576:=by decide
 have hx0:x≠0:=by omega
 have hxR:x∉R:=fun hm=>hf.no (hRL x hm);obtain⟨X,hX⟩:∃X,enX (clsM (32+(zad Ls).length)) (zad Ls).length name typ ex (keyH (hsh E name) typ)=X:=⟨_,rfl⟩;have hXo:X.Ok:=hX▸zw9 c9 hpl (by omega) ht hex hk;have hXr:X.right=true:=hX▸zom ⟨c1,c9⟩ hpl;have hXt:X.tag=1:=by rw[←hX];rfl
 have HQ:=hid hq;have HS:=hid (fun V V' (hV:NI w0 q S L l u E B V∧Byt V a (zad Ls)∧Fr q.blocks W V) (k:IsH V' q u) (f:Fr q.blocks V V')=>(show NI w0 q S L l u E B V'∧Byt V' a (zad Ls)∧Fr q.blocks W V' from⟨hV.1.same k f,hV.2.1.fr f hq,hV.2.2.trans f⟩));have H0:=hid (show NI w0 q S L l u E B W∧Byt W a (zad Ls)∧Fr q.blocks W W from⟨gi,hb,Fr.refl _ _⟩);have HCf:=hid (fun V (hV:NI w0 q S L l u E B V)=>(show Calls prog 81 #[.pointer (some ⟨q.m,0,none⟩)] V fun e w'=>e= .returned (.agg #[.int .i64 u.a,.int .i64 u.s])∧Fr [] V w' from zca hV.wb.h.m));have hE:=za7 u.a u.s gi.wb.h.m.ok.cfg.a1;have HUn:=hid (fun V (hV:NI w0 q S L l u E B V∧Byt V a (zad Ls)∧Fr q.blocks W V)=>(show Calls prog 43 #[.slice a (zad Ls).length cc] V fun e w'=>∃v,e= .returned (.tuple #[v,.int .i64 0])∧Fr [] V w' from(zfa V a cc Ls hG hV.2.1 hcc).mono fun e w' ⟨v,h1,_,h3⟩=>⟨v,h1,h3⟩));have HCl:=hid (fun V (hV:NI w0 q S L l u E B V)=>zop hV.wb.h.m.tab (zad Ls).length hpl);have HNm:=hid (fun V (hV:NI w0 q S L l u E B V)=>zqd hV hx);have HBl:=hid (fun V (hV:NI w0 q S L l u E B V)=>zts hV.wb hf);have HFi:=hid hFi;have HHs:=hid (fun V (hV:NI w0 q S L l u E B V)=>zw8 hV hx typ ht)
 have HPu:=hid (fun V (hV:NI w0 q S L l u E B V)=>(show Calls prog 89 #[.pointer (some ⟨q.m,0,none⟩),.int .i64 x,.agg #[.int .i64 1,.int .i64 (clsM (32+(zad Ls).length)),.bool false,.int .i64 0,.int .u32 name,.int .u32 0,.int .u32 0,.int .u32 0,.int .u64 ex,.int .u16 typ,.int .i64 (zad Ls).length,.int .u32 (keyH (hsh E name) typ)]] V fun e w'=>e= .returned (.int .i64 0)∧Fr q.blocks V w'∧∃v,(WB w0 q S L v E B w'∧BlkE v x X)∧v.sl=u.sl∧v.rt=u.rt from by
  have:=zs2 hV.wb hf.lv hf.no hXo hXr (.inl hXt);rw[←hX]at this;refine this.mono fun e w' ⟨h1,h2,v,h3,h4,h5,h6⟩=>⟨h1,h2,v,⟨h3,hX▸h4⟩,h5,h6⟩))
 have HWr:=hid (fun V v (hV:(WB w0 q S L v E B V∧BlkE v x X)∧v.sl=u.sl∧v.rt=u.rt) (hB:Byt V a (zad Ls))=>(show Calls prog 90 #[.pointer (some ⟨q.m,0,none⟩),.int .i64 ((x:Int)+32),.slice a (zad Ls).length cc,.int .i64 5] V fun e w'=>e= .returned (.bool true)∧Fr q.blocks V w'∧∃v',WB w0 q S (fun y=>y=x∨L y) v' (up E x X) (up B x (zad Ls)) w'∧v'.sl=u.sl∧v'.rt=u.rt from by
  have:=zo8 (c:=cc) hV.1.1 hf.lv hf.no hV.1.2 hXt hB (fun g o e k=>hq g o e (by rw[k];simp[MH.blocks])) hfit;refine this.mono fun e w' ⟨h1,h2,v',h3,h4,h5,h6,h7⟩=>⟨h1,h2,v',h3.add hf.no h4 ?_,h5.trans hV.2.1,h6.trans hV.2.2⟩;have hsz:sz X.tag.toNat=32:=by rw[hXt];rfl
  refine⟨⟨clsM (32+(zad Ls).length),?_,c1,c9,hf.lv,?_⟩,hb.byte,?_,fun h=> ?_,fun _=> ?_⟩
  ·rw[←hX];rfl
  ·rw[hsz];exact hfit
  ·rw[hsz];exact h7
  ·rw[hXt]at h;cases h
  ·rw[←hX];rfl))
 have hNx:¬InT 224 u.sl x:=fun h=>hf.no ((gi.inx x hx0).1 h)
 have HIn:=hid (fun V v (hV:WB w0 q S (fun y=>y=x∨L y) v (up E x X) (up B x (zad Ls)) V∧v.sl=u.sl∧v.rt=u.rt)=>(show Calls prog 91 #[.pointer (some ⟨q.m,0,none⟩),.int .i64 x] V fun e w'=>e= .returned (.int .i64 0)∧Fr q.blocks V w'∧∃(T:Nat→Nat) (v:TM),(NI w0 q S (fun y=>y=x∨L y) l (v.wsl T) (up E x X) (up B x (zad Ls)) w'∧v.rt=u.rt)from by
  refine(zs7 hV.1 (.inl rfl) (by rw[hV.2.1];exact hNx)).mono fun e w' ⟨h1,h2,T,h3,h4⟩=>⟨h1,h2,T,v,?_,hV.2.2⟩;exact gi.addE h3 hf.no (by rw[zaa];exact hXt) (fun y hy=>by rw[zac _ _ hy];exact⟨rfl,rfl,rfl⟩) (fun y hy=>zac _ _ hy) (show v.rt 17=u.rt 17 by rw[hV.2.2]) (fun y hy=>by rw[←hV.2.1];exact h4 y hy)))
 have HRi:=hid (fun V (T:Nat→Nat) (v:TM) (hV:NI w0 q S (fun y=>y=x∨L y) l (v.wsl T) (up E x X) (up B x (zad Ls)) V∧v.rt=u.rt)=>(show Calls prog 92 #[.pointer (some ⟨q.m,0,none⟩),.int .i64 x] V fun e w'=>e= .returned (.int .i64 0)∧Fr q.blocks V w'∧MkE w0 q S L l u E B x X (zad Ls) R b w' from by
  have hrt:(v.wsl T).rt=u.rt:=hV.2;have hne:∀y∈R,y≠x:=fun y hy e=>hxR (e▸hy)
  have hr:RgI (v.wsl T) (fun y=>y=x∨y∈R) (up E x X) R b:=by
   refine hV.1.wb.rgI (fun y hy=> ?_) (fun y hy=> .inr hy) r.nd (by rw[hrt];exact r.hand) (by rw[hrt];exact r.broom) (by rw[hrt];exact r.cnt) r.bin r.bnil (r.cyc.same (fun y hy=>by rw[zac _ _ (hne y hy)];exact⟨rfl,rfl⟩)) (fun y hy hn=> ?_)
   ·rcases hy with e|hy
    ·subst e
     rw[zaa];exact⟨.inl rfl,hXt⟩
    ·rw[zac _ _ (hne y hy)]
     exact⟨.inr (hRL y hy),(r.ents.e y hy).tag⟩
   ·rw[hy.resolve_right hn,zaa,←hX]
    exact⟨rfl,rfl⟩
  refine(zv9 hV.1.wb hr (fun y hy=>hy.imp id (hRL y)) (.inl rfl) hxR).mono fun e w' ⟨h1,h2,h3⟩=>⟨h1,h2,_,_,_,hV.1.re h3 (fun y=> ?_) (hr.nbrIns (.inl rfl)).sl ((hr.nbrIns (.inl rfl)).rt 17 (.inr (by decide))),hr.insAny (.inl rfl) hxR,fun y=>ziw _ _ _ _,fun y=>rfl,fun f hf=>((hr.nbrIns (.inl rfl)).rt f hf).trans (by rw[hrt])⟩;have:=zr0 (ziw (up E x X) R x y);exact⟨this.1,this.2.2.2.2.1,this.2.2.2.2.2.2.2.2.2⟩))
 have wu:IntKind.u32.wrap (name:Int)=(name:Int):=IntWalk.u32_in _ (by omega);have wx:=i64_in ((x:Int)+32) (by omega);rw[hX];obtain⟨Q,hQ⟩:∃Q:World→Prop,∀V,MkE w0 q S L l u E B x X (zad Ls) R b V=Q V:=⟨_,fun _=>rfl⟩;simp only[hQ]at HRi⊢;generalize keyH (hsh E name) typ=kh at*;generalize clsM (32+(zad Ls).length)=cl at*;generalize hz:(zad Ls).length=z at*;generalize u.a=ua at*;generalize u.s=us at*;clear hz hQ hX hXo hXr hXt hk hxb hbase hcz hls hx0 hxR hfit hNx r hRL hb hcc hq hFi hG hf gi c1 c9 hpl hn2;go_enter func34,ntmps34;go_wp2_with fail;with_reducible refine(HCf.out _ H0.out.1).mono ?_
 rintro e w1 ⟨rfl,f1⟩;have K1:=hid (show NI w0 q S L l u E B w1∧Byt w1 a (zad Ls)∧Fr q.blocks W w1 from⟨H0.out.1.fr0 f1,H0.out.2.1.fr f1 (by simp),f1.nil⟩);clear f1 HCf H0;go_wp2_with fail;with_reducible refine(HUn.out _ K1.out).mono ?_
 rintro e w2 ⟨v2,rfl,f2⟩;have K2:=hid (show NI w0 q S L l u E B w2∧Byt w2 a (zad Ls)∧Fr q.blocks W w2 from⟨K1.out.1.fr0 f2,K1.out.2.1.fr f2 (by simp),K1.out.2.2.trans f2.nil⟩);clear f2 HUn K1;go_wp2_with fail;with_reducible refine(HCl.out _ K2.out.1).mono ?_
 rintro e w3 ⟨rfl,he3⟩;rw[he3];clear he3 HCl;go_wp2_with fail;with_reducible refine(HNm.out _ K2.out.1).mono ?_
 rintro e w4 ⟨rfl,k4,f4⟩;have K4:=hid (HS.out _ _ K2.out k4 f4);clear k4 f4 HNm K2;go_wp2_with fail;with_reducible refine(HBl.out _ K4.out.1).mono ?_
 rintro e w5 ⟨rfl,k5,f5⟩;have K5:=hid (HS.out _ _ K4.out k5 f5);clear k5 f5 HBl K4;go_wp2_with fail;with_reducible refine(HFi.out _ K5.out.1).mono ?_
 rintro e w6 ⟨rfl,k6,f6⟩;have K6:=hid (HS.out _ _ K5.out k6 f6);clear k6 f6 HFi K5;go_wp2_with fail;with_reducible refine(HHs.out _ K6.out.1).mono ?_
 rintro e w7 ⟨rfl,k7,f7⟩;have K7:=hid (HS.out _ _ K6.out k7 f7);clear k7 f7 HHs K6;go_wp2_with fail;with_reducible refine(HPu.out _ K7.out.1).mono ?_
 rintro e w8 ⟨rfl,f8,v8,k8⟩;have K8:=hid k8;have F8:=hid (And.intro (K7.out.2.1.fr f8 HQ.out) (K7.out.2.2.trans f8));clear k8 f8 HPu K7;go_wp2_with fail;with_reducible refine(HWr.out _ v8 K8.out F8.out.1).mono ?_
 rintro e w9 ⟨rfl,f9,v9,k9⟩;have K9:=hid k9;have F9:=hid (F8.out.2.trans f9);clear k9 f9 HWr K8 F8;go_wp2_with fail;with_reducible refine(HIn.out _ v9 K9.out).mono ?_
 rintro e w10 ⟨rfl,f10,T,v10,k10⟩;have K10:=hid k10;have F10:=hid (F9.out.trans f10);clear k10 f10 HIn K9 F9;go_wp2_with fail;with_reducible refine(HRi.out _ T v10 K10.out).mono ?_
 rintro e w11 ⟨rfl,f11,k11⟩;have K11:=hid k11;have F11:=hid (F10.out.trans f11);clear k11 f11 HRi K10 F10;go_wp2_with fail;go_ret;exact⟨rfl,F11.out,K11.out⟩
end
theorem zja(w:World):Calls prog 43 #[.slice none 0 0] w fun e w'=>e= .returned (.tuple #[.slice none 0 0,.int .i64 3])∧w'=w:=by
 have hE:Calls prog 118 #[.slice none 0 0] w fun e w'=>e= .returned (.tuple #[.slice none 0 0,.int .i64 3])∧w'=w:=by
  go_enter func118,ntmps118;go_wp2_with fail;go_ret2;exact⟨rfl,rfl⟩
 go_enter func43,ntmps43;go_wp2_with fail;with_reducible refine hE.mono ?_
 rintro e w2 ⟨rfl,rfl⟩;go_wp2_with fail;go_ret2;exact⟨rfl,rfl⟩
section
variable {w0 W : World} {q : MH} {S : SS} {x y b name typ ex k fr : Nat} {u v : TM} {L : Nat → Prop} {E E' : Nat → HB} {B B' : Nat → List Nat} {R l : List Nat} {g : EW} {par refs own : Nat → Nat} {nm : Nat → List (List Nat)}
theorem zov(hT:IsT W q u)(p name:Nat):Calls prog 34 #[.pointer (some ⟨q.m,0,none⟩),.int .i64 p,.int .i64 name,.int .u16 typ,.int .u64 ex,.slice none 0 0] W fun e w'=>e= .returned (.int .i64 3)∧Fr [] W w':=by
 have hc:=zca hT;have hE:=za7 u.a u.s hT.ok.cfg.a1;unfold cfgV at hc;have HU:=hid zja;generalize u.a=a at*;generalize u.s=s at*;clear hT;go_enter func34,ntmps34;go_wp2_with fail;with_reducible refine hc.mono ?_
 rintro e w1 ⟨rfl,f1⟩;have F1:=hid f1;clear hc f1;go_wp2_with fail;with_reducible refine(HU.out _).mono ?_
 rintro e w2 ⟨rfl,rfl⟩;go_wp2_with fail;go_ret;exact⟨rfl,F1.out⟩
theorem zrr{Ls:List (List Nat)}(gi:NI w0 q S L l u E B W)(hG:GoodR Ls)(hf:Fx u S L x (clsM (32+(zad Ls).length)))(a:Option Addr)(cc:Nat)(hb:Byt W a (zad Ls))(hcc:(zad Ls).length≤cc)
  (hx:name=0∨name∈l) (z:Nat) (hFi:∀V,NI w0 q S L l u E B V→Calls prog 27 #[.pointer (some ⟨q.m,0,none⟩),.int .i64 name,.int .u16 typ] V fun e w'=>e= .returned (.tuple #[.int .i64 z,.bool true])∧IsH w' q u∧Fr q.blocks V w'):
  Calls prog 34 #[.pointer (some ⟨q.m,0,none⟩),.int .i64 x,.int .i64 name,.int .u16 typ,.int .u64 ex,.slice a (zad Ls).length cc] W fun e w'=>e= .returned (.int .i64 8)∧Fr q.blocks W w'∧NI w0 q S L l u E B w':=by
 have hpl:(zad Ls).length≤480:=by rw[zar,←hG.size];exact hG.s
 have H0:=hid gi;have HCf:=hid (fun V (hV:NI w0 q S L l u E B V)=>(show Calls prog 81 #[.pointer (some ⟨q.m,0,none⟩)] V fun e w'=>e= .returned (.agg #[.int .i64 u.a,.int .i64 u.s])∧Fr [] V w' from zca hV.wb.h.m));have hE:=za7 u.a u.s gi.wb.h.m.ok.cfg.a1;have HUn:=hid (fun V (hV:Fr [] W V)=>(show Calls prog 43 #[.slice a (zad Ls).length cc] V fun e w'=>∃v,e= .returned (.tuple #[v,.int .i64 0])∧Fr [] V w' from(zfa V a cc Ls hG (hb.fr hV (by simp)) hcc).mono fun e w' ⟨v,h1,_,h3⟩=>⟨v,h1,h3⟩));have HCl:=hid (fun V (hV:NI w0 q S L l u E B V)=>zop hV.wb.h.m.tab (zad Ls).length hpl);have HNm:=hid (fun V (hV:NI w0 q S L l u E B V)=>zqd hV hx);have HBl:=hid (fun V (hV:NI w0 q S L l u E B V)=>zts hV.wb hf);have HFi:=hid hFi;generalize clsM (32+(zad Ls).length)=cl at*;generalize hz:(zad Ls).length=zl at*;generalize u.a=ua at*;generalize u.s=us at*;clear hz hb hcc hFi hG hf gi hpl;go_enter func34,ntmps34;go_wp2_with fail;with_reducible refine(HCf.out _ H0.out).mono ?_
 rintro e w1 ⟨rfl,f1⟩;have K1:=hid (H0.out.fr0 f1);have F1:=hid f1;clear f1 HCf H0;go_wp2_with fail;with_reducible refine(HUn.out _ F1.out).mono ?_
 rintro e w2 ⟨v2,rfl,f2⟩;have K2:=hid (And.intro (K1.out.fr0 f2) ((F1.out.trans f2).nil (S:=q.blocks)));clear f2 HUn K1 F1;go_wp2_with fail;with_reducible refine(HCl.out _ K2.out.1).mono ?_
 rintro e w3 ⟨rfl,he3⟩;rw[he3];clear he3 HCl;go_wp2_with fail;with_reducible refine(HNm.out _ K2.out.1).mono ?_
 rintro e w4 ⟨rfl,k4,f4⟩;have K4:=hid (And.intro (K2.out.1.same k4 f4) (K2.out.2.trans f4));clear k4 f4 HNm K2;go_wp2_with fail;with_reducible refine(HBl.out _ K4.out.1).mono ?_
 rintro e w5 ⟨rfl,k5,f5⟩;have K5:=hid (And.intro (K4.out.1.same k5 f5) (K4.out.2.trans f5));clear k5 f5 HBl K4;go_wp2_with fail;with_reducible refine(HFi.out _ K5.out.1).mono ?_
 rintro e w6 ⟨rfl,k6,f6⟩;have K6:=hid (And.intro (K5.out.1.same k6 f6) (K5.out.2.trans f6));clear k6 f6 HFi K5;go_wp2_with fail;go_ret;exact⟨rfl,K6.out.2,K6.out.1⟩
structure EHs(g:EW)(l:List Nat)(nm:Nat→List (List Nat)):Prop where
 ok: ∀y∈g.R,(g.d y).name=0∨(g.d y).name∈l
 hs: ∀y∈g.R,(g.d y).hash=keyH (HN (nm (g.d y).name)) (g.d y).typ
 one: ∀y∈g.R,∀z∈g.R,(g.d y).name=(g.d z).name→(g.d y).typ=(g.d z).typ→y=z
theorem zng(gi:NI w0 q S L l u E B' W)(hA:∀z,L z→z∈l∨z∈g.R)(hR:∀z∈g.R,L z∧z∉l)(hd:EnD g u E B')(r:∀y∈l,(E y).name=par y∧(E y).refs=refs y∧B' y=B y)(kn:NmOk l par B nm)(h:EHs g l nm)(hx:name=0∨name∈l)(ht:typ<65536):Calls prog 27 #[.pointer (some ⟨q.m,0,none⟩),.int .i64 name,.int .u16 typ] W fun e w'=>e= .returned (ansN (g.R.find? (zbg g.d name typ)))∧IsH w' q u∧Fr q.blocks W w':=by
 have hc:∀y∈g.R,(E y).name=(g.d y).name∧(E y).typ=(g.d y).typ∧(E y).hash=(g.d y).hash:=fun y hy=>by
  have:=(hd.dat y hy).1;rw[←this];exact⟨rfl,rfl,rfl⟩
 have:=z0r gi hA hR hx typ ht (fun y hy=>by
  obtain⟨h1,h2,h3⟩:=hc y hy;rw[h1,h2,h3,h.hs y hy,zod gi r kn _ _ (Nat.le_refl _) (h.ok y hy)]) (fun y hy z hz=>by
  rw[(hc y hy).1,(hc z hz).1,(hc y hy).2.1,(hc z hz).2.1];exact h.one y hy z hz)
 have e:g.R.find? (zbg E name typ)=g.R.find? (zbg g.d name typ):=by
  have:∀M:List Nat,(∀y∈M,y∈g.R)→M.find? (zbg E name typ)=M.find? (zbg g.d name typ):=fun M=>by
   induction M with
   |nil=>intro _;rfl
   |cons a M ih=>
    intro hM;have h1:=hc a (hM a (by simp));rw[List.find?_cons,List.find?_cons,ih (fun y hy=>hM y (List.mem_cons_of_mem _ hy))];unfold zbg;rw[h1.1,h1.2.1]
  exact this g.R (fun y hy=>hy)
 rw[e]at this;exact this
theorem zuu {Ls : List (List Nat)} (h : CPT w0 q g l par own nm x (clsM (32 + (zad Ls).length)) W) (hE : EHs g l nm) (hG : GoodR Ls) (a : Option Addr) (cc : Nat) (hb : Byt W a (zad Ls)) (hcc : (zad Ls).length ≤ cc) (hq : ∀ k o, a = some ⟨k, o, none⟩ → k ∉ q.blocks)
    (hx : name = 0 ∨ name ∈ l) (ht : typ < 65536) (hex : ex < 18446744073709551616) :
    Calls prog 34 #[.pointer (some ⟨q.m, 0, none⟩), .int .i64 x, .int .i64 name, .int .u16 typ, .int .u64 ex, .slice a (zad Ls).length cc] W fun e w' => Fr q.blocks W w' ∧
      ((e = .returned (.int .i64 0) ∧ g.R.find? (zbg g.d name typ) = none ∧ x ∉ g.R ∧ x ∉ l ∧ x ≠ 0 ∧ x < 1048576 ∧ ∃ fr, CP w0 q (g.add x (enX (clsM (32 + (zad Ls).length)) (zad Ls).length name typ ex (keyH (HN (nm name)) typ)) (zad Ls)) l par own nm fr w') ∨
       (e = .returned (.int .i64 8) ∧ (∃ z, g.R.find? (zbg g.d name typ) = some z) ∧ CPT w0 q g l par own nm x (clsM (32 + (zad Ls).length)) w')) := by
  have hne := h
  obtain ⟨refs, B, h1, kn, h3⟩ := h
  have hxl := h1.ne
  obtain ⟨S, L, u, E, B0, gi, hfx, ha, hd, r⟩ := h1
  have hA : ∀ z, L z → z ∈ l ∨ z ∈ g.R := fun z hz => by
    obtain ⟨m, hm⟩ := gi.wb.lv hz
    exact (ha.1 z m hm).resolve_left (fun e => hfx.no (by rw [← e]; exact hz))
  have hF := fun V (hV : NI w0 q S L l u E B0 V) => zng (W := V) hV hA ha.2 hd r kn hE hx ht
  cases hf : g.R.find? (zbg g.d name typ) with
  | some z =>
    rw [hf] at hF
    exact (zrr gi hG hfx a cc hb hcc hx z hF).mono fun e w' ⟨h1, h2, h4⟩ => ⟨h2, .inr ⟨h1, ⟨z, rfl⟩, refs, B, ⟨S, L, u, E, B0, h4, hfx, ha, hd, r⟩, kn, h3⟩⟩
  | none =>
    rw [hf] at hF
    have hRt : ∀ y ∈ g.R, L y ∧ (E y).tag = 1 := fun y hy => ⟨(ha.2 y hy).1, by
      rcases (gi.wb.ix.e y (ha.2 y hy).1).tg with k | k
      · exact k
      · exact absurd ((gi.mem y).2 ⟨(ha.2 y hy).1, k⟩) (ha.2 y hy).2⟩
    have hr : RgI u (fun y => y ∈ g.R) E g.R g.b := gi.wb.rgI hRt (fun y hy => hy) hd.nd hd.hand hd.broom hd.cnt hd.bin hd.bnil hd.cyc (fun y hy hn => absurd hy hn)
    have hxR : x ∉ g.R := fun hm => hfx.no (ha.2 x hm).1
    rw [← zod gi r kn _ _ (Nat.le_refl _) hx]
    refine (zqy gi hG hfx hr (fun y hy => (ha.2 y hy).1) a cc hb hcc hq hx ht hex hF).mono fun e w' ⟨h1, h2, v', E', B', k1, k2, k3, k4, k5⟩ => ⟨h2, .inl ⟨h1, rfl, hxR, hxl.1, hxl.2.1, hxl.2.2, _, refs, B, ⟨S, _, v', E', B', k1, ⟨fun y m hy => ?_, fun y hy => ?_⟩, ?_, fun y hy => ?_, rfl⟩, kn, h3⟩⟩
    · rcases ha.1 y m hy with k | k | k
      · exact .inr (List.mem_append_right _ (List.mem_singleton.2 k))
      · exact .inl k
      · exact .inr (List.mem_append_left _ k)
    · rcases List.mem_append.1 hy with k | k
      · exact ⟨.inr (ha.2 y k).1, (ha.2 y k).2⟩
      · rw [List.mem_singleton] at k
        exact ⟨.inl k, by rw [k]; exact hxl.1⟩
    · refine ⟨fun f h1 h2 => (k5 f (by omega)).trans (hd.rtb f h1 h2), k2.hand, k2.broom, k2.cnt, k2.nd, k2.bin, k2.bnil, k2.cyc, fun y hy => ?_⟩
      rw [k3 y, k4 y]
      rcases List.mem_append.1 hy with k | k
      · have e : y ≠ x := fun e => hxR (e ▸ k)
        show _ = up g.d x _ y ∧ _ = up g.p x _ y
        rw [zac _ _ e, zac _ _ e, zac _ _ e, zac _ _ e]
        exact hd.dat y k
      · rw [List.mem_singleton] at k
        subst k
        show _ = up g.d y _ y ∧ _ = up g.p y _ y
        rw [zaa, zaa, zaa, zaa]
        exact ⟨rfl, rfl⟩
    · have e : y ≠ x := fun e => hxl.1 (e ▸ hy)
      have := zr0 (k3 y)
      rw [zac _ _ e] at this
      rw [this.2.2.2.2.1, this.2.2.2.2.2.1, k4 y, zac _ _ e]
      exact r y hy
end
end Go.Proofs.YtolhkhdbgnciiaaGreatDoor
