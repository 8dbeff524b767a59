/- Several texts in one. -/
import Derived.Test.YtolhkhdbgnciiaaGreatDoorKG
import Derived.Test.YtolhkhdbgnciiaaGreatDoorKC
import Derived.Test.YtolhkhdbgnciiaaGreatDoorMA
namespace Go.Proofs.YtolhkhdbgnciiaaGreatDoor
open _root_.Go.Proofs.Tryz
open Go.Lib (hid)
open Go.IntWalk (i64_in)
set_option linter.unusedVariables false
set_option linter.unusedSimpArgs false
open Go.RowKit
set_option maxRecDepth 100000
set_option maxHeartbeats 4000000
structure CtI(u:TM)(S:SS)(x:Nat)(X:HB)(b:List Nat):Prop where
 n: ∃c:Nat,X.cls=c∧1≤c∧c≤9∧Lv 7 S x (csz c)∧sz X.tag.toNat+b.length≤csz c
 lt: ∀y∈b,y<256
 on:ByOn u (x+sz X.tag.toNat) b.length (fun j=>b[j]?.getD 0)
 l2:X.tag=2→X.label=(b.length:Int)∧1≤b.length∧b.length≤63
 l1:X.tag=1→X.size=(b.length:Int)
structure WB(w0:World)(q:MH)(S:SS)(L:Nat→Prop)(u:TM)(E:Nat→HB)(B:Nat→List Nat)(W:World):Prop where
 h:IsH W q u
 sl:SlI u S
 ix:IxI u L E
 rh:RZ 224 u.sl (hmE u E)
 ct: ∀x,L x→CtI u S x (E x) (B x)
 a:u.a=7
 s:u.s=224
 ft:u.ft=0
 f:Fr [] w0 W
 hq: ∀k∈q.blocks,w0.heap.size≤k
 fl:S.full 7
section
variable {w0 W W' : World} {q : MH} {S S' : SS} {x y n c : Nat} {u v : TM} {L L' : Nat → Prop} {E : Nat → HB} {B : Nat → List Nat} {X : HB} {b : List Nat}
theorem WB.fr0(g:WB w0 q S L u E B W)(hf:Fr [] W W'):WB w0 q S L u E B W':=⟨g.h.fr0 hf,g.sl,g.ix,g.rh,g.ct,g.a,g.s,g.ft,g.f.trans hf,g.hq,g.fl⟩
theorem WB.same(g:WB w0 q S L u E B W)(h:IsH W' q u)(hf:Fr q.blocks W W'):WB w0 q S L u E B W':=⟨h,g.sl,g.ix,g.rh,g.ct,g.a,g.s,g.ft,g.f.step hf (fun k hk=> .inr (g.hq k hk)),g.hq,g.fl⟩
theorem WB.lt(g:WB w0 q S L u E B W):∀k∈q.blocks,k<W.heap.size:=g.h.m.lt
theorem WB.lv(g:WB w0 q S L u E B W)(hx:L x):LvP S x:=by
 obtain⟨c,_,_,_,h,_⟩:=(g.ct x hx).n;exact⟨_,h⟩
theorem WB.lv7(g:WB w0 q S L u E B W)(h:Lv 7 S x n):Lv u.a S x n:=by rw[g.a];exact h
theorem WB.at_(g:WB w0 q S L u E B W)(h:Lv 7 S x n):zab u.a u.s≤x∧x %16=0∧n %16=0∧32≤n∧n≤512∧x+n≤zae u.a u.s∧KdOn u x n 5:=zi2 g.sl g.h.m.ok (g.lv7 h)
theorem WB.base(g:WB w0 q S L u E B W):240≤zab u.a u.s:=by
 have:=zak g.h.m.ok.cfg;omega
theorem CtI.same(h:CtI u S x X b){X':HB}(ht:X'.tag=X.tag)(hc:X'.cls=X.cls)(hl:X'.label=X.label)(hs:X'.size=X.size):CtI u S x X' b:=
 ⟨by rw[ht,hc];exact h.n,h.lt,by rw[ht];exact h.on,by rw[ht,hl];exact h.l2,by rw[ht,hs];exact h.l1⟩
theorem WB.keep(g:WB w0 q S L u E B W)(h:IsH W' q v)(hf:Fr q.blocks W W')(hs:SlI v S')(hfl:S'.full 7)(ea:v.a=u.a)(es:v.s=u.s)(esl:v.sl=u.sl)(eft:v.ft=u.ft)
  (hL:∀y,L' y→L y∧∀n,Lv 7 S y n→Lv 7 S' y n∧∀k,k<n→zah v (y+k)=zah u (y+k)) (hsl:∀i,i<224→u.sl i=0∨L' (u.sl i)):WB w0 q S' L' v E B W':=by
 have ehm:hmE v E=hmE u E:=by unfold hmE;rw[es]
 refine⟨h,hs,⟨fun y hy=> ?_,fun i hi=> ?_,by rw[es];exact g.ix.s0,by rw[es];exact g.ix.s1⟩,by rw[esl,ehm];exact g.rh,fun y hy=> ?_,ea.trans g.a,es.trans g.s,eft.trans g.ft,g.f.step hf (fun k hk=> .inr (g.hq k hk)),g.hq,hfl⟩
 ·obtain⟨h1,h2⟩:=hL y hy
  obtain⟨c,_,c1,c9,hlv,hfit⟩:=(g.ct y h1).n;obtain⟨k1,k2⟩:=h2 _ hlv;have hb:=g.ix.e y h1;obtain⟨b1,b2,b3,b4,b5,b6,b7⟩:=zi2 hs h.m.ok (show Lv v.a S' y (csz c)by rw[ea,g.a];exact k1);have hz:=zec (E y).tag.toNat hb.h.tg;exact hb.keep ea es (fun gg g1 g2=>b7 gg g1 (by omega)) (by omega) (fun k hk=>k2 k (by omega))
 ·rw[esl]
  exact hsl i (by rw[←g.s,←es];exact hi)
 ·obtain⟨h1,h2⟩:=hL y hy
  have hc:=g.ct y h1;obtain⟨c,e1,c1,c9,hlv,hfit⟩:=hc.n;obtain⟨k1,k2⟩:=h2 _ hlv;refine⟨⟨c,e1,c1,c9,k1,hfit⟩,hc.lt,fun j hj=> ?_,hc.l2,hc.l1⟩;rw[Nat.add_assoc,k2 _ (by omega),←Nat.add_assoc];exact hc.on j hj
theorem WB.apart(g:WB w0 q S L u E B W){m:Nat}(h1:Lv 7 S x n)(h2:Lv 7 S y m)(hne:x≠y):x+n≤y∨y+m≤x:=zqp g.sl g.h.m.ok (g.lv7 h1) (g.lv7 h2) hne
theorem WB.one(g:WB w0 q S L u E B W)(h:IsH W' q v)(hf:Fr q.blocks W W')(hx:Lv 7 S x n)(hn:¬L x)(ea:v.a=u.a)(es:v.s=u.s)(esl:v.sl=u.sl)(eft:v.ft=u.ft)(ert:v.rt=u.rt)(eh:v.hd=u.hd)(ek:v.kd=u.kd)(o:Out u v x n):WB w0 q S L v E B W':=by
 refine g.keep h hf (g.sl.inner g.h.m.ok (g.lv7 hx) ea es (fun _ _=>by rw[ert]) eh ek o) g.fl ea es esl eft (fun y hy=>⟨hy,fun m hm=>⟨hm,fun k hk=> ?_⟩⟩) (fun i hi=>g.ix.sl i (by rw[g.s];exact hi));have hne:x≠y:=fun e=>hn (e▸hy);have ap:=g.apart hx hm hne;have b1:=(g.at_ hm).1;exact o.by_ (y+k) (by omega) (by omega)
theorem WB.add(g:WB w0 q S L u E B W)(hn:¬L x)(hX:BlkE u x X)(hc:CtI u S x X b):WB w0 q S (fun y=>y=x∨L y) u (up E x X) (up B x b) W:=by
 have hE:∀y,L y→up E x X y=E y:=fun y hy=>zac _ _ (fun e=>hn (e▸hy));have hB:∀y,L y→up B x b y=B y:=fun y hy=>zac _ _ (fun e=>hn (e▸hy));refine⟨g.h,g.sl,⟨fun y hy=> ?_,fun i hi=>(g.ix.sl i hi).imp id .inr,g.ix.s0,g.ix.s1⟩,g.rh.congr (fun y=>by unfold hmE;rw[g.s];exact Nat.mod_lt _ (by decide)) (fun s hs h0=> ?_),fun y hy=> ?_,g.a,g.s,g.ft,g.f,g.hq,g.fl⟩
 ·rcases hy with rfl|hy
  ·rw[zaa];exact hX
  ·rw[hE y hy];exact g.ix.e y hy
 ·unfold hmE
  rw[hE _ ((g.ix.sl _ (by rw[g.s];exact hs)).resolve_left h0)]
 ·rcases hy with rfl|hy
  ·rw[zaa,zaa];exact hc
  ·rw[hE y hy,hB y hy];exact g.ct y hy
theorem WB.mod(g:WB w0 q S L u E B W)(h:IsH W' q v)(hf:Fr q.blocks W W')(hx:L x)(ea:v.a=u.a)(es:v.s=u.s)(esl:v.sl=u.sl)(eft:v.ft=u.ft)(ert:v.rt=u.rt)(eh:v.hd=u.hd)(ek:v.kd=u.kd)
  (o:Out u v x (sz (E x).tag.toNat)) (hX:BlkE v x X) (ht:X.tag=(E x).tag) (hc:X.cls=(E x).cls) (hl:X.label=(E x).label) (hsz:X.size=(E x).size) (hh:X.hash=(E x).hash):WB w0 q S L v (up E x X) B W':=by
 obtain⟨c,e1,c1,c9,hlv,hfit⟩:=(g.ct x hx).n;have hs:=g.sl.inner g.h.m.ok (g.lv7 hlv) ea es (fun _ _=>by rw[ert]) eh ek (o.wide (y:=x) (m:=csz c) (Nat.le_refl _) (by omega))
 have hh':∀y,(up E x X y).hash=(E y).hash:=fun y=>by
  by_cases e:y=x
  ·rw[e,zaa];exact hh
  ·rw[zac _ _ e]
 have ehm:hmE v (up E x X)=hmE u E:=by funext y;unfold hmE;rw[es,hh' y]
 have hby:∀y,L y→y≠x→∀n,Lv 7 S y n→∀k,k<n→zah v (y+k)=zah u (y+k):=fun y hy hne n hn k hk=>by
  have ap:=g.apart hlv hn (fun e=>hne e.symm);have b1:=(g.at_ hn).1;exact o.by_ (y+k) (by omega) (by omega)
 refine⟨h,hs,⟨fun y hy=> ?_,fun i hi=>by rw[esl];exact g.ix.sl i (by rw[←es];exact hi),by rw[es];exact g.ix.s0,by rw[es];exact g.ix.s1⟩,by rw[esl,ehm];exact g.rh,fun y hy=> ?_,ea.trans g.a,es.trans g.s,eft.trans g.ft,g.f.step hf (fun k hk=> .inr (g.hq k hk)),g.hq,g.fl⟩
 ·by_cases e:y=x
  ·rw[e,zaa];exact hX
  ·rw[zac _ _ e]
   obtain⟨c',_,_,_,hlv',hfit'⟩:=(g.ct y hy).n;have hb:=g.ix.e y hy;obtain⟨b1,b2,b3,b4,b5,b6,b7⟩:=zi2 hs h.m.ok (show Lv v.a S y (csz c')by rw[ea,g.a];exact hlv');have hz:=zec (E y).tag.toNat hb.h.tg;exact hb.keep ea es (fun gg g1 g2=>b7 gg g1 (by omega)) (by omega) (fun k hk=>hby y hy e _ hlv' k (by omega))
 ·by_cases e:y=x
  ·subst e
   rw[zaa];have hcy:=(g.ct y hx).same ht hc hl hsz;refine⟨hcy.n,hcy.lt,fun j hj=> ?_,hcy.l2,hcy.l1⟩;have b1:=(g.at_ hlv).1;rw[o.by_ _ (by omega) (.inr (by rw[ht];omega))];exact hcy.on j hj
  ·rw[zac _ _ e]
   have hcy:=g.ct y hy;obtain⟨c',e1',c1',c9',hlv',hfit'⟩:=hcy.n;refine⟨hcy.n,hcy.lt,fun j hj=> ?_,hcy.l2,hcy.l1⟩;rw[Nat.add_assoc,hby y hy e _ hlv' _ (by omega),←Nat.add_assoc];exact hcy.on j hj
theorem WB.slots(g:WB w0 q S L u E B W){T:Nat→Nat}(h:IsH W' q (u.wsl T))(hf:Fr q.blocks W W')(hc:∀i,i<224→T i=0∨L (T i))(hr:RZ 224 T (hmE u E)):WB w0 q S L (u.wsl T) E B W':=by
 refine⟨h,g.sl.wsl g.h.m.ok h.m.ok,g.ix.wsl g.h.m.ok h.m.ok (by rw[g.s];exact hc),hr,fun y hy=> ?_,g.a,g.s,g.ft,g.f.step hf (fun k hk=> .inr (g.hq k hk)),g.hq,g.fl⟩;have hcy:=g.ct y hy;obtain⟨c,e1,c1,c9,hlv,hfit⟩:=hcy.n;have b1:=(g.at_ hlv).1;exact⟨hcy.n,hcy.lt,fun j hj=>by rw[(zpc g.h.m.ok h.m.ok 0 0).by_ _ (by omega) (.inr (by omega))];exact hcy.on j hj,hcy.l2,hcy.l1⟩
theorem WB.root(g:WB w0 q S L u E B W)(f z:Nat)(hf12:12<f)(h:IsH W' q (u.setRt f z))(hf:Fr q.blocks W W')(hz:z<256^fldW f):WB w0 q S L (u.setRt f z) E B W':=by
 have hs:SlI (u.setRt f z) S:=by
  have ho:=zcu g.h.m.ok f z hz;refine⟨g.sl.ls.same' rfl (fun c hc=> ?_) (fun _ _ _=>rfl),fun j hj=>(g.sl.each j hj).other g.h.m.ok hj rfl rfl (fun _ _=>rfl) (ho (sla u j+1024) 0) (.inl (Nat.le_refl _))⟩;show(if 3+c=f then z else u.rt (3+c))=u.rt (3+c);rw[if_neg (by omega)]
 refine g.keep h hf hs g.fl rfl rfl rfl rfl (fun y hy=>⟨hy,fun n hn=>⟨hn,fun k hk=> ?_⟩⟩) (fun i hi=>g.ix.sl i (by rw[g.s];exact hi));have b1:=(g.at_ hn).1;exact(zcu g.h.m.ok f z hz 0 0).by_ _ (by omega) (.inr (by omega))
end
section
variable {w : World} {q : MH} {t : TM}
theorem zy2 (h : IsH w q t) (at_ : Int) (X : HB) (c : Nat) (hg : ∀ W, IsH W q t → Calls prog 117 #[.pointer (some ⟨q.m, 0, none⟩), .int .i64 at_] W fun e w' => e = .returned (.tuple #[X.val, .int .i64 c]) ∧ IsH w' q t ∧ Fr q.blocks W w') :
    Calls prog 148 #[.pointer (some ⟨q.m, 0, none⟩), .int .i64 at_] w fun e w' => e = .returned (.tuple #[X.val, .bool (c == 0 && X.tag == 2)]) ∧ IsH w' q t ∧ Fr q.blocks w w' := by
  have HG := hid (fun W (hW : IsH W q t) => (show Calls prog 117 #[.pointer (some ⟨q.m, 0, none⟩), .int .i64 at_] W fun e w' => e = .returned (.tuple #[.agg #[.int .i64 X.tag, .int .i64 X.cls, .bool X.used, .int .i64 X.label, .int .u32 X.name, .int .u32 X.next, .int .u32 X.prev, .int .u32 X.refs, .int .u64 X.expiry, .int .u16 X.typ, .int .i64 X.size, .int .u32 X.hash], .int .i64 c]) ∧ IsH w' q t ∧ Fr q.blocks W w' from hg W hW))
  have HI := hid h
  have hlt := h.m.lt
  have HP := hid (show ∀ b, (c == 0 && X.tag == 2) = b → ∀ w', IsH w' q t → Fr q.blocks w w' → (Ending.returned (.tuple #[.agg #[.int .i64 X.tag, .int .i64 X.cls, .bool X.used, .int .i64 X.label, .int .u32 X.name, .int .u32 X.next, .int .u32 X.prev, .int .u32 X.refs, .int .u64 X.expiry, .int .u16 X.typ, .int .i64 X.size, .int .u32 X.hash], .bool b]) = .returned (.tuple #[X.val, .bool (c == 0 && X.tag == 2)]) ∧ IsH w' q t ∧ Fr q.blocks w w') from fun b e w' h1 h2 => ⟨by rw [e]; rfl, h1, h2⟩)
  have h0 := HP.out _ rfl
  clear hg h0
  have hA := hid (Blk.new w 89 zd9)
  have HA0 := hid (HI.out.alloc (.cells zd9 89))
  have FA0 := hid ((Fr.refl q.blocks w).alloc (.cells zd9 89))
  have hzz : zd9 = #[.int .i64 0, .int .i64 0, .bool false, .int .i64 0, .int .u32 0, .int .u32 0, .int .u32 0, .int .u32 0, .int .u64 0, .int .u16 0, .int .i64 0, .int .u32 0] := rfl
  have HZ := hid hzz
  have HX := hid (show ∀ b, (c == 0 && X.tag == 2) = b → (((c : Int) == 0) = true ∧ (X.tag == 2) = b) ∨ (((c : Int) == 0) = false ∧ b = false) from fun b e => by
    by_cases hc : c = 0
    · subst hc; exact .inl ⟨by simp, by simpa using e⟩
    · have : (c == 0) = false := by rw [beq_eq_false_iff_ne]; exact hc
      rw [this, Bool.false_and] at e
      exact .inr ⟨by rw [beq_eq_false_iff_ne]; omega, e.symm⟩)
  have HTs := hid h.m.tab.size
  have HTt := hid h.tabs.size
  have HNA := hid (show w.heap.size ∉ q.blocks from fun hm => by have := hlt _ hm; omega)
  obtain ⟨R, hR⟩ : ∃ R : Ending → World → Prop, (fun e w' => e = .returned (.tuple #[X.val, .bool (c == 0 && X.tag == 2)]) ∧ IsH w' q t ∧ Fr q.blocks w w') = R := ⟨_, rfl⟩
  have HP2 := hid (show ∀ b, (c == 0 && X.tag == 2) = b → ∀ w', IsH w' q t → Fr q.blocks w w' → R (.returned (.tuple #[.agg #[.int .i64 X.tag, .int .i64 X.cls, .bool X.used, .int .i64 X.label, .int .u32 X.name, .int .u32 X.next, .int .u32 X.prev, .int .u32 X.refs, .int .u64 X.expiry, .int .u16 X.typ, .int .i64 X.size, .int .u32 X.hash], .bool b])) w' from fun b e w' h1 h2 => by rw [← hR]; exact HP.out b e w' h1 h2)
  rw [hR]
  obtain ⟨b, hb⟩ : ∃ b, (c == 0 && X.tag == 2) = b := ⟨_, rfl⟩
  have HP3 := hid (HP2.out b hb)
  have hx := HX.out b hb
  clear HP HP2 hR hzz HX hb hlt h
  obtain ⟨tag, cls, used, label, nm, next, prev, refs, expiry, ty, size, hash⟩ := X
  simp only at HG HP3 hx
  go_enter func148, ntmps148
  go_wp2_with fail
  have hg0 := HG.out _ HA0.out
  rw [HZ.out] at hg0
  with_reducible refine hg0.mono ?_
  rintro e w1 ⟨rfl, k1, f1⟩
  have K1 := hid k1
  have F1 := hid (FA0.out.trans (by rw [HZ.out]; exact f1))
  have A1 := hid (hA.out.fr (by rw [HZ.out]; exact f1) HNA.out)
  clear k1 f1 HG hg0
  go_wp2_with fail
  have VB := hid (Blk.new w1 89 #[.int .i64 tag, .int .i64 cls, .bool used, .int .i64 label, .int .u32 nm, .int .u32 next, .int .u32 prev, .int .u32 refs, .int .u64 expiry, .int .u16 ty, .int .i64 size, .int .u32 hash])
  have AV := hid (A1.out.alloc (.cells #[.int .i64 tag, .int .i64 cls, .bool used, .int .i64 label, .int .u32 nm, .int .u32 next, .int .u32 prev, .int .u32 refs, .int .u64 expiry, .int .u16 ty, .int .i64 size, .int .u32 hash] 89))
  have KV := hid (K1.out.alloc (.cells #[.int .i64 tag, .int .i64 cls, .bool used, .int .i64 label, .int .u32 nm, .int .u32 next, .int .u32 prev, .int .u32 refs, .int .u64 expiry, .int .u16 ty, .int .i64 size, .int .u32 hash] 89))
  have FV := hid (F1.out.alloc (.cells #[.int .i64 tag, .int .i64 cls, .bool used, .int .i64 label, .int .u32 nm, .int .u32 next, .int .u32 prev, .int .u32 refs, .int .u64 expiry, .int .u16 ty, .int .i64 size, .int .u32 hash] 89))
  have hne : w.heap.size < w1.heap.size := A1.out.lt
  have HS := hid (fun V (hV : Blk V w1.heap.size 89 #[.int .i64 tag, .int .i64 cls, .bool used, .int .i64 label, .int .u32 nm, .int .u32 next, .int .u32 prev, .int .u32 refs, .int .u64 expiry, .int .u16 ty, .int .i64 size, .int .u32 hash]) => (show (fun V => V.cell? ⟨w1.heap.size, 0, none⟩ = some (.int .i64 tag) ∧ V.cell? ⟨w1.heap.size, 1, none⟩ = some (.int .i64 cls) ∧ V.cell? ⟨w1.heap.size, 2, none⟩ = some (.bool used) ∧ V.cell? ⟨w1.heap.size, 3, none⟩ = some (.int .i64 label) ∧ V.cell? ⟨w1.heap.size, 4, none⟩ = some (.int .u32 nm) ∧ V.cell? ⟨w1.heap.size, 5, none⟩ = some (.int .u32 next) ∧ V.cell? ⟨w1.heap.size, 6, none⟩ = some (.int .u32 prev) ∧ V.cell? ⟨w1.heap.size, 7, none⟩ = some (.int .u32 refs) ∧ V.cell? ⟨w1.heap.size, 8, none⟩ = some (.int .u64 expiry) ∧ V.cell? ⟨w1.heap.size, 9, none⟩ = some (.int .u16 ty) ∧ V.cell? ⟨w1.heap.size, 10, none⟩ = some (.int .i64 size) ∧ V.cell? ⟨w1.heap.size, 11, none⟩ = some (.int .u32 hash)) V from ⟨hV.cell 0, hV.cell 1, hV.cell 2, hV.cell 3, hV.cell 4, hV.cell 5, hV.cell 6, hV.cell 7, hV.cell 8, hV.cell 9, hV.cell 10, hV.cell 11⟩))
  have hY := HS.out _ VB.out.drew
  generalize hWW : w1.alloc (.cells #[.int .i64 tag, .int .i64 cls, .bool used, .int .i64 label, .int .u32 nm, .int .u32 next, .int .u32 prev, .int .u32 refs, .int .u64 expiry, .int .u16 ty, .int .i64 size, .int .u32 hash] 89) = WV at *
  clear hWW
  have hAd := AV.out
  rw [HZ.out] at hAd
  rcases hx with ⟨hc, ht⟩ | ⟨hc, hb⟩
  · (have d0 := hAd.cell 0; have z0 := hAd.frozen 0; have d1 := hAd.cell 1; have z1 := hAd.frozen 1; have d2 := hAd.cell 2; have z2 := hAd.frozen 2; have d3 := hAd.cell 3; have z3 := hAd.frozen 3; have d4 := hAd.cell 4; have z4 := hAd.frozen 4; have d5 := hAd.cell 5; have z5 := hAd.frozen 5; have d6 := hAd.cell 6; have z6 := hAd.frozen 6; have d7 := hAd.cell 7; have z7 := hAd.frozen 7; have d8 := hAd.cell 8; have z8 := hAd.frozen 8; have d9 := hAd.cell 9; have z9 := hAd.frozen 9; have d10 := hAd.cell 10; have z10 := hAd.frozen 10; have d11 := hAd.cell 11; have z11 := hAd.frozen 11; simp [HB.cells] at d0 d1 d2 d3 d4 d5 d6 d7 d8 d9 d10 d11)
    refine wp_region_held_drew (S := fun V => V.cell? ⟨w1.heap.size, 0, none⟩ = some (.int .i64 tag) ∧ V.cell? ⟨w1.heap.size, 1, none⟩ = some (.int .i64 cls) ∧ V.cell? ⟨w1.heap.size, 2, none⟩ = some (.bool used) ∧ V.cell? ⟨w1.heap.size, 3, none⟩ = some (.int .i64 label) ∧ V.cell? ⟨w1.heap.size, 4, none⟩ = some (.int .u32 nm) ∧ V.cell? ⟨w1.heap.size, 5, none⟩ = some (.int .u32 next) ∧ V.cell? ⟨w1.heap.size, 6, none⟩ = some (.int .u32 prev) ∧ V.cell? ⟨w1.heap.size, 7, none⟩ = some (.int .u32 refs) ∧ V.cell? ⟨w1.heap.size, 8, none⟩ = some (.int .u64 expiry) ∧ V.cell? ⟨w1.heap.size, 9, none⟩ = some (.int .u16 ty) ∧ V.cell? ⟨w1.heap.size, 10, none⟩ = some (.int .i64 size) ∧ V.cell? ⟨w1.heap.size, 11, none⟩ = some (.int .u32 hash)) (by kernel_rfl) (hY) (fun yH => ?_)
    refine tkY 0 yH ?_
    refine tkY 1 yH ?_
    refine tkY 2 yH ?_
    refine tkY 3 yH ?_
    refine tkY 4 yH ?_
    refine tkY 5 yH ?_
    refine tkY 6 yH ?_
    refine tkY 7 yH ?_
    refine tkC 8 fun K hK => ?_
    go_simp
    refine hK.out _ _ _ (zou (S := [w.heap.size]) (w0 := WV) (fun V => V.drew.cell? ⟨w1.heap.size, 0, none⟩ = some (.int .i64 tag) ∧ V.drew.cell? ⟨w1.heap.size, 1, none⟩ = some (.int .i64 cls) ∧ V.drew.cell? ⟨w1.heap.size, 2, none⟩ = some (.bool used) ∧ V.drew.cell? ⟨w1.heap.size, 3, none⟩ = some (.int .i64 label) ∧ V.drew.cell? ⟨w1.heap.size, 4, none⟩ = some (.int .u32 nm) ∧ V.drew.cell? ⟨w1.heap.size, 5, none⟩ = some (.int .u32 next) ∧ V.drew.cell? ⟨w1.heap.size, 6, none⟩ = some (.int .u32 prev) ∧ V.drew.cell? ⟨w1.heap.size, 7, none⟩ = some (.int .u32 refs) ∧ V.drew.cell? ⟨w1.heap.size, 8, none⟩ = some (.int .u64 expiry) ∧ V.drew.cell? ⟨w1.heap.size, 9, none⟩ = some (.int .u16 ty) ∧ V.drew.cell? ⟨w1.heap.size, 10, none⟩ = some (.int .i64 size) ∧ V.drew.cell? ⟨w1.heap.size, 11, none⟩ = some (.int .u32 hash)) AV.out rfl (Fr.refl _ _) (.inl (by simp)) (fun w9 _ hf => HS.out w9.drew (VB.out.fr hf (by simp; omega)).drew)) fun yH => ?_
    clear hK K
    refine tkY 9 yH ?_
    refine wpAnyH_done (by kernel_rfl) ?_ _
    go_wp2_with fail
    refine zou (fun w9 => bodyPost _ _ _ _ _ w9.drew) AV.out rfl (Fr.refl [w.heap.size] WV) (.inl (by simp)) ?_
    intro w9 hb9 hf9
    have K9 := (show IsH w9.drew q t from (IsH.fr0 (⟨KV.out.m.fr hf9 (fun k hk hm => by simp at hm; subst hm; exact HNA.out hk) (fun k hk hm => by simp at hm; subst hm; have := HTs.out; omega), KV.out.tabs.fr hf9 (by simp; have := HTt.out; omega), KV.out.hi⟩ : IsH w9 q t) (Fr.refl _ _).drew))
    have F9 := (show Fr q.blocks w w9.drew from (FV.out.step hf9 (fun k hk => .inr (by simp at hk; omega))).drew)
    (have q0 := hb9.drew.cell 0; have q1 := hb9.drew.cell 1; have q2 := hb9.drew.cell 2; have q3 := hb9.drew.cell 3; have q4 := hb9.drew.cell 4; have q5 := hb9.drew.cell 5; have q6 := hb9.drew.cell 6; have q7 := hb9.drew.cell 7; have q8 := hb9.drew.cell 8; have q9 := hb9.drew.cell 9; have q10 := hb9.drew.cell 10; have q11 := hb9.drew.cell 11; simp at q0 q1 q2 q3 q4 q5 q6 q7 q8 q9 q10 q11)
    exact bodyPost_ret (by simp [results, results148, go_sem, q0, q1, q2, q3, q4, q5, q6, q7, q8, q9, q10, q11]; try rfl) rfl (HP3.out _ K9 F9)
  · subst hb
    (have d0 := hAd.cell 0; have z0 := hAd.frozen 0; have d1 := hAd.cell 1; have z1 := hAd.frozen 1; have d2 := hAd.cell 2; have z2 := hAd.frozen 2; have d3 := hAd.cell 3; have z3 := hAd.frozen 3; have d4 := hAd.cell 4; have z4 := hAd.frozen 4; have d5 := hAd.cell 5; have z5 := hAd.frozen 5; have d6 := hAd.cell 6; have z6 := hAd.frozen 6; have d7 := hAd.cell 7; have z7 := hAd.frozen 7; have d8 := hAd.cell 8; have z8 := hAd.frozen 8; have d9 := hAd.cell 9; have z9 := hAd.frozen 9; have d10 := hAd.cell 10; have z10 := hAd.frozen 10; have d11 := hAd.cell 11; have z11 := hAd.frozen 11; simp [HB.cells] at d0 d1 d2 d3 d4 d5 d6 d7 d8 d9 d10 d11)
    refine wp_region_held_drew (S := fun V => V.cell? ⟨w1.heap.size, 0, none⟩ = some (.int .i64 tag) ∧ V.cell? ⟨w1.heap.size, 1, none⟩ = some (.int .i64 cls) ∧ V.cell? ⟨w1.heap.size, 2, none⟩ = some (.bool used) ∧ V.cell? ⟨w1.heap.size, 3, none⟩ = some (.int .i64 label) ∧ V.cell? ⟨w1.heap.size, 4, none⟩ = some (.int .u32 nm) ∧ V.cell? ⟨w1.heap.size, 5, none⟩ = some (.int .u32 next) ∧ V.cell? ⟨w1.heap.size, 6, none⟩ = some (.int .u32 prev) ∧ V.cell? ⟨w1.heap.size, 7, none⟩ = some (.int .u32 refs) ∧ V.cell? ⟨w1.heap.size, 8, none⟩ = some (.int .u64 expiry) ∧ V.cell? ⟨w1.heap.size, 9, none⟩ = some (.int .u16 ty) ∧ V.cell? ⟨w1.heap.size, 10, none⟩ = some (.int .i64 size) ∧ V.cell? ⟨w1.heap.size, 11, none⟩ = some (.int .u32 hash)) (by kernel_rfl) (hY) (fun yH => ?_)
    refine tkY 0 yH ?_
    refine tkY 1 yH ?_
    refine tkY 2 yH ?_
    refine tkY 3 yH ?_
    refine tkN 4 yH ?_
    refine tkN 5 yH ?_
    refine tkN 6 yH ?_
    refine tkY 7 yH ?_
    refine tkC 8 fun K hK => ?_
    go_simp
    refine hK.out _ _ _ (zou (S := [w.heap.size]) (w0 := WV) (fun V => V.drew.cell? ⟨w1.heap.size, 0, none⟩ = some (.int .i64 tag) ∧ V.drew.cell? ⟨w1.heap.size, 1, none⟩ = some (.int .i64 cls) ∧ V.drew.cell? ⟨w1.heap.size, 2, none⟩ = some (.bool used) ∧ V.drew.cell? ⟨w1.heap.size, 3, none⟩ = some (.int .i64 label) ∧ V.drew.cell? ⟨w1.heap.size, 4, none⟩ = some (.int .u32 nm) ∧ V.drew.cell? ⟨w1.heap.size, 5, none⟩ = some (.int .u32 next) ∧ V.drew.cell? ⟨w1.heap.size, 6, none⟩ = some (.int .u32 prev) ∧ V.drew.cell? ⟨w1.heap.size, 7, none⟩ = some (.int .u32 refs) ∧ V.drew.cell? ⟨w1.heap.size, 8, none⟩ = some (.int .u64 expiry) ∧ V.drew.cell? ⟨w1.heap.size, 9, none⟩ = some (.int .u16 ty) ∧ V.drew.cell? ⟨w1.heap.size, 10, none⟩ = some (.int .i64 size) ∧ V.drew.cell? ⟨w1.heap.size, 11, none⟩ = some (.int .u32 hash)) AV.out rfl (Fr.refl _ _) (.inl (by simp)) (fun w9 _ hf => HS.out w9.drew (VB.out.fr hf (by simp; omega)).drew)) fun yH => ?_
    clear hK K
    refine tkY 9 yH ?_
    refine wpAnyH_done (by kernel_rfl) ?_ _
    go_wp2_with fail
    refine zou (fun w9 => bodyPost _ _ _ _ _ w9.drew) AV.out rfl (Fr.refl [w.heap.size] WV) (.inl (by simp)) ?_
    intro w9 hb9 hf9
    have K9 := (show IsH w9.drew q t from (IsH.fr0 (⟨KV.out.m.fr hf9 (fun k hk hm => by simp at hm; subst hm; exact HNA.out hk) (fun k hk hm => by simp at hm; subst hm; have := HTs.out; omega), KV.out.tabs.fr hf9 (by simp; have := HTt.out; omega), KV.out.hi⟩ : IsH w9 q t) (Fr.refl _ _).drew))
    have F9 := (show Fr q.blocks w w9.drew from (FV.out.step hf9 (fun k hk => .inr (by simp at hk; omega))).drew)
    (have q0 := hb9.drew.cell 0; have q1 := hb9.drew.cell 1; have q2 := hb9.drew.cell 2; have q3 := hb9.drew.cell 3; have q4 := hb9.drew.cell 4; have q5 := hb9.drew.cell 5; have q6 := hb9.drew.cell 6; have q7 := hb9.drew.cell 7; have q8 := hb9.drew.cell 8; have q9 := hb9.drew.cell 9; have q10 := hb9.drew.cell 10; have q11 := hb9.drew.cell 11; simp at q0 q1 q2 q3 q4 q5 q6 q7 q8 q9 q10 q11)
    exact bodyPost_ret (by simp [results, results148, go_sem, q0, q1, q2, q3, q4, q5, q6, q7, q8, q9, q10, q11]; try rfl) rfl (HP3.out _ K9 F9)
end
theorem zwx{t:TM}(hok:t.Ok):zbd t.kinds 0 4=1:=by
 have hc:=zak hok.cfg;have hlen:=t.kinds_len
 have h0:t.kinds[0]?.getD 0=1:=by
  rw[t.kinds_get 0 (by omega)];unfold zan;rw[if_pos (by decide)]
 unfold zbd;rw[if_neg (by simp[zc8];omega)];unfold zf3
 have:oneK t.kinds (0/4:Int).toNat ((0+4+3)/4:Int).toNat=true:=by
  show oneK t.kinds 0 1=true;simp[oneK]
 rw[if_pos this];exact h0
section
variable {w : World} {q : MH} {t : TM} {x : Nat} {X : HB}
theorem BlkE.tagN(h:BlkE t x X):X.tag=(X.tag.toNat:Int):=by rcases h.tg with e|e<;>rw[e] <;>rfl
theorem nget(h:IsH w q t)(hx:BlkE t x X):Calls prog 148 #[.pointer (some ⟨q.m,0,none⟩),.int .i64 x] w fun e w'=>e= .returned (.tuple #[X.val,.bool (X.tag==2)])∧IsH w' q t∧Fr q.blocks w w':=by
 have:=zy2 h x X 0 (fun W hW=>hget W q t hW x X.tag.toNat 5 X hx.h hx.ok hx.r hx.tagN hx.lies (.inl rfl));simpa using this
theorem z1a(h:IsH w q t):Calls prog 148 #[.pointer (some ⟨q.m,0,none⟩),.int .i64 0] w fun e w'=>e= .returned (.tuple #[zHB.val,.bool false])∧IsH w' q t∧Fr q.blocks w w':=by
 have hk:=zwx h.m.ok;have:=zy2 h 0 zHB 30 (fun W hW=>zko hW 0 (by rw[hk];decide) (by rw[hk];decide));simpa using this
theorem zll(h:IsT w q t):Calls prog 82 #[.pointer (some ⟨q.m,0,none⟩)] w fun e w'=>e= .returned (.bool true)∧Fr [] w w':=by
 have hc:=zca h;have hE:=za7 t.a t.s h.ok.cfg.a1;unfold cfgV at hc;generalize t.a=a at*;generalize t.s=s at*;clear h;go_enter func82,ntmps82;go_wp2_with fail;with_reducible refine hc.mono ?_
 rintro e w1 ⟨rfl,f1⟩;go_wp2_with fail;go_ret;exact⟨rfl,f1⟩
theorem zo2(h:IsH w q t)(hx:BlkE t x X)(h0:x≠0):Calls prog 261 #[.pointer (some ⟨q.m,0,none⟩),.int .i64 x] w fun e w'=>e= .returned (.bool (X.tag==2))∧IsH w' q t∧Fr q.blocks w w':=by
 have hg:=(show Calls prog 148 #[.pointer (some ⟨q.m,0,none⟩),.int .i64 x] w fun e w'=>e= .returned (.tuple #[.agg #[.int .i64 X.tag,.int .i64 X.cls,.bool X.used,.int .i64 X.label,.int .u32 X.name,.int .u32 X.next,.int .u32 X.prev,.int .u32 X.refs,.int .u64 X.expiry,.int .u16 X.typ,.int .i64 X.size,.int .u32 X.hash],.bool (X.tag==2)])∧IsH w' q t∧Fr q.blocks w w' from nget h hx);have b0:((x:Int)==0)=false:=by rw[beq_eq_false_iff_ne];omega
 have b0':(x==0)=false:=by rw[beq_eq_false_iff_ne];omega
 clear h hx h0;obtain⟨tag,cls,used,label,nm,next,prev,refs,expiry,ty,size,hash⟩:=X;simp only at hg⊢;generalize(tag==2)=b at*;go_enter func261,ntmps261;go_wp2_with fail;with_reducible refine hg.mono ?_
 rintro e w1 ⟨rfl,k1,f1⟩;have K1:=hid (k1.alloc (.cells #[.int .i64 tag,.int .i64 cls,.bool used,.int .i64 label,.int .u32 nm,.int .u32 next,.int .u32 prev,.int .u32 refs,.int .u64 expiry,.int .u16 ty,.int .i64 size,.int .u32 hash] 89));have F1:=hid (f1.alloc (.cells #[.int .i64 tag,.int .i64 cls,.bool used,.int .i64 label,.int .u32 nm,.int .u32 next,.int .u32 prev,.int .u32 refs,.int .u64 expiry,.int .u16 ty,.int .i64 size,.int .u32 hash] 89));clear k1 f1;go_wp2_with fail;go_ret;exact⟨rfl,K1.out,F1.out⟩
theorem zkr(h:IsH w q t):Calls prog 261 #[.pointer (some ⟨q.m,0,none⟩),.int .i64 0] w fun e w'=>e= .returned (.bool true)∧IsH w' q t∧Fr q.blocks w w':=by
 have hg:=(show Calls prog 148 #[.pointer (some ⟨q.m,0,none⟩),.int .i64 0] w fun e w'=>e= .returned (.tuple #[.agg #[.int .i64 0,.int .i64 0,.bool false,.int .i64 0,.int .u32 0,.int .u32 0,.int .u32 0,.int .u32 0,.int .u64 0,.int .u16 0,.int .i64 0,.int .u32 0],.bool false])∧IsH w' q t∧Fr q.blocks w w' from z1a h);clear h;go_enter func261,ntmps261;go_wp2_with fail;with_reducible refine hg.mono ?_
 rintro e w1 ⟨rfl,k1,f1⟩;have K1:=hid (k1.alloc (.cells #[.int .i64 0,.int .i64 0,.bool false,.int .i64 0,.int .u32 0,.int .u32 0,.int .u32 0,.int .u32 0,.int .u64 0,.int .u16 0,.int .i64 0,.int .u32 0] 89));have F1:=hid (f1.alloc (.cells #[.int .i64 0,.int .i64 0,.bool false,.int .i64 0,.int .u32 0,.int .u32 0,.int .u32 0,.int .u32 0,.int .u64 0,.int .u16 0,.int .i64 0,.int .u32 0] 89));clear k1 f1;go_wp2_with fail;go_ret;exact⟨rfl,K1.out,F1.out⟩
theorem zvo(h:IsH w q t)(hx:BlkE t x X)(h0:x≠0)(ht:X.tag=2):Calls prog 155 #[.pointer (some ⟨q.m,0,none⟩),.int .i64 x] w fun e w'=>e= .returned (.int .u32 X.hash)∧IsH w' q t∧Fr q.blocks w w':=by
 have hg:=(show Calls prog 148 #[.pointer (some ⟨q.m,0,none⟩),.int .i64 x] w fun e w'=>e= .returned (.tuple #[.agg #[.int .i64 X.tag,.int .i64 X.cls,.bool X.used,.int .i64 X.label,.int .u32 X.name,.int .u32 X.next,.int .u32 X.prev,.int .u32 X.refs,.int .u64 X.expiry,.int .u16 X.typ,.int .i64 X.size,.int .u32 X.hash],.bool (X.tag==2)])∧IsH w' q t∧Fr q.blocks w w' from nget h hx);rw[show(X.tag==2)=true from by rw[ht];rfl]at hg;have b0:((x:Int)==0)=false:=by rw[beq_eq_false_iff_ne];omega
 have b0':(x==0)=false:=by rw[beq_eq_false_iff_ne];omega
 clear h hx h0 ht;obtain⟨tag,cls,used,label,nm,next,prev,refs,expiry,ty,size,hash⟩:=X;simp only at hg⊢;go_enter func155,ntmps155;go_wp2_with fail;with_reducible refine hg.mono ?_
 rintro e w1 ⟨rfl,k1,f1⟩;have K1:=hid (k1.alloc (.cells #[.int .i64 tag,.int .i64 cls,.bool used,.int .i64 label,.int .u32 nm,.int .u32 next,.int .u32 prev,.int .u32 refs,.int .u64 expiry,.int .u16 ty,.int .i64 size,.int .u32 hash] 89));have F1:=hid (f1.alloc (.cells #[.int .i64 tag,.int .i64 cls,.bool used,.int .i64 label,.int .u32 nm,.int .u32 next,.int .u32 prev,.int .u32 refs,.int .u64 expiry,.int .u16 ty,.int .i64 size,.int .u32 hash] 89));clear k1 f1;go_wp2_with fail;go_ret;exact⟨rfl,K1.out,F1.out⟩
theorem zqg(w:World)(p:Value):Calls prog 155 #[p,.int .i64 0] w fun e w'=>e= .returned (.int .u32 2166136261)∧w'=w:=by
 have hc:=zwy w;go_enter func155,ntmps155;go_wp2_with fail;with_reducible refine hc.mono ?_
 rintro e w1 ⟨rfl,rfl⟩;go_wp2_with fail;go_ret;exact⟨rfl,rfl⟩
theorem zx6(h:IsH w q t):Calls prog 22 #[.pointer (some ⟨q.m,0,none⟩)] w fun e w'=>e= .returned (.int .i64 (t.rt 17))∧IsH w' q t∧Fr q.blocks w w':=by
 have hr:=(show Calls prog 45 #[.pointer (some ⟨q.m,0,none⟩),.int .i64 17] w fun e w'=>e= .returned (.int .u64 (t.rt 17))∧IsT w' q t∧Fr q.blocks w w' from zqu h.m 17 (by decide) 17 rfl);have H0:=hid h;have hlt:=h.m.ok.rt 17
 have w1:IntKind.i64.wrap (t.rt 17:Int)=(t.rt 17:Int):=i64_in _ (by
  have:fldW 17=4:=rfl;rw[this]at hlt;omega)
 generalize hz:t.rt 17=z at*;clear hlt hz h;go_enter func22,ntmps22;go_wp2_with fail;with_reducible refine hr.mono ?_
 rintro e w1 ⟨rfl,k1,f1⟩;have K1:=hid (H0.out.step k1 f1);have F1:=hid f1;clear k1 f1;go_wp2_with fail;go_ret;exact⟨rfl,K1.out,F1.out⟩
theorem zsq(h:IsH w q t)(d:Int)(n:Nat)(hn:(t.rt 17:Int)+d=n)(hd: -1≤d∧d≤1)(hn4:n<4294967296):Calls prog 265 #[.pointer (some ⟨q.m,0,none⟩),.int .i64 d] w fun e w'=>e= .returned (.tuple #[])∧IsH w' q (t.setRt 17 n)∧Fr q.blocks w w':=by
 have hc:=zx6 h;have HS:=hid (fun W (hW:IsH W q t)=>(show Calls prog 83 #[.pointer (some ⟨q.m,0,none⟩),.int .i64 17,.int .u64 n] W fun e w'=>e= .returned (.bool true)∧IsT w' q (t.setRt 17 n)∧Fr q.blocks W w' from zcg hW.m 17 (by decide) n (by show n<256^4;omega) 17 rfl n rfl));have hlt:t.rt 17<4294967296:=h.m.ok.rt 17;have w1:IntKind.i64.wrap ((t.rt 17:Int)+d)=(n:Int):=by rw[i64_in _ (by omega)];exact hn
 have w2:IntKind.u64.wrap (n:Int)=(n:Int):=by show(n:Int) %18446744073709551616=n;omega
 generalize t.rt 17=z at*;clear hlt h hn;go_enter func265,ntmps265;go_wp2_with fail;with_reducible refine hc.mono ?_
 rintro e w1 ⟨rfl,k1,f1⟩;have K1:=hid k1;have F1:=hid f1;clear k1 f1 hc;go_wp2_with fail;with_reducible refine(HS.out _ K1.out).mono ?_
 rintro e w2 ⟨rfl,k2,f2⟩;have K2:=hid (K1.out.step k2 f2);have F2:=hid (F1.out.trans f2);clear k2 f2;go_wp2_with fail;go_end0;exact⟨rfl,K2.out,F2.out⟩
end
section
variable {w : World} {q : MH} {t : TM} {x : Nat} {X : HB}
theorem zkj(X:HB)(v:Nat):({X with refs:=v}:HB).num=up X.num 11 v:=by
 funext f;unfold up;by_cases h:f=11
 ·subst h;rfl
 ·rw[if_neg h]
  show({X with refs:=v}:HB).nums[f]?.getD 0=X.nums[f]?.getD 0;unfold HB.nums;rcases f with _|_|_|_|_|_|_|_|_|_|_|_|f;all_goals first|rfl|(exact absurd rfl h)
theorem zl5(hr:X.right=true)(ht:X.tag=2)(v:Nat):({X with refs:=v}:HB).right=true:=by
 have hl:∀k,({X with refs:=v}:HB).lackTo k=true→X.lackTo k=true:=by
  intro k;induction k with
  |zero=>exact id
  |succ k ih=>
   intro h;unfold HB.lackTo at h⊢;rw[Bool.or_eq_true]at h⊢;rcases h with h|h
   ·exact .inl (ih h)
   ·right
    unfold HB.lackAt at h⊢;rw[zkj]at h;by_cases hk:k=11
    ·subst hk
     have h2:(({X with refs:=v}:HB)).tag=2:=ht;rw[h2]at h;have:((whZ 2 ((11:Nat):Int)).2==0)=false:=rfl;rw[this,Bool.and_false]at h;cases h
    ·rw[zac _ _ hk]at h
     exact h
 unfold HB.right at hr⊢;rw[Bool.and_eq_true,Bool.and_eq_true]at hr⊢;obtain⟨⟨h1,h2⟩,h3⟩:=hr;refine⟨⟨h1,?_⟩,h3⟩;cases h:({X with refs:=v}:HB).lackTo 12 with
 |false=>rfl
 |true=>
  rw[hl 12 h]at h2;cases h2
theorem BlkE.refs(h:BlkE t x X)(hok:t.Ok)(ht:X.tag=2)(n:Nat)(hn:n<4294967296):BlkE (t.setB (x+8) 4 n) x {X with refs:=n}:=by
 have hh:=h.h;rw[show X.tag.toNat=2 from by rw[ht];rfl]at hh;have hs:=hh.set hok (by decide) 11 (by decide) (by decide) n (by show n<256^4;omega);refine⟨?_,⟨h.ok.tag,h.ok.cls,h.ok.label,h.ok.name,h.ok.next,h.ok.prev,hn,h.ok.expiry,h.ok.typ,h.ok.size,h.ok.hash⟩,zl5 h.r ht n,h.tg⟩;show HeadTo _ x X.tag.toNat 5 ({X with refs:=n}:HB).num 12;rw[show X.tag.toNat=2 from by rw[ht];rfl,zkj];exact hs
theorem z1x(h:IsH w q t)(hx:BlkE t x X)(ht:X.tag=2)(d:Int)(n:Nat)(hn:(X.refs:Int)+d=n)(hd: -1≤d∧d≤1)(hn4:n<4294967296):Calls prog 214 #[.pointer (some ⟨q.m,0,none⟩),.int .i64 x,.int .i64 d] w fun e w'=>e= .returned (.int .i64 n)∧IsH w' q (t.setB (x+8) 4 n)∧Fr q.blocks w w':=by
 have h2:X.tag.toNat=2:=by rw[ht];rfl
 have hh:=hx.h;have hly:=hx.lies;rw[h2]at hh hly;have hl:=(show Calls prog 199 #[.pointer (some ⟨q.m,0,none⟩),.int .i64 x,.int .i64 11] w fun e w'=>e= .returned (.int .u64 X.refs)∧IsH w' q t∧Fr q.blocks w w' from zoc h hh hly 11)
 have HS:=hid (fun W (hW:IsH W q t)=>(show Calls prog 200 #[.pointer (some ⟨q.m,0,none⟩),.int .i64 x,.int .i64 11,.int .u64 n] W fun e w'=>e= .returned (.bool true)∧IsH w' q (t.setB (x+8) 4 n)∧Fr q.blocks W w' from by
  have:=zj9 hW hh hly 11 n (by omega)
  have e1:hstB 2 11 n=true:=by
   unfold hstB;have:(whZ ((2:Nat):Int) 11).2=4:=rfl;rw[this,show decide (n<256^4)=true from decide_eq_true (by omega)];rfl
  unfold TM.hst at this;rw[e1,if_pos rfl]at this;exact this))
 have hr:=hx.ok.refs;have w0:IntKind.i64.wrap (X.refs:Int)=(X.refs:Int):=i64_in _ (by omega);have w1:IntKind.i64.wrap ((X.refs:Int)+d)=(n:Int):=by rw[i64_in _ (by omega)];exact hn
 have w2:IntKind.u64.wrap (n:Int)=(n:Int):=by show(n:Int) %18446744073709551616=n;omega
 generalize X.refs=z at*;clear hr hn hh hly hx h;go_enter func214,ntmps214;go_wp2_with fail;with_reducible refine hl.mono ?_
 rintro e w1 ⟨rfl,k1,f1⟩;have K1:=hid k1;have F1:=hid f1;clear k1 f1 hl;go_wp2_with fail;with_reducible refine(HS.out _ K1.out).mono ?_
 rintro e w2 ⟨rfl,k2,f2⟩;have K2:=hid k2;have F2:=hid (F1.out.trans f2);clear k2 f2;go_wp2_with fail;go_ret;exact⟨rfl,K2.out,F2.out⟩
end
def clsN(m:Nat):Nat:=if m≤32 then 1 else if m≤48 then 2 else if m≤64 then 3 else 4
theorem zpl(m:Nat)(h:m≤96):1≤clsN m∧clsN m≤9∧m≤csz (clsN m):=by
 unfold clsN;split
 ·exact⟨by decide,by decide,by show m≤32;omega⟩
 ·split
  ·exact⟨by decide,by decide,by show m≤48;omega⟩
  ·split
   ·exact⟨by decide,by decide,by show m≤64;omega⟩
   ·exact⟨by decide,by decide,by show m≤96;omega⟩
section
variable {w : World} {q : MH} {t : TM} {x : Nat} {X : HB}
theorem cof(hM:TabM w)(m:Nat)(h1:1≤m)(h96:m≤96):Calls prog 98 #[.int .i64 m] w fun e w'=>e= .returned (.tuple #[.int .i64 (clsN m),.int .i64 0])∧w'=w:=by
 have c0:=hM.cls 0;have c1:=hM.cls 1;have c2:=hM.cls 2;have c3:=hM.cls 3;have c4:=hM.cls 4;have c5:=hM.cls 5;have c6:=hM.cls 6;have c7:=hM.cls 7;have c8:=hM.cls 8;have c9:=hM.cls 9;simp[clsT,zht]at c0 c1 c2 c3 c4 c5 c6 c7 c8 c9;have x0:∀W,(Instr.index 241 (.agg #[.int .i64 0,.int .i64 32,.int .i64 48,.int .i64 64,.int .i64 96,.int .i64 128,.int .i64 192,.int .i64 256,.int .i64 384,.int .i64 512]) (.int .i64 0)).run prog W= .ok (.int .i64 0) W:=fun W=>by kernel_rfl
 have x1:∀W,(Instr.index 241 (.agg #[.int .i64 0,.int .i64 32,.int .i64 48,.int .i64 64,.int .i64 96,.int .i64 128,.int .i64 192,.int .i64 256,.int .i64 384,.int .i64 512]) (.int .i64 1)).run prog W= .ok (.int .i64 32) W:=fun W=>by kernel_rfl
 have x2:∀W,(Instr.index 241 (.agg #[.int .i64 0,.int .i64 32,.int .i64 48,.int .i64 64,.int .i64 96,.int .i64 128,.int .i64 192,.int .i64 256,.int .i64 384,.int .i64 512]) (.int .i64 2)).run prog W= .ok (.int .i64 48) W:=fun W=>by kernel_rfl
 have x3:∀W,(Instr.index 241 (.agg #[.int .i64 0,.int .i64 32,.int .i64 48,.int .i64 64,.int .i64 96,.int .i64 128,.int .i64 192,.int .i64 256,.int .i64 384,.int .i64 512]) (.int .i64 3)).run prog W= .ok (.int .i64 64) W:=fun W=>by kernel_rfl
 have x4:∀W,(Instr.index 241 (.agg #[.int .i64 0,.int .i64 32,.int .i64 48,.int .i64 64,.int .i64 96,.int .i64 128,.int .i64 192,.int .i64 256,.int .i64 384,.int .i64 512]) (.int .i64 4)).run prog W= .ok (.int .i64 96) W:=fun W=>by kernel_rfl
 have b0:decide ((m:Int)<1)=false:=decide_eq_false (by omega);have b0':decide (m<1)=false:=decide_eq_false (by omega);have b1:decide ((m:Int)≤0)=false:=decide_eq_false (by omega);have b1':decide (m=0)=false:=decide_eq_false (by omega);have b1'':decide (m≤0)=false:=decide_eq_false (by omega);clear hM;unfold clsN;by_cases h32:m≤32
 ·have b32:decide ((m:Int)≤32)=true:=decide_eq_true (by omega)
  have b32':decide (m≤32)=true:=decide_eq_true (by omega);rw[if_pos h32];go_enter func98,ntmps98;go_wp2_with fail;refine wp_loop_rounds 2 ?_;rw[rounds_succ];go_wp2_with fail;rw[rounds_succ];go_wp2_with fail;go_ret2;exact⟨rfl,rfl⟩
 have b32:decide ((m:Int)≤32)=false:=decide_eq_false (by omega);have b32':decide (m≤32)=false:=decide_eq_false (by omega);rw[if_neg h32];by_cases h48:m≤48
 ·have b48:decide ((m:Int)≤48)=true:=decide_eq_true (by omega)
  have b48':decide (m≤48)=true:=decide_eq_true (by omega);rw[if_pos h48];go_enter func98,ntmps98;go_wp2_with fail;refine wp_loop_rounds 3 ?_;rw[rounds_succ];go_wp2_with fail;rw[rounds_succ];go_wp2_with fail;rw[rounds_succ];go_wp2_with fail;go_ret2;exact⟨rfl,rfl⟩
 have b48:decide ((m:Int)≤48)=false:=decide_eq_false (by omega);have b48':decide (m≤48)=false:=decide_eq_false (by omega);rw[if_neg h48];by_cases h64:m≤64
 ·have b64:decide ((m:Int)≤64)=true:=decide_eq_true (by omega)
  have b64':decide (m≤64)=true:=decide_eq_true (by omega);rw[if_pos h64];go_enter func98,ntmps98;go_wp2_with fail;refine wp_loop_rounds 4 ?_;rw[rounds_succ];go_wp2_with fail;rw[rounds_succ];go_wp2_with fail;rw[rounds_succ];go_wp2_with fail;rw[rounds_succ];go_wp2_with fail;go_ret2;exact⟨rfl,rfl⟩
 have b64:decide ((m:Int)≤64)=false:=decide_eq_false (by omega);have b64':decide (m≤64)=false:=decide_eq_false (by omega);rw[if_neg h64];have b96:decide ((m:Int)≤96)=true:=decide_eq_true (by omega);have b96':decide (m≤96)=true:=decide_eq_true (by omega);go_enter func98,ntmps98;go_wp2_with fail;refine wp_loop_rounds 5 ?_;rw[rounds_succ];go_wp2_with fail;rw[rounds_succ];go_wp2_with fail;rw[rounds_succ];go_wp2_with fail;rw[rounds_succ];go_wp2_with fail;rw[rounds_succ];go_wp2_with fail;go_ret2;exact⟨rfl,rfl⟩
theorem z07(hM:TabM w)(m:Nat)(h1:1≤m)(h63:m≤63):Calls prog 192 #[.int .i64 m] w fun e w'=>e= .returned (.tuple #[.int .i64 (clsN (16+m)),.int .i64 0])∧w'=w:=by
 have hc:=cof hM (16+m) (by omega) (by omega);have b0:decide ((m:Int)<1)=false:=decide_eq_false (by omega);have b0':decide (m<1)=false:=decide_eq_false (by omega);have b1:decide ((63:Int)<(m:Int))=false:=decide_eq_false (by omega);have b1':decide (63<m)=false:=decide_eq_false (by omega);have hw:IntKind.i64.wrap (16+(m:Int))=((16+m:Nat):Int):=by rw[i64_in _ (by omega)];omega
 generalize 16+m=k at*;clear hM;go_enter func192,ntmps192;go_wp2_with fail;with_reducible refine hc.mono ?_
 rintro e w1 ⟨rfl,rfl⟩;go_wp2_with fail;go_ret2;exact⟨rfl,rfl⟩
theorem ztv(hM:TabM w)(l:List Nat)(hl:∀b∈l,b<256):Calls prog 95 #[.string (zag l)] w fun e w'=>e= .returned (if zap l then .tuple #[.int .i64 (clsN (16+l.length)),.int .i64 0]else .tuple #[.int .i64 0,.int .i64 20])∧Fr [] w w':=by
 have hf:=zn1 w l hl;have hs:=za4 l;by_cases hk:zap l=true
 ·have hlen:1≤l.length∧l.length≤63:=by
   unfold zap at hk;simp only[Bool.and_eq_true,decide_eq_true_eq]at hk;exact hk.1
  rw[if_pos hk]at hf⊢;have HC:=hid (fun W (hf:Fr [] w W)=>z07 (hM.fr hf (by simp)) l.length hlen.1 hlen.2);have hsz:((zag l).size:Int)=l.length:=by rw[hs]
  clear hk hl hlen hM hs;generalize 16+l.length=k at*;generalize l.length=n at*;generalize zag l=s at*;go_enter func95,ntmps95;go_wp2_with fail;with_reducible refine hf.mono ?_
  rintro e w1 ⟨rfl,f1⟩;have F1:=hid f1;clear f1;go_wp2_with fail;with_reducible refine(HC.out _ F1.out).mono ?_
  rintro e w2 ⟨rfl,rfl⟩;go_wp2_with fail;go_ret2;exact⟨rfl,F1.out⟩
 ·rw[if_neg hk]at hf⊢
  clear hk hl hM hs;generalize zag l=s at*;go_enter func95,ntmps95;go_wp2_with fail;with_reducible refine hf.mono ?_
  rintro e w1 ⟨rfl,f1⟩;go_wp2_with fail;go_ret2;exact⟨rfl,f1⟩
theorem zjg{b:List Nat}{y:Nat}(hb:ByOn t y b.length (fun j=>b[j]?.getD 0)):t.part y b.length=b:=by
 unfold TM.part;apply List.ext_getElem?;intro i;rcases Nat.lt_or_ge i b.length with h|h
 ·rw[List.getElem?_map,List.getElem?_range h,Option.map_some,hb i h]
  show some (b[i]?.getD 0)=b[i]?;rw[List.getElem?_eq_getElem h];rfl
 ·rw[List.getElem?_eq_none (by simp;exact h),List.getElem?_eq_none h]
theorem z0c(h:IsH w q t)(x':Int)(y:Nat)(hx':x'=y)(b:List Nat)(hb:ByOn t y b.length (fun j=>b[j]?.getD 0))(N:Nat)(hN:N %4=0)(hn:b.length≤N)(hy4:y %4=0)(hl:y+N≤zae t.a t.s)(hk:KdOn t y N 5)(n':Int)(hn':n'=b.length):Calls prog 120 #[.pointer (some ⟨q.m,0,none⟩),.int .i64 x',.int .i64 n',.int .i64 5] w fun e w'=>∃g cap,e= .returned (.slice (some ⟨g,0,none⟩) b.length cap)∧w.heap.size≤g∧RowB w' g cap b∧IsH w' q t∧Fr q.blocks w w':=by
 have:=zx3 h.m y b.length N 5 hl hk hy4 hN hn (by decide) x' n' 5 hx' hn' rfl;rw[zjg hb]at this;exact this.mono fun e w' ⟨v,g,cap,he,hv,hg,hr,hT,hf⟩=>⟨g,cap,by rw[he,hv],hg,hr,h.step hT hf,hf⟩
theorem zt4(h:IsH w q t)(hx:BlkE t x X)(ht:X.tag=2)(b:List Nat)(hlb:X.label=(b.length:Int))(hlen:b.length≤63)(hlt:∀y∈b,y<256)(hb:ByOn t (x+16) b.length (fun j=>b[j]?.getD 0))(n:Nat)(hn:16+b.length≤n)(hn16:n %16=0)(hx16:x %16=0)(hxn:x+n≤zae t.a t.s)(hk:KdOn t x n 5):Calls prog 151 #[.pointer (some ⟨q.m,0,none⟩),.int .i64 x] w fun e w'=>e= .returned (.tuple #[.string (zag b),.int .i64 0])∧IsH w' q t∧Fr q.blocks w w':=by
 have HG:=hid (fun W (hW:IsH W q t)=>(show Calls prog 148 #[.pointer (some ⟨q.m,0,none⟩),.int .i64 x] W fun e w'=>e= .returned (.tuple #[.agg #[.int .i64 X.tag,.int .i64 X.cls,.bool X.used,.int .i64 X.label,.int .u32 X.name,.int .u32 X.next,.int .u32 X.prev,.int .u32 X.refs,.int .u64 X.expiry,.int .u16 X.typ,.int .i64 X.size,.int .u32 X.hash],.bool (X.tag==2)])∧IsH w' q t∧Fr q.blocks W w' from nget hW hx));rw[show(X.tag==2)=true from by rw[ht];rfl]at HG;have hle:=zc2 t.a t.s h.m.ok.cfg;have HR:=hid (fun W (hW:IsH W q t)=>z0c hW ((x:Int)+16) (x+16) (by omega) b hb ((b.length+3)/4*4) (by omega) (by omega) (by omega) (by omega) (fun g g1 g2=>hk g (by omega) (by omega)) X.label hlb);have HCv:=hid (fun W g cap (hr:RowB W g cap b)=>zc6 W _ cap b (hr.byt hlt (by omega)));have hm:=zll h.m;have H0:=hid h;have wx:=i64_in ((x:Int)+16) (by omega);clear h hx ht hlb hlen hlt hb hn hk hxn hle;obtain⟨tag,cls,used,label,nm,next,prev,refs,expiry,ty,size,hash⟩:=X;simp only at HG HR⊢;generalize zag b=s at*;generalize b.length=m at*;go_enter func151,ntmps151;go_wp2_with fail;with_reducible refine hm.mono ?_
 rintro e w0 ⟨rfl,f0⟩;have K0:=hid (H0.out.fr0 f0);have F0:=hid (f0.nil (S:=q.blocks));clear f0 hm;go_wp2_with fail;with_reducible refine(HG.out _ K0.out).mono ?_
 rintro e w1 ⟨rfl,k1,f1⟩;have K1:=hid (k1.alloc (.cells #[.int .i64 tag,.int .i64 cls,.bool used,.int .i64 label,.int .u32 nm,.int .u32 next,.int .u32 prev,.int .u32 refs,.int .u64 expiry,.int .u16 ty,.int .i64 size,.int .u32 hash] 89));have F1:=hid ((F0.out.trans f1).alloc (.cells #[.int .i64 tag,.int .i64 cls,.bool used,.int .i64 label,.int .u32 nm,.int .u32 next,.int .u32 prev,.int .u32 refs,.int .u64 expiry,.int .u16 ty,.int .i64 size,.int .u32 hash] 89));clear k1 f1;go_wp2_with fail;with_reducible refine(HR.out _ K1.out).mono ?_
 rintro e w2 ⟨g,cap,rfl,hg,hr,k2,f2⟩;have K2:=hid k2;have F2:=hid (F1.out.trans f2);have hcv:=HCv.out _ g cap hr;clear k2 f2 hr hg;go_wp2_with fail;go_ret2;exact⟨rfl,K2.out,F2.out⟩
end
end Go.Proofs.YtolhkhdbgnciiaaGreatDoor
