/- chain.Grow where it can't be. -/
import Derived.Test.YtjjkfcnlgmbbcaaGreatDoorMJ
import Derived.Test.YtjjkfcnlgmbbcaaGreatDoorME
namespace Go.Proofs.YtjjkfcnlgmbbcaaGreatDoor
set_option linter.unusedVariables false
set_option linter.unusedSimpArgs false
open Go.RowKit
section
variable {w0 W W' : World} {q : MH} {S S' : SS} {x y n c p : Nat} {u v : TM} {L L' : Nat → Prop} {l : List Nat} {E E' : Nat → HB} {B : Nat → List Nat} {X : HB} {b : List Nat}
set_option maxRecDepth 100000 in
theorem nblank_no(g:WB w0 q S L u E B W)(hx:x<240):Calls Tryz.prog 125 #[.pointer (some ⟨q.m,0,none⟩),.int .i64 x,.int .i64 c] W fun e w'=>e= .returned (.bool false)∧IsH w' q u∧Fr q.blocks W w':=by
 have hbs:=g.base
 have HBl:=(show Calls Tryz.prog 155 #[.pointer (some ⟨q.m,0,none⟩),.int .i64 x] W fun e w'=>e= .returned (.tuple #[.int .i64 0,.int .i64 0,.bool false])∧IsH w' q u∧Fr q.blocks W w' from by
  have:=sblock g.h g.sl (x:Int)
  rw[show blkS u.a (lbase u.a u.s) S (x:Int)=(0,0,false)from by
   unfold blkS;rw[if_neg (by omega)]]at this
  exact this)
 clear g hbs hx;go_enter Tryz.func125,Tryz.ntmps125;go_wp2_with fail;with_reducible refine HBl.mono ?_
 rintro e w1 ⟨rfl,k1,f1⟩;have K1:=Lib.hid k1;have F1:=Lib.hid f1;clear k1 f1 HBl;go_wp2_with fail;go_ret;exact⟨rfl,K1.out,F1.out⟩
set_option maxRecDepth 100000 in
set_option maxHeartbeats 4000000 in
theorem nmake_bad(g:NI w0 q S L l u E B W)(hb:∀k∈b,k<256)(hk:labOk b=false):Calls Tryz.prog 52 #[.pointer (some ⟨q.m,0,none⟩),.int .i64 x,.int .i64 p,.string (strOf b)] W fun e w'=>e= .returned (.int .i64 20)∧Fr q.blocks W w'∧NI w0 q S L l u E B w':=by
 have H0:=Lib.hid (g.fr0 ((Fr.refl [] W).alloc (.cells #[.int .i64 0] 36)));have F0:=Lib.hid ((Fr.refl q.blocks W).alloc (.cells #[.int .i64 0] 36));have A0:=Lib.hid (Blk.new W 36 #[.int .i64 0]);have HM:=Lib.hid (nmade H0.out.wb.h.m)
 have HCl:=Lib.hid (fun V (hV:NI w0 q S L l u E B V)=>(show Calls Tryz.prog 58 #[.string (strOf b)] V fun e w'=>e= .returned (.tuple #[.int .i64 0,.int .i64 20])∧Fr [] V w' from by
  have:=nclass hV.wb.h.m.tab b hb;rw[hk]at this;exact this))
 generalize strOf b=s at*;have g0:=Lib.hid g;clear hb hk g;go_enter_defers Tryz.func52,Tryz.ntmps52;go_wp2_with fail;with_reducible refine HM.out.mono ?_
 rintro e w1 ⟨rfl,f1⟩;have K1:=Lib.hid (H0.out.fr0 f1);have F1:=Lib.hid (F0.out.trans f1.nil);have A1:=Lib.hid (A0.out.fr f1 (by simp));clear f1 HM H0 F0 A0;go_wp2_with fail;with_reducible refine(nsure_ok _ _).mono ?_
 rintro e w1' ⟨rfl,rfl⟩;go_wp2_with fail;with_reducible refine(HCl.out _ K1.out).mono ?_
 rintro e w5 ⟨rfl,f5⟩;have K5:=Lib.hid (K1.out.fr0 f5);have F5:=Lib.hid (F1.out.trans f5.nil);have A5:=Lib.hid (A1.out.fr f5 (by simp));clear f5 K1 F1 A1;have hcl:=A5.out.cell 0;have hfz:=A5.out.frozen 0;simp only[List.getElem?_toArray,List.getElem?_cons_zero]at hcl;go_wp2_with fail;with_reducible refine(nsure_no _ _).mono ?_
 rintro e w5' ⟨rfl,rfl⟩;simp only[];refine leaves_cons (f:=112) (args:= #[.pointer (some ⟨W.heap.size,0,none⟩)]) (by simp) (by simp[go_sem]) ?_;refine(ncaught _ _ _ _ _ hcl hfz).mono ?_;rintro e u' w'' ⟨rfl,rfl,rfl⟩;have hr:=(A5.out.set 0 (.int .i64 20)).cell 0;simp only[List.setIfInBounds_toArray,List.set_cons_zero,List.getElem?_toArray,List.getElem?_cons_zero]at hr;simp[Leaves,settle,results,Tryz.results52,go_sem,hr];exact⟨F5.out.setCell (.inr (Nat.le_refl _)) _,NI.re K5.out (WB.own g0.out.wb K5.out.wb 0 _) (fun y=>⟨rfl,rfl,rfl⟩) rfl rfl⟩
set_option maxRecDepth 100000 in
set_option maxHeartbeats 4000000 in
theorem nmake_kind(g:NI w0 q S L l u E B W)(hx:x<240)(hb:∀k∈b,k<256)(hk:labOk b=true):Calls Tryz.prog 52 #[.pointer (some ⟨q.m,0,none⟩),.int .i64 x,.int .i64 0,.string (strOf b)] W fun e w'=>e= .returned (.int .i64 30)∧Fr q.blocks W w'∧NI w0 q S L l u E B w':=by
 have H0:=Lib.hid (g.fr0 ((Fr.refl [] W).alloc (.cells #[.int .i64 0] 36)));have F0:=Lib.hid ((Fr.refl q.blocks W).alloc (.cells #[.int .i64 0] 36));have A0:=Lib.hid (Blk.new W 36 #[.int .i64 0]);have hlt:=g.wb.lt;have HNA:=Lib.hid (show W.heap.size∉q.blocks from fun hm=>by have:=hlt _ hm;omega);have HM:=Lib.hid (nmade H0.out.wb.h.m)
 have HCl:=Lib.hid (fun V (hV:NI w0 q S L l u E B V)=>(show Calls Tryz.prog 58 #[.string (strOf b)] V fun e w'=>e= .returned (.tuple #[.int .i64 (clsN (16+b.length)),.int .i64 0])∧Fr [] V w' from by
  have:=nclass hV.wb.h.m.tab b hb;rw[if_pos hk]at this;exact this))
 have HPa:=Lib.hid (fun V (hV:NI w0 q S L l u E B V)=>(show Calls Tryz.prog 118 #[.pointer (some ⟨q.m,0,none⟩),.int .i64 0] V fun e w'=>e= .returned (.bool true)∧IsH w' q u∧Fr q.blocks V w' from nparent0 hV.wb.h));have HBl:=Lib.hid (fun V (hV:NI w0 q S L l u E B V)=>nblank_no (c:=clsN (16+b.length)) hV.wb hx);generalize strOf b=s at*;generalize clsN (16+b.length)=cl at*;have g0:=Lib.hid g;clear hlt hb hk g hx;go_enter_defers Tryz.func52,Tryz.ntmps52;go_wp2_with fail;with_reducible refine HM.out.mono ?_
 rintro e w1 ⟨rfl,f1⟩;have K1:=Lib.hid (H0.out.fr0 f1);have F1:=Lib.hid (F0.out.trans f1.nil);have A1:=Lib.hid (A0.out.fr f1 (by simp));clear f1 HM H0 F0 A0;go_wp2_with fail;with_reducible refine(nsure_ok _ _).mono ?_
 rintro e w1' ⟨rfl,rfl⟩;go_wp2_with fail;with_reducible refine(HCl.out _ K1.out).mono ?_
 rintro e w2 ⟨rfl,f2⟩;have K2:=Lib.hid (K1.out.fr0 f2);have F2:=Lib.hid (F1.out.trans f2.nil);have A2:=Lib.hid (A1.out.fr f2 (by simp));clear f2 K1 F1 A1;go_wp2_with fail;with_reducible refine(nsure_ok _ _).mono ?_
 rintro e w2' ⟨rfl,rfl⟩;go_wp2_with fail;with_reducible refine(HPa.out _ K2.out).mono ?_
 rintro e w3 ⟨rfl,k3,f3⟩;have K3:=Lib.hid (K2.out.same k3 f3);have F3:=Lib.hid (F2.out.trans f3);have A3:=Lib.hid (A2.out.fr f3 HNA.out);clear k3 f3 K2 F2 A2;go_wp2_with fail;with_reducible refine(HBl.out _ K3.out).mono ?_
 rintro e w5 ⟨rfl,k5,f5⟩;have K5:=Lib.hid (K3.out.same k5 f5);have F5:=Lib.hid (F3.out.trans f5);have A5:=Lib.hid (A3.out.fr f5 HNA.out);clear k5 f5 K3 F3 A3;have hcl:=A5.out.cell 0;have hfz:=A5.out.frozen 0;simp only[List.getElem?_toArray,List.getElem?_cons_zero]at hcl;go_wp2_with fail;with_reducible refine(nsure_no _ _).mono ?_
 rintro e w5' ⟨rfl,rfl⟩;simp only[];refine leaves_cons (f:=112) (args:= #[.pointer (some ⟨W.heap.size,0,none⟩)]) (by simp) (by simp[go_sem]) ?_;refine(ncaught _ _ _ _ _ hcl hfz).mono ?_;rintro e u' w'' ⟨rfl,rfl,rfl⟩;have hr:=(A5.out.set 0 (.int .i64 30)).cell 0;simp only[List.setIfInBounds_toArray,List.set_cons_zero,List.getElem?_toArray,List.getElem?_cons_zero]at hr;simp[Leaves,settle,results,Tryz.results52,go_sem,hr];exact⟨F5.out.setCell (.inr (Nat.le_refl _)) _,NI.re K5.out (WB.own g0.out.wb K5.out.wb 0 _) (fun y=>⟨rfl,rfl,rfl⟩) rfl rfl⟩
end
section
variable {w0 w W W' : World} {q : MH} {u0 : TM} {l : List Nat} {par own : Nat → Nat} {nm : Nat → List (List Nat)} {fr x p a c e0 : Nat} {b : List Nat} {s : Value}
set_option maxRecDepth 100000 in
theorem cgrow_no(hm:Calls Tryz.prog 52 #[.pointer (some ⟨q.m,0,none⟩),.int .i64 8,.int .i64 0,s] W fun e w'=>e= .returned (.int .i64 e0)∧Fr q.blocks W w'∧CP w0 q u0 l par own nm fr w')(he:e0≠0):Calls Tryz.prog 17 #[.pointer (some ⟨q.m,0,none⟩),.int .i64 0,.int .i64 8,s] W fun e w'=>e= .returned (.int .i64 e0)∧Fr q.blocks W w'∧CP w0 q u0 l par own nm fr w':=by
 have b1:((e0:Int) !=0)=true:=by rw[bne_iff_ne];omega
 have b1':(e0 !=0)=true:=by rw[bne_iff_ne];exact he
 clear he;go_enter Tryz.func17,Tryz.ntmps17;go_wp2_with fail;with_reducible refine hm.mono ?_
 rintro e w1 ⟨rfl,f1,h1⟩;have F1:=Lib.hid f1;have H1:=Lib.hid h1;clear f1 h1 hm;go_wp2_with fail;go_ret;exact⟨rfl,F1.out,H1.out⟩
theorem cgrow_a(h:CP w0 q u0 l par own nm fr W):Calls Tryz.prog 17 #[.pointer (some ⟨q.m,0,none⟩),.int .i64 0,.int .i64 8,.string ⟨#[97]⟩] W fun e w'=>e= .returned (.int .i64 30)∧Fr q.blocks W w'∧CP w0 q u0 l par own nm fr w':=by
 obtain⟨refs,B,⟨S,L,u,E,B0,g,ha,hrt,r,hf⟩,h2⟩:=h;exact cgrow_no (e0:=30) ((nmake_kind (x:=8) (b:= [97]) g (by omega) (by decide) (by decide)).mono fun e w' ⟨h1,h3,h4⟩=>⟨h1,h3,refs,B,⟨S,L,u,E,B0,h4,ha,hrt,r,hf⟩,h2⟩) (by decide)
theorem cgrow_e(h:CP w0 q u0 l par own nm fr W):Calls Tryz.prog 17 #[.pointer (some ⟨q.m,0,none⟩),.int .i64 0,.int .i64 8,.string ⟨#[]⟩] W fun e w'=>e= .returned (.int .i64 20)∧Fr q.blocks W w'∧CP w0 q u0 l par own nm fr w':=by
 obtain⟨refs,B,⟨S,L,u,E,B0,g,ha,hrt,r,hf⟩,h2⟩:=h;exact cgrow_no (e0:=20) ((nmake_bad (x:=8) (p:=0) (b:= []) g (by decide) (by decide)).mono fun e w' ⟨h1,h3,h4⟩=>⟨h1,h3,refs,B,⟨S,L,u,E,B0,h4,ha,hrt,r,hf⟩,h2⟩) (by decide)
end
end Go.Proofs.YtjjkfcnlgmbbcaaGreatDoor
