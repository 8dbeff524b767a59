/- Several texts in one. -/
import Derived.Test.YtolhkhdbgnciiaaGreatDoorKB
namespace Go.Proofs.YtolhkhdbgnciiaaGreatDoor
open _root_.Go.Proofs.Tryz
open Go.Lib (hid)
open Go.IntWalk (i64_in)
set_option linter.unusedVariables false
set_option linter.unusedSimpArgs false
open Go.RowKit
set_option maxRecDepth 1000000
set_option maxHeartbeats 4000000
theorem ziq(w:World)(hM:TabM w)(a s:Nat)(hc:Cfg a s)(i:Nat)(hi:i<s):Calls prog 80 #[.agg #[.int .i64 a,.int .i64 s],.int .i64 i] w fun e w'=>e= .returned (.int .i64 (zaf a+4*i:Nat))∧Fr [] w w':=by
 obtain⟨c1,c2,c3,c4,c5⟩:=hc;have hc:Cfg a s:=⟨c1,c2,c3,c4,c5⟩;have hr:∀W,TabM W→Calls prog 72 #[.agg #[.int .i64 a,.int .i64 s]] W fun e w'=>e= .returned (.bool true)∧Fr [] W w':=fun W h=>zfk W h a s hc;have hs:∀W,Calls prog 169 #[.agg #[.int .i64 a,.int .i64 s]] W fun e w'=>e= .returned (.int .i64 (zaf a))∧Fr [] W w':=fun W=>zd8 W a s hc
 have hl:∀W,TabM W→Calls prog 168 #[.agg #[.int .i64 a,.int .i64 s],.int .i64 i,.int .i64 s,.int .i64 (zaf a),.int .i64 4] W fun e w'=>e= .returned (.int .i64 (zaf a+4*i:Nat))∧Fr [] W w':=fun W h=>by
  have:=zjx W h a s hc i s (zaf a) 4 hi (by unfold zaf;omega);refine this.mono fun e w' ⟨he,hf⟩=>⟨?_,hf⟩;rw[he];rw[show((zaf a+4*i:Nat):Int)=((zaf a:Nat):Int)+(i:Int)*((4:Nat):Int)by omega]
 have HM:=hid (fun V (hV:Fr [] w V)=>hM.fr hV (by simp));have B0:=hid (Blk.new w 66 #[.int .i64 a,.int .i64 s]);have F0:=hid ((Fr.refl [] w).alloc (.cells #[.int .i64 a,.int .i64 s] 66));have HS:=hid hs;have HL:=hid hl;have DC:=hid (fun V (hV:Fr [] (w.alloc (.cells #[.int .i64 a,.int .i64 s] 66)) V)=>And.intro (show V.cell? ⟨w.heap.size,0,none⟩=some (.int .i64 a)from(B0.out.fr hV (by simp)).cell 0) (show V.cell? ⟨w.heap.size,1,none⟩=some (.int .i64 s)from(B0.out.fr hV (by simp)).cell 1));generalize zaf a=z at*;generalize(z+4*i:Nat)=r at*;clear hM c1 c2 c3 c4 c5 hc hs hl;go_enter func80,ntmps80;go_wp2_with fail;with_reducible refine(hr _ (HM.out _ F0.out)).mono ?_
 rintro e w1 ⟨rfl,f1⟩;have F1:=hid f1;have hY:=DC.out _ f1.drew;clear f1;go_wp2_with fail;refine wp_region_held_drew (S:=fun W=>W.cell? ⟨w.heap.size,0,none⟩=some (.int .i64 a)∧W.cell? ⟨w.heap.size,1,none⟩=some (.int .i64 s)) (by kernel_rfl) (hY) (fun yH=> ?_);refine tkY 0 yH ?_;refine tkY 1 yH ?_;refine tkY 2 yH ?_;refine tkY 3 yH ?_;refine tkY 4 yH ?_;refine tkC 5 fun K hK=> ?_;go_simp;with_reducible refine(HS.out _).mono ?_
 rintro e w2 ⟨rfl,f2⟩;have F2:=hid (F1.out.drew.trans f2);have hY:=DC.out _ F2.out;clear f2;go_wp2_with fail;refine hK.out _ _ _ hY fun yH=> ?_;clear hK K;refine tkC 6 fun K hK=> ?_;go_simp;with_reducible refine(HL.out _ (HM.out _ (F0.out.trans F2.out))).mono ?_
 rintro e w3 ⟨rfl,f3⟩;have F3:=hid (F2.out.trans f3);have hY:=DC.out _ F3.out;clear f3;go_wp2_with fail;refine hK.out _ _ _ hY fun yH=> ?_;clear hK K;refine tkY 7 yH ?_;refine wpAnyH_done (by kernel_rfl) ?_ _;try simp only[Act.put,List.getElem_toArray,List.getElem_cons_zero,List.getElem_cons_succ,List.setIfInBounds_toArray,List.set_cons_zero,List.set_cons_succ]
 go_wp2_with fail;go_ret;exact⟨rfl,F0.out.trans F3.out⟩
section
variable {w : World} {q : MH} {t : TM}
def tbV(m n:Nat):Value:= .agg #[.pointer (some ⟨m,0,none⟩),.int .i64 n]
theorem iof(h:IsT w q t):Calls prog 78 #[.pointer (some ⟨q.m,0,none⟩)] w fun e w'=>e= .returned (tbV q.m t.s)∧Fr [] w w':=by
 have HC:=hid (fun W (hW:IsT W q t)=>tcfg hW);have hfd:∀w,(Instr.field 66 (.agg #[.int .i64 t.a,.int .i64 t.s]) 1).run prog w= .ok (.int .i64 t.s) w:=fun w=>by kernel_rfl
 have H0:=hid (h.alloc (.cells #[.pointer none,.int .i64 0] 136));have F0:=hid ((Fr.refl [] w).alloc (.cells #[.pointer none,.int .i64 0] 136));have B0:=hid (Blk.new w 136 #[.pointer none,.int .i64 0]);unfold tbV;generalize t.s=s at*;generalize t.a=a at*;clear h;go_enter func78,ntmps78;go_wp2_with fail;with_reducible refine(HC.out _ H0.out).mono ?_
 rintro e w1 ⟨rfl,f1⟩;have hB:=B0.out.fr f1 (by simp);have d0:=hB.cell 0;have d1:=hB.cell 1;have z0:=hB.frozen 0;have z1:=hB.frozen 1;simp only[List.getElem?_toArray,List.getElem?_cons_zero,List.getElem?_cons_succ]at d0 d1;have hb1:=hB.set 0 (.pointer (some ⟨q.m,0,none⟩));have hb2:=hb1.set 1 (.int .i64 s);have q0:=hb1.cell 0;have q1:=hb2.cell 0;have q2:=hb2.cell 1;simp at q0 q1 q2;have F1:=hid (((F0.out.trans f1).setCell (p:=⟨w.heap.size,0,none⟩) (.inr (Nat.le_refl _)) (.pointer (some ⟨q.m,0,none⟩))).setCell (p:=⟨w.heap.size,1,none⟩) (.inr (Nat.le_refl _)) (.int .i64 s));clear f1 hB hb1 hb2;go_wp2_with fail;refine bodyPost_ret (by simp[results,results78,go_sem,q0,q1,q2];try rfl) rfl ⟨rfl,F1.out⟩
theorem zgf(w:World)(m n i:Nat)(hn:0<n)(hi:i≤1048576):Calls prog 230 #[tbV m n,.int .i64 i] w fun e w'=>e= .returned (.int .i64 (i %n:Nat))∧Fr [] w w':=by
 have h1:Int.tmod (i:Int) (n:Int)=(i %n:Nat):=by rw[Int.ofNat_tmod]
 have h2:IntKind.i64.wrap ((i %n:Nat):Int)=(i %n:Nat):=i64_in _ (by have:=Nat.mod_le i n;omega);have h3:(n:Int)≠0:=by omega
 have h4:n≠0:=by omega
 generalize i %n=r at*;unfold tbV;go_enter func230,ntmps230;go_wp2_with fail;go_ret;exact⟨rfl,(Fr.refl _ _).alloc _⟩
theorem zk8(w:World)(x n:Nat)(hx:x<4294967296)(hn:0<n)(hn2:n≤1048576):Calls prog 251 #[.int .u32 x,.int .i64 n] w fun e w'=>e= .returned (.int .i64 (x %n:Nat))∧Fr [] w w':=by
 have h1:Int.tmod (x:Int) (n:Int)=(x %n:Nat):=by rw[Int.ofNat_tmod]
 have hm:x %n<n:=Nat.mod_lt _ hn;have h2:IntKind.i64.wrap ((x %n:Nat):Int)=(x %n:Nat):=i64_in _ (by omega);have h2':IntKind.u64.wrap ((x %n:Nat):Int)=(x %n:Nat):=IntWalk.u64_in _ (by omega);have h5:IntKind.u64.wrap (x:Int)=x:=IntWalk.u64_in _ (by omega);have h6:IntKind.u64.wrap (n:Int)=n:=IntWalk.u64_in _ (by omega);have h3:(n:Int)≠0:=by omega
 have h4:n≠0:=by omega
 have b1:decide ((n:Int)<1)=false:=by simp;omega
 have b2:decide (n<1)=false:=by simp;omega
 generalize x %n=r at*;go_enter func251,ntmps251;go_wp2_with fail;go_ret;exact⟨rfl,Fr.refl _ _⟩
theorem iget(h:IsT w q t)(i:Nat)(hi:i≤1048576)(hs:0<t.s):Calls prog 141 #[tbV q.m t.s,.int .i64 i] w fun e w'=>e= .returned (.int .i64 (t.sl (i %t.s)))∧IsT w' q t∧Fr q.blocks w w':=by
 have hm:i %t.s<t.s:=Nat.mod_lt _ hs;have ha:=zus h.ok (i %t.s) hm;have hv:=ha.lt;have HC:=hid (fun W (hW:IsT W q t)=>tcfg hW);have HR:=hid (fun W=>(show Calls prog 230 #[.agg #[.pointer (some ⟨q.m,0,none⟩),.int .i64 t.s],.int .i64 i] W fun e w'=>e= .returned (.int .i64 (i %t.s:Nat))∧Fr [] W w' from zgf W q.m t.s i hs hi));have HS:=hid (fun W (hW:IsT W q t)=>(show Calls prog 80 #[.agg #[.int .i64 t.a,.int .i64 t.s],.int .i64 (i %t.s:Nat)] W fun e w'=>e= .returned (.int .i64 (slAt t (i %t.s)))∧Fr [] W w' from ziq W hW.tab t.a t.s hW.ok.cfg _ hm));have HL:=hid (fun W (hW:IsT W q t)=>(show Calls prog 122 #[.pointer (some ⟨q.m,0,none⟩),.int .i64 (slAt t (i %t.s)),.int .i64 4,.int .i64 4] W fun e w'=>e= .returned (.int .u64 (t.sl (i %t.s)))∧IsT w' q t∧Fr q.blocks W w' from zjj hW ha));have H0:=hid (h.alloc (.cells #[.pointer (some ⟨q.m,0,none⟩),.int .i64 t.s] 136));have F0:=hid (((Fr.refl [] w).alloc (.cells #[.pointer (some ⟨q.m,0,none⟩),.int .i64 t.s] 136)).nil (S:=q.blocks));have B0:=hid (Blk.new w 136 #[.pointer (some ⟨q.m,0,none⟩),.int .i64 t.s]);have hlt:=h.lt;have nb:w.heap.size∉q.blocks:=fun hm=>by have:=hlt _ hm;omega
 have hw:IntKind.i64.wrap (t.sl (i %t.s):Int)=t.sl (i %t.s):=i64_in _ (by have:(256:Nat)^4=4294967296:=rfl;omega);have DC:=hid (fun V (hV:Fr q.blocks (w.alloc (.cells #[.pointer (some ⟨q.m,0,none⟩),.int .i64 t.s] 136)) V)=>And.intro (show V.cell? ⟨w.heap.size,0,none⟩=some (.pointer (some ⟨q.m,0,none⟩))from(B0.out.fr hV nb).cell 0) (show V.cell? ⟨w.heap.size,1,none⟩=some (.int .i64 t.s)from(B0.out.fr hV nb).cell 1));unfold tbV;generalize t.sl (i %t.s)=v at*;generalize slAt t (i %t.s)=z at*;generalize i %t.s=r at*;generalize t.s=s at*;generalize t.a=a at*;clear h ha hv hlt hm hs;have H0d:=hid H0.out.drew;have hY:=DC.out _ (Fr.refl _ _).drew;go_enter func141,ntmps141;go_wp2_with fail;refine wp_region_held_drew (S:=fun W=>W.cell? ⟨w.heap.size,0,none⟩=some (.pointer (some ⟨q.m,0,none⟩))∧W.cell? ⟨w.heap.size,1,none⟩=some (.int .i64 s)) (by kernel_rfl) (hY) (fun yH=> ?_);refine tkY 0 yH ?_;refine tkY 1 yH ?_;refine tkY 2 yH ?_;refine tkY 3 yH ?_;refine tkY 5 yH ?_;refine tkY 6 yH ?_;refine tkC 4 fun K hK=> ?_;go_simp;with_reducible refine(HC.out _ H0d.out).mono ?_
 rintro e w1 ⟨rfl,f1⟩;have H1:=hid (H0d.out.fr0 f1);have F1:=hid ((Fr.refl q.blocks _).drew.trans f1.nil);have hY:=DC.out _ F1.out;clear f1;go_wp2_with fail;refine hK.out _ _ _ hY fun yH=> ?_;clear hK K;refine tkC 7 fun K hK=> ?_;go_simp;with_reducible refine(HR.out _).mono ?_
 rintro e w2 ⟨rfl,f2⟩;have H2:=hid (H1.out.fr0 f2);have F2:=hid (F1.out.trans f2.nil);have hY:=DC.out _ F2.out;clear f2;go_wp2_with fail;refine hK.out _ _ _ hY fun yH=> ?_;clear hK K;refine tkC 8 fun K hK=> ?_;go_simp;with_reducible refine(HS.out _ H2.out).mono ?_
 rintro e w3 ⟨rfl,f3⟩;have H3:=hid (H2.out.fr0 f3);have F3:=hid (F2.out.trans f3.nil);have hY:=DC.out _ F3.out;clear f3;go_wp2_with fail;refine hK.out _ _ _ hY fun yH=> ?_;clear hK K;refine tkC 9 fun K hK=> ?_;go_simp;with_reducible refine(HL.out _ H3.out).mono ?_
 rintro e w4 ⟨rfl,h4,f4⟩;have H4:=hid h4;have F4:=hid (F3.out.trans f4);have hY:=DC.out _ F4.out;clear h4 f4;go_wp2_with fail;refine hK.out _ _ _ hY fun yH=> ?_;clear hK K;refine tkY 10 yH ?_;refine tkY 11 yH ?_;refine wpAnyH_done (by kernel_rfl) ?_ _;try simp only[Act.put,List.getElem_toArray,List.getElem_cons_zero,List.getElem_cons_succ,List.setIfInBounds_toArray,List.set_cons_zero,List.set_cons_succ]
 go_wp2_with fail;go_ret;exact⟨rfl,H4.out,F0.out.trans F4.out⟩
theorem iput(h:IsT w q t)(i x:Nat)(hi:i≤1048576)(hs:0<t.s)(hx:x<4294967296):Calls prog 143 #[tbV q.m t.s,.int .i64 i,.int .i64 x] w fun e w'=>e= .returned (.tuple #[])∧IsT w' q (t.setSl (i %t.s) x)∧Fr q.blocks w w':=by
 have hm:i %t.s<t.s:=Nat.mod_lt _ hs;have ha:=zus h.ok (i %t.s) hm;have hv:=ha.lt;have HC:=hid (fun W (hW:IsT W q t)=>tcfg hW);have HR:=hid (fun W=>(show Calls prog 230 #[.agg #[.pointer (some ⟨q.m,0,none⟩),.int .i64 t.s],.int .i64 i] W fun e w'=>e= .returned (.int .i64 (i %t.s:Nat))∧Fr [] W w' from zgf W q.m t.s i hs hi));have HS:=hid (fun W (hW:IsT W q t)=>(show Calls prog 80 #[.agg #[.int .i64 t.a,.int .i64 t.s],.int .i64 (i %t.s:Nat)] W fun e w'=>e= .returned (.int .i64 (slAt t (i %t.s)))∧Fr [] W w' from ziq W hW.tab t.a t.s hW.ok.cfg _ hm));have HL:=hid (fun W (hW:IsT W q t)=>(show Calls prog 170 #[.pointer (some ⟨q.m,0,none⟩),.int .i64 (slAt t (i %t.s)),.int .i64 4,.int .i64 4,.int .u64 x] W fun e w'=>e= .returned (.bool true)∧IsT w' q (t.setSl (i %t.s) x)∧Fr q.blocks W w' from zkd hW ha hx (zso hW.ok _ _ hx) (zmp hW.ok _ _ hm hx)));have H0:=hid (h.alloc (.cells #[.pointer (some ⟨q.m,0,none⟩),.int .i64 t.s] 136));have F0:=hid (((Fr.refl [] w).alloc (.cells #[.pointer (some ⟨q.m,0,none⟩),.int .i64 t.s] 136)).nil (S:=q.blocks));have B0:=hid (Blk.new w 136 #[.pointer (some ⟨q.m,0,none⟩),.int .i64 t.s]);have hlt:=h.lt;have nb:w.heap.size∉q.blocks:=fun hm=>by have:=hlt _ hm;omega
 have hw:IntKind.u64.wrap (x:Int)=x:=IntWalk.u64_in _ (by omega);have DC:=hid (fun V (hV:Fr q.blocks (w.alloc (.cells #[.pointer (some ⟨q.m,0,none⟩),.int .i64 t.s] 136)) V)=>And.intro (show V.cell? ⟨w.heap.size,0,none⟩=some (.pointer (some ⟨q.m,0,none⟩))from(B0.out.fr hV nb).cell 0) (show V.cell? ⟨w.heap.size,1,none⟩=some (.int .i64 t.s)from(B0.out.fr hV nb).cell 1));unfold tbV;generalize hU:t.setSl (i %t.s) x=U at*;generalize slAt t (i %t.s)=z at*;generalize i %t.s=r at*;generalize t.s=s at*;generalize t.a=a at*;clear h ha hv hlt hm hs hU;have H0d:=hid H0.out.drew;have hY:=DC.out _ (Fr.refl _ _).drew;go_enter func143,ntmps143;go_wp2_with fail;refine wp_region_held_drew (S:=fun W=>W.cell? ⟨w.heap.size,0,none⟩=some (.pointer (some ⟨q.m,0,none⟩))∧W.cell? ⟨w.heap.size,1,none⟩=some (.int .i64 s)) (by kernel_rfl) (hY) (fun yH=> ?_);refine tkY 0 yH ?_;refine tkY 1 yH ?_;refine tkY 2 yH ?_;refine tkY 3 yH ?_;refine tkY 5 yH ?_;refine tkY 6 yH ?_;refine tkY 9 yH ?_;refine tkY 10 yH ?_;refine tkC 4 fun K hK=> ?_;go_simp;with_reducible refine(HC.out _ H0d.out).mono ?_
 rintro e w1 ⟨rfl,f1⟩;have H1:=hid (H0d.out.fr0 f1);have F1:=hid ((Fr.refl q.blocks _).drew.trans f1.nil);have hY:=DC.out _ F1.out;clear f1;go_wp2_with fail;refine hK.out _ _ _ hY fun yH=> ?_;clear hK K;refine tkC 7 fun K hK=> ?_;go_simp;with_reducible refine(HR.out _).mono ?_
 rintro e w2 ⟨rfl,f2⟩;have H2:=hid (H1.out.fr0 f2);have F2:=hid (F1.out.trans f2.nil);have hY:=DC.out _ F2.out;clear f2;go_wp2_with fail;refine hK.out _ _ _ hY fun yH=> ?_;clear hK K;refine tkC 8 fun K hK=> ?_;go_simp;with_reducible refine(HS.out _ H2.out).mono ?_
 rintro e w3 ⟨rfl,f3⟩;have H3:=hid (H2.out.fr0 f3);have F3:=hid (F2.out.trans f3.nil);have hY:=DC.out _ F3.out;clear f3;go_wp2_with fail;refine hK.out _ _ _ hY fun yH=> ?_;clear hK K;refine tkC 11 fun K hK=> ?_;go_simp;with_reducible refine(HL.out _ H3.out).mono ?_
 rintro e w4 ⟨rfl,h4,f4⟩;have H4:=hid h4;have F4:=hid (F3.out.trans f4);have hY:=DC.out _ F4.out;clear h4 f4;go_wp2_with fail;refine hK.out _ _ _ hY fun yH=> ?_;clear hK K;refine wpAnyH_done (by kernel_rfl) ?_ _;try simp only[Act.put,List.getElem_toArray,List.getElem_cons_zero,List.getElem_cons_succ,List.setIfInBounds_toArray,List.set_cons_zero,List.set_cons_succ]
 go_wp2_with fail;go_end0;exact⟨rfl,H4.out,F0.out.trans F4.out⟩
end
structure BlkE(t:TM)(x:Nat)(X:HB):Prop where
 h:HeadTo t x X.tag.toNat 5 X.num 12
 ok:X.Ok
 r:X.right=true
 tg:X.tag=1∨X.tag=2
section
variable {w : World} {q : MH} {t : TM} {x : Nat} {X : HB}
theorem BlkE.n0(h:BlkE t x X):X.num 0=X.tag.toNat:=by
 show X.nums[0]?.getD 0=_;unfold HB.nums;rcases h.tg with e|e<;>rw[e] <;>rfl
theorem BlkE.lies(h:BlkE t x X):Lies X.tag.toNat 5 X.num:= .inl ⟨rfl,h.n0⟩
theorem BlkE.hash(h:BlkE t x X):hvN X.tag.toNat X.num 10=X.hash:=by
 unfold hvN;rcases h.tg with e|e<;>rw[e,if_neg (by decide)] <;>rfl
theorem BlkE.pos(h:BlkE t x X)(hok:t.Ok):240≤x∧x<1048576:=by
 have h1:=h.h.base;have h2:=h.h.fit;have hc:=zak hok.cfg;obtain⟨c1,c2,c3,c4,c5⟩:=hok.cfg;have hs:=zec X.tag.toNat (by rcases h.tg with e|e<;>rw[e] <;>decide)
 have:zae t.a t.s≤1048576:=by
  have:=(zbc hok 0 (by omega)).2.2.2.2;exact this
 omega
theorem zxc(h:IsH w q t)(n:Nat)(hx:BlkE t x X):Calls prog 228 #[tbV q.m n,.int .i64 x] w fun e w'=>e= .returned (.int .u32 X.hash)∧IsH w' q t∧Fr q.blocks w w':=by
 have HL:=hid (fun W (hW:IsH W q t)=>(show Calls prog 199 #[.pointer (some ⟨q.m,0,none⟩),.int .i64 x,.int .i64 10] W fun e w'=>e= .returned (.int .u64 X.hash)∧IsH w' q t∧Fr q.blocks W w' from by
  have:=zoc hW hx.h hx.lies 10;rw[hx.hash]at this;exact this))
 have hh:=hx.ok.hash;have hw:IntKind.u32.wrap (X.hash:Int)=X.hash:=IntWalk.u32_in _ (by omega);have H0:=hid (h.alloc (.cells #[.pointer (some ⟨q.m,0,none⟩),.int .i64 n] 136));have F0:=hid (((Fr.refl [] w).alloc (.cells #[.pointer (some ⟨q.m,0,none⟩),.int .i64 n] 136)).nil (S:=q.blocks));unfold tbV;generalize X.hash=v at*;clear h hx hh;go_enter func228,ntmps228;go_wp2_with fail;with_reducible refine(HL.out _ H0.out).mono ?_
 rintro e w1 ⟨rfl,h1,f1⟩;have H1:=hid h1;have F1:=hid (F0.out.trans f1);clear h1 f1;go_wp2_with fail;go_ret;exact⟨rfl,H1.out,F1.out⟩
theorem zyu(h:IsH w q t)(hs:0<t.s)(hs2:t.s≤1048576)(hx:BlkE t x X):Calls prog 180 #[tbV q.m t.s,.int .i64 x] w fun e w'=>e= .returned (.int .i64 (X.hash %t.s:Nat))∧IsH w' q t∧Fr q.blocks w w':=by
 have HH:=hid (fun W (hW:IsH W q t)=>(show Calls prog 228 #[.agg #[.pointer (some ⟨q.m,0,none⟩),.int .i64 t.s],.int .i64 x] W fun e w'=>e= .returned (.int .u32 X.hash)∧IsH w' q t∧Fr q.blocks W w' from zxc hW t.s hx));have HM:=hid (fun W=>zk8 W X.hash t.s hx.ok.hash hs hs2);have H0:=hid (h.alloc (.cells #[.pointer (some ⟨q.m,0,none⟩),.int .i64 t.s] 136)).drew;have F0:=hid (((Fr.refl [] w).alloc (.cells #[.pointer (some ⟨q.m,0,none⟩),.int .i64 t.s] 136)).nil (S:=q.blocks));have B0:=hid (Blk.new w 136 #[.pointer (some ⟨q.m,0,none⟩),.int .i64 t.s]);have hlt:=h.m.lt;have nb:w.heap.size∉q.blocks:=fun hm=>by have:=hlt _ hm;omega
 have DC:=hid (fun V (hV:Fr q.blocks (w.alloc (.cells #[.pointer (some ⟨q.m,0,none⟩),.int .i64 t.s] 136)) V)=>And.intro (show V.cell? ⟨w.heap.size,0,none⟩=some (.pointer (some ⟨q.m,0,none⟩))from(B0.out.fr hV nb).cell 0) (show V.cell? ⟨w.heap.size,1,none⟩=some (.int .i64 t.s)from(B0.out.fr hV nb).cell 1));unfold tbV;generalize X.hash %t.s=v at*;generalize X.hash=hs0 at*;generalize t.s=s at*;clear h hx hlt hs hs2;have hY:=DC.out _ (Fr.refl _ _).drew;go_enter func180,ntmps180;go_wp2_with fail;refine wp_region_held_drew (S:=fun W=>W.cell? ⟨w.heap.size,0,none⟩=some (.pointer (some ⟨q.m,0,none⟩))∧W.cell? ⟨w.heap.size,1,none⟩=some (.int .i64 s)) (by kernel_rfl) (hY) (fun yH=> ?_);refine tkY 0 yH ?_;refine tkY 1 yH ?_;refine tkY 3 yH ?_;refine tkY 4 yH ?_;refine tkC 2 fun K hK=> ?_;go_simp;with_reducible refine(HH.out _ H0.out).mono ?_
 rintro e w1 ⟨rfl,h1,f1⟩;have H1:=hid h1;have F1:=hid ((Fr.refl q.blocks _).drew.trans f1);have hY:=DC.out _ F1.out;clear h1 f1;go_wp2_with fail;refine hK.out _ _ _ hY fun yH=> ?_;clear hK K;refine tkC 5 fun K hK=> ?_;go_simp;with_reducible refine(HM.out _).mono ?_
 rintro e w2 ⟨rfl,f2⟩;have H2:=hid (H1.out.fr0 f2);have F2:=hid (F1.out.trans f2.nil);have hY:=DC.out _ F2.out;clear f2;go_wp2_with fail;refine hK.out _ _ _ hY fun yH=> ?_;clear hK K;refine tkY 6 yH ?_;refine wpAnyH_done (by kernel_rfl) ?_ _;try simp only[Act.put,List.getElem_toArray,List.getElem_cons_zero,List.getElem_cons_succ,List.setIfInBounds_toArray,List.set_cons_zero,List.set_cons_succ]
 go_wp2_with fail;go_ret;exact⟨rfl,H2.out,F0.out.trans F2.out⟩
end
def farT(T H:Nat→Nat)(n i:Nat):Nat:=if i %n<H (T (i %n))then i %n+n-H (T (i %n))else i %n-H (T (i %n))
structure IxI(t:TM)(L:Nat→Prop)(E:Nat→HB):Prop where
 e: ∀x,L x→BlkE t x (E x)
 sl: ∀i,i<t.s→t.sl i=0∨L (t.sl i)
 s0:0<t.s
 s1:t.s≤32768
def hmE(t:TM)(E:Nat→HB)(x:Nat):Nat:=(E x).hash %t.s
section
variable {w : World} {q : MH} {t : TM} {L : Nat → Prop} {E : Nat → HB}
theorem ifar(h:IsH w q t)(g:IxI t L E)(i:Nat)(hi:i≤1048576)(h0:t.sl (i %t.s)≠0):Calls prog 142 #[tbV q.m t.s,.int .i64 i] w fun e w'=>e= .returned (.int .i64 (farT t.sl (hmE t E) t.s i))∧IsH w' q t∧Fr q.blocks w w':=by
 have hs:=g.s0;have hs1:=g.s1;have hr:i %t.s<t.s:=Nat.mod_lt _ hs;have hrr:i %t.s %t.s=i %t.s:=Nat.mod_eq_of_lt hr;have hL:=(g.sl _ hr).resolve_left h0;have HR:=hid (fun W=>(show Calls prog 230 #[.agg #[.pointer (some ⟨q.m,0,none⟩),.int .i64 t.s],.int .i64 i] W fun e w'=>e= .returned (.int .i64 (i %t.s:Nat))∧Fr [] W w' from zgf W q.m t.s i hs hi))
 have HG:=hid (fun W (hW:IsH W q t)=>(show Calls prog 141 #[.agg #[.pointer (some ⟨q.m,0,none⟩),.int .i64 t.s],.int .i64 (i %t.s:Nat)] W fun e w'=>e= .returned (.int .i64 (t.sl (i %t.s)))∧IsH w' q t∧Fr q.blocks W w' from by
  have:=iget hW.m (i %t.s) (by omega) hs;rw[hrr]at this;exact this.mono fun e w' ⟨he,k1,k2⟩=>⟨he,hW.step k1 k2,k2⟩))
 have HH:=hid (fun W (hW:IsH W q t)=>(show Calls prog 180 #[.agg #[.pointer (some ⟨q.m,0,none⟩),.int .i64 t.s],.int .i64 (t.sl (i %t.s))] W fun e w'=>e= .returned (.int .i64 (hmE t E (t.sl (i %t.s)):Nat))∧IsH w' q t∧Fr q.blocks W w' from zyu hW hs (by omega) (g.e _ hL)));have hml:hmE t E (t.sl (i %t.s))<t.s:=Nat.mod_lt _ hs;have H0:=hid (h.alloc (.cells #[.pointer (some ⟨q.m,0,none⟩),.int .i64 t.s] 136));have F0:=hid (((Fr.refl [] w).alloc (.cells #[.pointer (some ⟨q.m,0,none⟩),.int .i64 t.s] 136)).nil (S:=q.blocks));have B0:=hid (Blk.new w 136 #[.pointer (some ⟨q.m,0,none⟩),.int .i64 t.s]);have hlt:=h.m.lt;have nb:w.heap.size∉q.blocks:=fun hm=>by have:=hlt _ hm;omega
 have DC:=hid (fun V (hV:Fr q.blocks (w.alloc (.cells #[.pointer (some ⟨q.m,0,none⟩),.int .i64 t.s] 136)) V)=>And.intro (show V.cell? ⟨w.heap.size,0,none⟩=some (.pointer (some ⟨q.m,0,none⟩))from(B0.out.fr hV nb).cell 0) (show V.cell? ⟨w.heap.size,1,none⟩=some (.int .i64 t.s)from(B0.out.fr hV nb).cell 1));unfold tbV farT;generalize hmE t E (t.sl (i %t.s))=hm at*;generalize t.sl (i %t.s)=v at*;generalize i %t.s=r at*;generalize t.s=s at*;clear h hL hlt hs g hrr;go_enter func142,ntmps142;go_wp2_with fail;with_reducible refine(HR.out _).mono ?_
 rintro e w1 ⟨rfl,f1⟩;have H1:=hid (H0.out.fr0 f1);have F1:=hid (f1.nil (S:=q.blocks));have H1d:=hid (H1.out.fr0 (Fr.refl [] w1).drew);have hY:=DC.out _ F1.out.drew;clear f1;go_wp2_with fail;refine wp_region_held_drew (S:=fun W=>W.cell? ⟨w.heap.size,0,none⟩=some (.pointer (some ⟨q.m,0,none⟩))∧W.cell? ⟨w.heap.size,1,none⟩=some (.int .i64 s)) (by kernel_rfl) (hY) (fun yH=> ?_);refine tkY 0 yH ?_;refine tkY 1 yH ?_;refine tkY 2 yH ?_;refine tkC 3 fun K hK=> ?_;go_simp;with_reducible refine(HG.out _ H1d.out).mono ?_
 rintro e w2 ⟨rfl,h2,f2⟩;have H2:=hid h2;have F2:=hid (F1.out.drew.trans f2);have hY:=DC.out _ F2.out;clear h2 f2;go_wp2_with fail;refine hK.out _ _ _ hY fun yH=> ?_;clear hK K;refine tkC 4 fun K hK=> ?_;go_simp;with_reducible refine(HH.out _ H2.out).mono ?_
 rintro e w3 ⟨rfl,h3,f3⟩;have H3:=hid h3;have F3:=hid (F2.out.trans f3);have hY:=DC.out _ F3.out;clear h3 f3;go_wp2_with fail;refine hK.out _ _ _ hY fun yH=> ?_;clear hK K;refine tkY 5 yH ?_;refine wpAnyH_done (by kernel_rfl) ?_ _;try simp only[Act.put,List.getElem_toArray,List.getElem_cons_zero,List.getElem_cons_succ,List.setIfInBounds_toArray,List.set_cons_zero,List.set_cons_succ]
 have d1:=hY.2;by_cases hlt:r<hm
 ·have b1':decide (r<hm)=true:=by simp;omega
  have w1:=i64_in ((r:Int)+s) (by omega);have w2:IntKind.i64.wrap ((r:Int)+s-hm)=(r+s-hm:Nat):=by rw[i64_in _ (by omega)];omega
  go_wp2_with fail;go_ret;exact⟨by first|rfl|(rw[if_pos hlt];rfl)|(rw[if_pos hlt]),H3.out,F0.out.trans F3.out⟩
 ·have b1':decide (r<hm)=false:=by simp;omega
  have w2:IntKind.i64.wrap ((r:Int)-hm)=(r-hm:Nat):=by rw[i64_in _ (by omega)];omega
  go_wp2_with fail;go_ret;exact⟨by first|rfl|(rw[if_neg hlt];rfl)|(rw[if_neg hlt]),H3.out,F0.out.trans F3.out⟩
end
def endB(T H:Nat→Nat)(n i k:Nat):Bool:=if T (i %n)=0 then true else decide (farT T H n i<k)
section
variable {w : World} {q : MH} {t : TM} {x : Nat} {X : HB} {L : Nat → Prop} {E : Nat → HB}
theorem zj6(h:IsH w q t)(g:IxI t L E)(i k:Nat)(hi:i≤1048576):Calls prog 182 #[tbV q.m t.s,.int .i64 i,.int .i64 k] w fun e w'=>e= .returned (.bool (endB t.sl (hmE t E) t.s i k))∧IsH w' q t∧Fr q.blocks w w':=by
 have HG:=hid (fun W (hW:IsH W q t)=>(show Calls prog 141 #[.agg #[.pointer (some ⟨q.m,0,none⟩),.int .i64 t.s],.int .i64 i] W fun e w'=>e= .returned (.int .i64 (t.sl (i %t.s)))∧IsH w' q t∧Fr q.blocks W w' from
  (iget hW.m i hi g.s0).mono fun e w' ⟨he,k1,k2⟩=>⟨he,hW.step k1 k2,k2⟩))
 have HF:=hid (fun W (hW:IsH W q t) (h0:t.sl (i %t.s)≠0)=>(show Calls prog 142 #[.agg #[.pointer (some ⟨q.m,0,none⟩),.int .i64 t.s],.int .i64 i] W fun e w'=>e= .returned (.int .i64 (farT t.sl (hmE t E) t.s i))∧IsH w' q t∧Fr q.blocks W w' from ifar hW g i hi h0));have H0:=hid (h.alloc (.cells #[.pointer (some ⟨q.m,0,none⟩),.int .i64 t.s] 136));have F0:=hid (((Fr.refl [] w).alloc (.cells #[.pointer (some ⟨q.m,0,none⟩),.int .i64 t.s] 136)).nil (S:=q.blocks));have B0:=hid (Blk.new w 136 #[.pointer (some ⟨q.m,0,none⟩),.int .i64 t.s]);have hlt:=h.m.lt;have nb:w.heap.size∉q.blocks:=fun hm=>by have:=hlt _ hm;omega
 unfold tbV endB;generalize farT t.sl (hmE t E) t.s i=f at*;generalize t.sl (i %t.s)=v at*;generalize t.s=s at*;clear h hlt g;by_cases hv:v=0
 ·subst hv
  have b0:(((0:Nat):Int)==0)=true:=rfl;go_enter func182,ntmps182;go_wp2_with fail;with_reducible refine(HG.out _ H0.out).mono ?_
  rintro e w1 ⟨rfl,h1,f1⟩;have H1:=hid h1;have F1:=hid (F0.out.trans f1);clear h1 f1 HF;go_wp2_with fail;go_ret;exact⟨by first|rfl|(rw[if_pos rfl];rfl),H1.out,F1.out⟩
 ·have b0:((v:Int)==0)=false:=by rw[beq_eq_false_iff_ne];omega
  have b0':(v==0)=false:=by rw[beq_eq_false_iff_ne];omega
  have HF:=hid (fun W hW=>HF.out W hW hv);obtain⟨c,hc⟩:∃c:Bool,decide (f<k)=c:=⟨_,rfl⟩;have hc':decide ((f:Int)<k)=c:=by rw[←hc];exact decide_eq_decide.2 (by omega)
  have HR:=hid (show(if v=0 then true else decide (f<k))=c from by rw[if_neg hv,hc]);go_enter func182,ntmps182;go_wp2_with fail;with_reducible refine(HG.out _ H0.out).mono ?_
  rintro e w1 ⟨rfl,h1,f1⟩;have H1:=hid h1;have F1:=hid (F0.out.trans f1);have hb:=B0.out.fr f1 nb;have d0:=hb.cell 0;have d1:=hb.cell 1;simp only[List.getElem?_toArray,List.getElem?_cons_zero,List.getElem?_cons_succ]at d0 d1;clear h1 f1 hb;go_wp2_with fail;with_reducible refine(HF.out _ H1.out).mono ?_
  rintro e w2 ⟨rfl,h2,f2⟩;have H2:=hid h2;have F2:=hid (F1.out.trans f2);clear h2 f2;rcases c with _|_
  all_goals
   go_wp2_with fail;go_ret;exact⟨by first|(rw[HR.out];rfl)|(rw[HR.out])|rfl,H2.out,F2.out⟩
def gapS(T:Nat→Nat)(n a:Nat):Nat→Nat→Option Nat
 |0,_=>none
 |f+1,k=>if T ((a+k) %n)=0 then some k else gapS T n a f (k+1)
def gapT(T:Nat→Nat)(n a:Nat):Option Nat:=gapS T n a n 0
def optZ:Option Nat→Int
 |none=> -1
 |some i=>i
theorem igap(h:IsH w q t)(g:IxI t L E)(a:Nat)(ha:a≤131072):Calls prog 181 #[tbV q.m t.s,.int .i64 a] w fun e w'=>e= .returned (.int .i64 (optZ (gapT t.sl t.s a)))∧IsH w' q t∧Fr q.blocks w w':=by
 have hs1:=g.s1
 have HG:=hid (fun W k (hk:k<t.s) (hW:IsH W q t)=>(show Calls prog 141 #[.agg #[.pointer (some ⟨q.m,0,none⟩),.int .i64 t.s],.int .i64 (a+k:Nat)] W fun e w'=>e= .returned (.int .i64 (t.sl ((a+k) %t.s)))∧IsH w' q t∧Fr q.blocks W w' from
  (iget hW.m (a+k) (by omega) g.s0).mono fun e w' ⟨he,k1,k2⟩=>⟨he,hW.step k1 k2,k2⟩))
 have H0:=hid (h.alloc (.cells #[.pointer (some ⟨q.m,0,none⟩),.int .i64 t.s] 136));have F0:=hid (((Fr.refl [] w).alloc (.cells #[.pointer (some ⟨q.m,0,none⟩),.int .i64 t.s] 136)).nil (S:=q.blocks));have B0:=hid (Blk.new w 136 #[.pointer (some ⟨q.m,0,none⟩),.int .i64 t.s]);have hlt:=h.m.lt;have nb:w.heap.size∉q.blocks:=fun hm=>by have:=hlt _ hm;omega
 have DC:=hid (fun V (hV:Fr q.blocks (w.alloc (.cells #[.pointer (some ⟨q.m,0,none⟩),.int .i64 t.s] 136)) V)=>And.intro (show V.cell? ⟨w.heap.size,0,none⟩=some (.pointer (some ⟨q.m,0,none⟩))from(B0.out.fr hV nb).cell 0) (show V.cell? ⟨w.heap.size,1,none⟩=some (.int .i64 t.s)from(B0.out.fr hV nb).cell 1));obtain⟨R,hR⟩:∃R,gapT t.sl t.s a=R:=⟨_,rfl⟩;rw[hR];have HR:=hid (show gapS t.sl t.s a (t.s-0) 0=R from hR)
 have HUN:=hid (show∀k,k<t.s→gapS t.sl t.s a (t.s-k) k=if t.sl ((a+k) %t.s)=0 then some k else gapS t.sl t.s a (t.s-(k+1)) (k+1)from fun k hk=>by
  rw[show t.s-k=(t.s-(k+1))+1 by omega,gapS])
 have HZ:=hid (show gapS t.sl t.s a (t.s-t.s) t.s=none from by rw[Nat.sub_self];rfl);have HQ:=hid (show∀k,(gapS t.sl t.s a (t.s-k) k=R)=(gapS t.sl t.s a (t.s-k) k=R)from fun _=>rfl);generalize hsl:t.sl=T at*;generalize t.s=s at*;unfold tbV;clear h hlt g hR hsl;go_enter func181,ntmps181;go_wp2_with fail;go_loopw [8] (fun v W=>∃k:Nat,k≤s∧v= .int .i64 k∧Hid (gapS T s a (s-k) k=R)∧Hid (IsH W q t)∧Hid (Fr q.blocks (w.alloc (.cells #[.pointer (some ⟨q.m,0,none⟩),.int .i64 s] 136)) W)) (fun v _=>s-(intOf v).toNat);case atStart=>exact⟨0,by omega,rfl,HR,H0,hid (Fr.refl _ _)⟩
 case round=>
  clear HR;obtain⟨k,hk,rfl,hR,hI,hF⟩:=hrel;have d0:=(DC.out _ hF.out).1;have d1:=(DC.out _ hF.out).2;by_cases hlt:k<s
  ·have b1':decide (k<s)=true:=by simp;omega
   have w1:IntKind.i64.wrap ((a:Int)+k)=(a+k:Nat):=by rw[i64_in _ (by omega)];omega
   have w3:=i64_in ((k:Int)+1) (by omega);have hg:=HG.out _ k hlt hI.out;have hu:=HUN.out k hlt;rw[hR.out]at hu;generalize T ((a+k) %s)=v at*;generalize a+k=ak at*;have HU:=hid hu;clear hu;go_wp2_with fail;with_reducible refine hg.mono ?_
   rintro e w1 ⟨rfl,h1,f1⟩;have H1:=hid h1;have F1:=hid (hF.out.trans f1);clear h1 f1 hg;by_cases hv:v=0
   ·subst hv
    have b2:(((0:Nat):Int)==0)=true:=rfl;have hRR:=HU.out;rw[if_pos rfl]at hRR;have HRR:=hid (show(k:Int)=optZ R from by rw[hRR];rfl);clear hRR HU;go_wp2_with fail;go_ret;exact⟨by rw[←HRR.out];rfl,H1.out,F0.out.trans F1.out⟩
   ·have b2:((v:Int)==0)=false:=by rw[beq_eq_false_iff_ne];omega
    have b2':(v==0)=false:=by rw[beq_eq_false_iff_ne];omega
    have HN:=hid (show gapS T s a (s-(k+1)) (k+1)=R from by have:=HU.out;rw[if_neg hv]at this;exact this.symm);go_wp2_with fail;go_roundw;case rel=>exact⟨k+1,by omega,by go_num,HN,H1,F1⟩
    case measure=>simp[intOf];omega
  ·obtain rfl:k=s:=by omega
   have b1':decide (k<k)=false:=by simp
   have HRR:=hid (show(-1:Int)=optZ R from by have:=hR.out;rw[HZ.out]at this;rw[←this];rfl);clear hlt;go_wp2_with fail;go_ret;exact⟨by rw[←HRR.out];rfl,hI.out,F0.out.trans hF.out⟩
theorem ztr(h:IsH w q t)(n:Nat)(hn:0<n)(hx:BlkE t x X):Calls prog 139 #[tbV q.m n,.int .i64 x] w fun e w'=>e= .returned (.int .i64 0)∧IsH w' q t∧Fr q.blocks w w':=by
 have HG:=hid (fun W (hW:IsH W q t)=>(show Calls prog 117 #[.pointer (some ⟨q.m,0,none⟩),.int .i64 x] W fun e w'=>e= .returned (.tuple #[.agg #[.int .i64 X.tag,.int .i64 X.cls,.bool X.used,.int .i64 X.label,.int .u32 X.name,.int .u32 X.next,.int .u32 X.prev,.int .u32 X.refs,.int .u64 X.expiry,.int .u16 X.typ,.int .i64 X.size,.int .u32 X.hash],.int .i64 0])∧IsH w' q t∧Fr q.blocks W w' from
  hget W q t hW x X.tag.toNat 5 X hx.h hx.ok hx.r (by rcases hx.tg with e|e<;>rw[e] <;>rfl) hx.lies (.inl rfl)))
 have htg:(X.tag==0)=false:=by rcases hx.tg with e|e<;>rw[e] <;>rfl
 have b0:((n:Int)==0)=false:=by rw[beq_eq_false_iff_ne];omega
 have b0':(n==0)=false:=by rw[beq_eq_false_iff_ne];omega
 have H0:=hid (h.alloc (.cells #[.pointer (some ⟨q.m,0,none⟩),.int .i64 n] 136));have F0:=hid (((Fr.refl [] w).alloc (.cells #[.pointer (some ⟨q.m,0,none⟩),.int .i64 n] 136)).nil (S:=q.blocks));unfold tbV;obtain⟨tag,cls,used,label,name,next,prev,refs,expiry,typ,size,hash⟩:=X;simp only at htg HG;clear h hx;go_enter func139,ntmps139;go_wp2_with fail;with_reducible refine(HG.out _ H0.out).mono ?_
 rintro e w1 ⟨rfl,h1,f1⟩;have H1:=hid h1;have F1:=hid (F0.out.trans f1);clear h1 f1 HG;go_wp2_with fail;go_ret;exact⟨rfl,H1.out.alloc _,F1.out.alloc _⟩
theorem ione(w:World)(x y:Nat):Calls prog 229 #[.int .i64 x,.int .i64 y] w fun e w'=>e= .returned (.bool (y==x))∧w'=w:=by
 obtain⟨c,hc⟩:∃c:Bool,(y==x)=c:=⟨_,rfl⟩
 have hc':((y:Int)==x)=c:=by
  rw[←hc,Bool.eq_iff_iff,beq_iff_eq,beq_iff_eq];omega
 have HR:=hid hc;go_enter func229,ntmps229;go_wp2_with fail;go_ret;exact⟨by first|(rw[HR.out];rfl)|rfl,rfl⟩
end
def fndS(T H:Nat→Nat)(n h:Nat)(P:Nat→Bool):Nat→Nat→Option Nat
 |0,_=>none
 |f+1,k=>if endB T H n (h+k) k=true then none else if P (T ((h+k) %n))=true then some ((h+k) %n)else fndS T H n h P f (k+1)
def fndT(T H:Nat→Nat)(n h:Nat)(P:Nat→Bool):Option Nat:=fndS T H n h P n 0
section
variable {w : World} {q : MH} {t : TM} {L : Nat → Prop} {E : Nat → HB}
theorem zzr(h:IsH w q t)(g:IxI t L E)(y hs:Nat)(hh:hs<4294967296):Calls prog 227 #[.agg #[.pointer (some ⟨q.m,0,none⟩),.int .i64 t.s],.agg #[.int .u32 hs,.func (.func 229) #[.int .i64 y] #[]]] w fun e w'=>e= .returned (.int .i64 (optZ (fndT t.sl (hmE t E) t.s (hs %t.s) (fun z=>z==y))))∧IsH w' q t∧Fr q.blocks w w':=by
 have b0:((t.s:Int)==0)=false:=by have:=g.s0;rw[beq_eq_false_iff_ne];omega
 have b0':(t.s==0)=false:=by have:=g.s0;rw[beq_eq_false_iff_ne];omega
 have hs1:=g.s1;have hml:hs %t.s<t.s:=Nat.mod_lt _ g.s0;have HM:=hid (fun W=>zk8 W hs t.s hh g.s0 (by have:=g.s1;omega));have HE:=hid (fun W k (hk:k<t.s) (hW:IsH W q t)=>(show Calls prog 182 #[.agg #[.pointer (some ⟨q.m,0,none⟩),.int .i64 t.s],.int .i64 (hs %t.s+k:Nat),.int .i64 k] W fun e w'=>e= .returned (.bool (endB t.sl (hmE t E) t.s (hs %t.s+k) k))∧IsH w' q t∧Fr q.blocks W w' from zj6 hW g (hs %t.s+k) k (by omega)))
 have HG:=hid (fun W k (hk:k<t.s) (hW:IsH W q t)=>(show Calls prog 141 #[.agg #[.pointer (some ⟨q.m,0,none⟩),.int .i64 t.s],.int .i64 (hs %t.s+k:Nat)] W fun e w'=>e= .returned (.int .i64 (t.sl ((hs %t.s+k) %t.s)))∧IsH w' q t∧Fr q.blocks W w' from
  (iget hW.m _ (by omega) g.s0).mono fun e w' ⟨he,k1,k2⟩=>⟨he,hW.step k1 k2,k2⟩))
 have HO:=hid (fun W k (hk:k<t.s)=>(show Calls prog 230 #[.agg #[.pointer (some ⟨q.m,0,none⟩),.int .i64 t.s],.int .i64 (hs %t.s+k:Nat)] W fun e w'=>e= .returned (.int .i64 ((hs %t.s+k) %t.s:Nat))∧Fr [] W w' from zgf W q.m t.s _ g.s0 (by omega)));have HIS:=hid (fun W z=>ione W y z);have H0:=hid ((h.alloc (.cells #[.pointer (some ⟨q.m,0,none⟩),.int .i64 t.s] 136)).alloc (.cells #[.int .u32 hs,.func (.func 229) #[.int .i64 y] #[]] 203));have F0:=hid (((Fr.refl q.blocks w).alloc (.cells #[.pointer (some ⟨q.m,0,none⟩),.int .i64 t.s] 136)).alloc (.cells #[.int .u32 hs,.func (.func 229) #[.int .i64 y] #[]] 203));have B0:=hid ((Blk.new w 136 #[.pointer (some ⟨q.m,0,none⟩),.int .i64 t.s]).alloc (.cells #[.int .u32 hs,.func (.func 229) #[.int .i64 y] #[]] 203));have hb1:=Blk.new (w.alloc (.cells #[.pointer (some ⟨q.m,0,none⟩),.int .i64 t.s] 136)) 203 #[.int .u32 hs,.func (.func 229) #[.int .i64 y] #[]];rw[World.size_alloc]at hb1;have B1:=hid hb1;have hlt:=h.m.lt;have nb:w.heap.size∉q.blocks:=fun hm=>by have:=hlt _ hm;omega
 have nb1:w.heap.size+1∉q.blocks:=fun hm=>by have:=hlt _ hm;omega
 obtain⟨W0,hW0⟩:∃W0,(w.alloc (.cells #[.pointer (some ⟨q.m,0,none⟩),.int .i64 t.s] 136)).alloc (.cells #[.int .u32 hs,.func (.func 229) #[.int .i64 y] #[]] 203)=W0:=⟨_,rfl⟩;have HW0:=hid hW0;rw[hW0]at H0 F0 B0 B1;have DC:=hid (fun V (hV:Fr q.blocks W0 V)=>And.intro (show V.cell? ⟨w.heap.size,0,none⟩=some (.pointer (some ⟨q.m,0,none⟩))from(B0.out.fr hV nb).cell 0) (And.intro (show V.cell? ⟨w.heap.size,1,none⟩=some (.int .i64 t.s)from(B0.out.fr hV nb).cell 1) (And.intro (show V.cell? ⟨w.heap.size+1,0,none⟩=some (.int .u32 hs)from(B1.out.fr hV nb1).cell 0) (show V.cell? ⟨w.heap.size+1,1,none⟩=some (.func (.func 229) #[.int .i64 y] #[])from(B1.out.fr hV nb1).cell 1))));obtain⟨R,hR⟩:∃R,fndT t.sl (hmE t E) t.s (hs %t.s) (fun z=>z==y)=R:=⟨_,rfl⟩;rw[hR];have HR:=hid (show fndS t.sl (hmE t E) t.s (hs %t.s) (fun z=>z==y) (t.s-0) 0=R from hR)
 have HUN:=hid (show∀k,k<t.s→fndS t.sl (hmE t E) t.s (hs %t.s) (fun z=>z==y) (t.s-k) k=if endB t.sl (hmE t E) t.s (hs %t.s+k) k=true then none else if(t.sl ((hs %t.s+k) %t.s)==y)=true then some ((hs %t.s+k) %t.s)else fndS t.sl (hmE t E) t.s (hs %t.s) (fun z=>z==y) (t.s-(k+1)) (k+1)from fun k hk=>by
  rw[show t.s-k=(t.s-(k+1))+1 by omega,fndS])
 have HZ:=hid (show fndS t.sl (hmE t E) t.s (hs %t.s) (fun z=>z==y) (t.s-t.s) t.s=none from by rw[Nat.sub_self];rfl);generalize hF9:fndS t.sl (hmE t E) t.s (hs %t.s) (fun z=>z==y)=FS at*;generalize hsl:t.sl=T at*;generalize hmE t E=H at*;generalize hsz:t.s=s at*;generalize hs %s=hm at*;clear h hlt g hR hsl hF9 hb1 hh;go_enter func227,ntmps227;go_wp2_with fail;try rw[hW0]
 clear hsz hW0;have d0:=(DC.out _ (Fr.refl _ _)).1;have d1:=(DC.out _ (Fr.refl _ _)).2.1;have d2:=(DC.out _ (Fr.refl _ _)).2.2.1;have d3:=(DC.out _ (Fr.refl _ _)).2.2.2;refine wp_scope_jumps 0 (fun a' w'=>∃(k:Nat) (u7 u8 u9 u10 u11 u12 u13 u14 u15 u16 u17 u18 u19 u20 u21 u22 u23 u24 u25 u26 u27 u28 u29 u30 u31 u32 u33 u34 u35 u36 u37 u38 u39 u40 u41:Value),a'={tmps:= #[.agg #[.pointer (some ⟨q.m,0,none⟩),.int .i64 s],.agg #[.int .u32 hs,.func (.func 229) #[.int .i64 y] #[]],.pointer (some ⟨w.heap.size,0,none⟩),.pointer (some ⟨w.heap.size+1,0,none⟩),.int .i64 0,.int .i64 hm,.int .i64 k,u7,u8,u9,u10,u11,u12,u13,u14,u15,u16,u17,u18,u19,u20,u21,u22,u23,u24,u25,u26,u27,u28,u29,u30,u31,u32,u33,u34,u35,u36,u37,u38,u39,u40,u41],defers:= []}∧k≤s∧Hid (FS (s-k) k=R)∧Hid (IsH w' q t)∧Hid (Fr q.blocks W0 w')) (fun a' _=>s-(intOf (a'.tmps.getD 6 undef)).toNat) rfl ?_ ?_
 ·go_wp2_with fail
  with_reducible refine(HM.out _).mono ?_
  rintro e w1 ⟨rfl,f1⟩;have hI:=hid (H0.out.fr0 f1);have hF:=hid (f1.nil (S:=q.blocks));have d0:=(DC.out _ hF.out).1;have d1:=(DC.out _ hF.out).2.1;have d2:=(DC.out _ hF.out).2.2.1;have d3:=(DC.out _ hF.out).2.2.2;have hlt:0<s:=by omega
  have b1:((0:Int)==s)=false:=by rw[beq_eq_false_iff_ne];omega
  have b1':(0==s)=false:=by rw[beq_eq_false_iff_ne];omega
  have wq1:IntKind.i64.wrap (hm:Int)=hm:=i64_in _ (by omega);have he:=(show Calls prog 182 #[.agg #[.pointer (some ⟨q.m,0,none⟩),.int .i64 s],.int .i64 hm,.int .i64 0] w1 fun e w'=>e= .returned (.bool (endB T H s hm 0))∧IsH w' q t∧Fr q.blocks w1 w' from HE.out w1 0 hlt hI.out);have hg:=hid (fun W hW=>(show Calls prog 141 #[.agg #[.pointer (some ⟨q.m,0,none⟩),.int .i64 s],.int .i64 hm] W fun e w'=>e= .returned (.int .i64 (T (hm %s)))∧IsH w' q t∧Fr q.blocks W w' from HG.out W 0 hlt hW));have ho:=hid (fun W=>(show Calls prog 230 #[.agg #[.pointer (some ⟨q.m,0,none⟩),.int .i64 s],.int .i64 hm] W fun e w'=>e= .returned (.int .i64 (hm %s:Nat))∧Fr [] W w' from HO.out W 0 hlt));have hu:=HUN.out 0 hlt;rw[HR.out]at hu;simp only[Nat.add_zero]at hu;clear f1 HM;generalize endB T H s hm 0=ev at*;generalize T (hm %s)=v at*;generalize hm %s=rk at*;have HU:=hid hu;clear hu;go_wp2_with fail;go_step3;go_wp2_with fail;with_reducible refine he.mono ?_
  rintro e w2 ⟨rfl,h2,f2⟩;have H2:=hid h2;have F2:=hid (hF.out.trans f2);have d0:=(DC.out _ F2.out).1;have d1:=(DC.out _ F2.out).2.1;have d2:=(DC.out _ F2.out).2.2.1;have d3:=(DC.out _ F2.out).2.2.2;clear h2 f2 he;rcases ev with _|_
  ·have H2d:=hid H2.out.drew
   have hY:=And.intro (DC.out _ F2.out.drew).1 (And.intro (DC.out _ F2.out.drew).2.1 (DC.out _ F2.out.drew).2.2.2);go_wp2_with fail;refine wp_region_held_drew (S:=fun W=>W.cell? ⟨w.heap.size,0,none⟩=some (.pointer (some ⟨q.m,0,none⟩))∧W.cell? ⟨w.heap.size,1,none⟩=some (.int .i64 s)∧W.cell? ⟨w.heap.size+1,1,none⟩=some (.func (.func 229) #[.int .i64 y] #[])) (by kernel_rfl) (hY) (fun yH=> ?_);refine tkY 0 yH ?_;refine tkY 1 yH ?_;refine tkY 2 yH ?_;refine tkY 3 yH ?_;refine tkY 4 yH ?_;refine tkY 5 yH ?_;refine tkC 6 fun K hK=> ?_;go_simp;with_reducible refine(hg.out _ H2d.out).mono ?_
   rintro e w4 ⟨rfl,h4,f4⟩;have H4:=hid h4;have F4:=hid (F2.out.drew.trans f4);have hY:=And.intro (DC.out _ F4.out).1 (And.intro (DC.out _ F4.out).2.1 (DC.out _ F4.out).2.2.2);clear h4 f4;go_wp2_with fail;refine hK.out _ _ _ hY fun yH=> ?_;clear hK K;refine tkC 7 fun K hK=> ?_;go_simp;with_reducible refine(HIS.out _ _).mono ?_
   rintro e w5 ⟨rfl,he5⟩;rw[he5];clear he5 w5;have hY:=And.intro (DC.out _ F4.out).1 (And.intro (DC.out _ F4.out).2.1 (DC.out _ F4.out).2.2.2);go_wp2_with fail;refine hK.out _ _ _ hY fun yH=> ?_;clear hK K;refine wpAnyH_done (by kernel_rfl) ?_ _;try simp only[Act.put,List.getElem_toArray,List.getElem_cons_zero,List.getElem_cons_succ,List.setIfInBounds_toArray,List.set_cons_zero,List.set_cons_succ]
   have d0:=(DC.out _ F4.out).1;have d1:=(DC.out _ F4.out).2.1;obtain⟨c,hc⟩:∃c:Bool,(v==y)=c:=⟨_,rfl⟩;rw[hc];rw[hc]at HU;clear hY;rcases c with _|_
   ·have HN:=hid (show FS (s-1) 1=R from by have:=HU.out;simpa using this.symm)
    go_wp2_with fail;go_step3;refine⟨rfl,1,_,_,_,_,_,_,_,_,_,_,_,_,_,_,_,_,_,_,_,_,_,_,_,_,_,_,_,_,_,_,_,_,_,_,_,by first|rfl|(congr 1;go_num),by omega,HN,H4,F4⟩
   ·have HRR:=hid (show(rk:Int)=optZ R from by have:=HU.out;simp at this;rw[this];rfl)
    go_wp2_with fail;with_reducible refine(ho.out _).mono ?_
    rintro e w6 ⟨rfl,f6⟩;have H6:=hid (H4.out.fr0 f6);have F6:=hid (F4.out.trans f6.nil);clear f6;go_wp2_with fail;try simp only[Exit.jump]
    go_ret;exact⟨by rw[←HRR.out];rfl,H6.out,F0.out.trans F6.out⟩
  ·have HRR:=hid (show(-1:Int)=optZ R from by have:=HU.out;simp at this;rw[this];rfl)
   go_wp2_with fail;try simp only[Exit.jump]
   go_ret;exact⟨by rw[←HRR.out];rfl,H2.out,F0.out.trans F2.out⟩
 ·rintro a' w' ⟨k,u7,u8,u9,u10,u11,u12,u13,u14,u15,u16,u17,u18,u19,u20,u21,u22,u23,u24,u25,u26,u27,u28,u29,u30,u31,u32,u33,u34,u35,u36,u37,u38,u39,u40,u41,rfl,hks,hRk,hI,hF⟩
  have d0:=(DC.out _ hF.out).1;have d1:=(DC.out _ hF.out).2.1;have d2:=(DC.out _ hF.out).2.2.1;have d3:=(DC.out _ hF.out).2.2.2;by_cases hlt:k<s
  ·have b1:((k:Int)==s)=false:=by rw[beq_eq_false_iff_ne];omega
   have b1':(k==s)=false:=by rw[beq_eq_false_iff_ne];omega
   have w1:IntKind.i64.wrap ((hm:Int)+k)=(hm+k:Nat):=by rw[i64_in _ (by omega)];omega
   have w3:=i64_in ((k:Int)+1) (by omega);have he:=HE.out _ k hlt hI.out;have hg:=hid (fun W hW=>HG.out W k hlt hW);have ho:=hid (fun W=>HO.out W k hlt);have hu:=HUN.out k hlt;rw[hRk.out]at hu;generalize hm+k=ak at*;generalize endB T H s ak k=ev at*;generalize T (ak %s)=v at*;generalize ak %s=rk at*;have HU:=hid hu;clear hu;go_wp2_with fail;with_reducible refine he.mono ?_
   rintro e w2 ⟨rfl,h2,f2⟩;have H2:=hid h2;have F2:=hid (hF.out.trans f2);have d0:=(DC.out _ F2.out).1;have d1:=(DC.out _ F2.out).2.1;have d2:=(DC.out _ F2.out).2.2.1;have d3:=(DC.out _ F2.out).2.2.2;clear h2 f2 he;rcases ev with _|_
   ·have H2d:=hid H2.out.drew
    have hY:=And.intro (DC.out _ F2.out.drew).1 (And.intro (DC.out _ F2.out.drew).2.1 (DC.out _ F2.out.drew).2.2.2);go_wp2_with fail;refine wp_region_held_drew (S:=fun W=>W.cell? ⟨w.heap.size,0,none⟩=some (.pointer (some ⟨q.m,0,none⟩))∧W.cell? ⟨w.heap.size,1,none⟩=some (.int .i64 s)∧W.cell? ⟨w.heap.size+1,1,none⟩=some (.func (.func 229) #[.int .i64 y] #[])) (by kernel_rfl) (hY) (fun yH=> ?_);refine tkY 0 yH ?_;refine tkY 1 yH ?_;refine tkY 2 yH ?_;refine tkY 3 yH ?_;refine tkY 4 yH ?_;refine tkY 5 yH ?_;refine tkC 6 fun K hK=> ?_;go_simp;with_reducible refine(hg.out _ H2d.out).mono ?_
    rintro e w4 ⟨rfl,h4,f4⟩;have H4:=hid h4;have F4:=hid (F2.out.drew.trans f4);have hY:=And.intro (DC.out _ F4.out).1 (And.intro (DC.out _ F4.out).2.1 (DC.out _ F4.out).2.2.2);clear h4 f4;go_wp2_with fail;refine hK.out _ _ _ hY fun yH=> ?_;clear hK K;refine tkC 7 fun K hK=> ?_;go_simp;with_reducible refine(HIS.out _ _).mono ?_
    rintro e w5 ⟨rfl,he5⟩;rw[he5];clear he5 w5;have hY:=And.intro (DC.out _ F4.out).1 (And.intro (DC.out _ F4.out).2.1 (DC.out _ F4.out).2.2.2);go_wp2_with fail;refine hK.out _ _ _ hY fun yH=> ?_;clear hK K;refine wpAnyH_done (by kernel_rfl) ?_ _;try simp only[Act.put,List.getElem_toArray,List.getElem_cons_zero,List.getElem_cons_succ,List.setIfInBounds_toArray,List.set_cons_zero,List.set_cons_succ]
    have d0:=(DC.out _ F4.out).1;have d1:=(DC.out _ F4.out).2.1;obtain⟨c,hc⟩:∃c:Bool,(v==y)=c:=⟨_,rfl⟩;rw[hc];rw[hc]at HU;clear hY;rcases c with _|_
    ·have HN:=hid (show FS (s-(k+1)) (k+1)=R from by have:=HU.out;simpa using this.symm)
     go_wp2_with fail;go_step3;refine⟨rfl,⟨k+1,_,_,_,_,_,_,_,_,_,_,_,_,_,_,_,_,_,_,_,_,_,_,_,_,_,_,_,_,_,_,_,_,_,_,_,by first|rfl|(congr 1;go_num),by omega,HN,H4,F4⟩,by simp[intOf];omega⟩
    ·have HRR:=hid (show(rk:Int)=optZ R from by have:=HU.out;simp at this;rw[this];rfl)
     go_wp2_with fail;with_reducible refine(ho.out _).mono ?_
     rintro e w6 ⟨rfl,f6⟩;have H6:=hid (H4.out.fr0 f6);have F6:=hid (F4.out.trans f6.nil);clear f6;go_wp2_with fail;try simp only[Exit.jump]
     go_ret;exact⟨by rw[←HRR.out];rfl,H6.out,F0.out.trans F6.out⟩
   ·have HRR:=hid (show(-1:Int)=optZ R from by have:=HU.out;simp at this;rw[this];rfl)
    go_wp2_with fail;try simp only[Exit.jump]
    go_ret;exact⟨by rw[←HRR.out];rfl,H2.out,F0.out.trans F2.out⟩
  ·obtain rfl:k=s:=by omega
   have b1:((k:Int)==k)=true:=by simp
   have HRR:=hid (show(-1:Int)=optZ R from by have:=hRk.out;rw[HZ.out]at this;rw[←this];rfl);go_wp2_with fail;try simp only[Exit.jump]
   go_ret;exact⟨by rw[←HRR.out];rfl,hI.out,F0.out.trans hF.out⟩
end
def TM.wsl(t:TM)(T:Nat→Nat):TM:={t with sl:=T}
def shS(n to:Nat):Nat→(Nat→Nat)→(Nat→Nat)
 |0,T=>T
 |i+1,T=>shS n to i (up T ((to+(i+1)) %n) (T ((to+i) %n)))
section
variable {w : World} {q : MH} {t : TM} {x : Nat} {X : HB} {L : Nat → Prop} {E : Nat → HB}
theorem zs5(h:IsH w q t)(g:IxI t L E)(hx:BlkE t x X):Calls prog 140 #[tbV q.m t.s,.int .i64 x] w fun e w'=>e= .returned (.int .i64 (optZ (fndT t.sl (hmE t E) t.s (X.hash %t.s) (fun z=>z==x))))∧IsH w' q t∧Fr q.blocks w w':=by
 have HH:=hid (fun W (hW:IsH W q t)=>(show Calls prog 228 #[.agg #[.pointer (some ⟨q.m,0,none⟩),.int .i64 t.s],.int .i64 x] W fun e w'=>e= .returned (.int .u32 X.hash)∧IsH w' q t∧Fr q.blocks W w' from zxc hW t.s hx));have HF:=hid (fun W (hW:IsH W q t)=>zzr hW g x X.hash hx.ok.hash);have H0:=hid (h.alloc (.cells #[.pointer (some ⟨q.m,0,none⟩),.int .i64 t.s] 136)).drew;have F0:=hid (((Fr.refl [] w).alloc (.cells #[.pointer (some ⟨q.m,0,none⟩),.int .i64 t.s] 136)).nil (S:=q.blocks));have B0:=hid (Blk.new w 136 #[.pointer (some ⟨q.m,0,none⟩),.int .i64 t.s]);have hlt:=h.m.lt;have nb:w.heap.size∉q.blocks:=fun hm=>by have:=hlt _ hm;omega
 have DC:=hid (fun V (hV:Fr q.blocks (w.alloc (.cells #[.pointer (some ⟨q.m,0,none⟩),.int .i64 t.s] 136)) V)=>And.intro (show V.cell? ⟨w.heap.size,0,none⟩=some (.pointer (some ⟨q.m,0,none⟩))from(B0.out.fr hV nb).cell 0) (show V.cell? ⟨w.heap.size,1,none⟩=some (.int .i64 t.s)from(B0.out.fr hV nb).cell 1));unfold tbV;generalize fndT t.sl (hmE t E) t.s (X.hash %t.s) (fun z=>z==x)=R at*;generalize X.hash=hs0 at*;generalize t.s=s at*;clear h hx hlt g;have hY:=DC.out _ (Fr.refl _ _).drew;go_enter func140,ntmps140;go_wp2_with fail;refine wp_region_held_drew (S:=fun W=>W.cell? ⟨w.heap.size,0,none⟩=some (.pointer (some ⟨q.m,0,none⟩))∧W.cell? ⟨w.heap.size,1,none⟩=some (.int .i64 s)) (by kernel_rfl) (hY) (fun yH=> ?_);refine tkY 0 yH ?_;refine tkY 1 yH ?_;refine tkY 2 yH ?_;refine tkY 4 yH ?_;refine tkY 5 yH ?_;refine tkC 3 fun K hK=> ?_;go_simp;with_reducible refine(HH.out _ H0.out).mono ?_
 rintro e w1 ⟨rfl,h1,f1⟩;have H1:=hid h1;have F1:=hid ((Fr.refl q.blocks _).drew.trans f1);have hY:=DC.out _ F1.out;clear h1 f1;go_wp2_with fail;refine hK.out _ _ _ hY fun yH=> ?_;clear hK K;refine tkY 6 yH ?_;refine tkC 7 fun K hK=> ?_;go_simp;with_reducible refine(HF.out _ H1.out).mono ?_
 rintro e w2 ⟨rfl,h2,f2⟩;have H2:=hid h2;have F2:=hid (F1.out.trans f2);have hY:=DC.out _ F2.out;clear h2 f2;go_wp2_with fail;refine hK.out _ _ _ hY fun yH=> ?_;clear hK K;refine tkY 8 yH ?_;refine wpAnyH_done (by kernel_rfl) ?_ _;try simp only[Act.put,List.getElem_toArray,List.getElem_cons_zero,List.getElem_cons_succ,List.setIfInBounds_toArray,List.set_cons_zero,List.set_cons_succ]
 go_wp2_with fail;go_ret;exact⟨rfl,H2.out,F0.out.trans F2.out⟩
structure InsP(T H:Nat→Nat)(n h k g:Nat):Prop where
 hk:k≤n
 hg:g≤n
 no: ∀j,j<k→endB T H n (h+j) j=false
 yes:endB T H n (h+k) k=true
 gap:gapT T n (h+k)=some g
theorem zv7(h:IsH w q t)(g:IxI t L E)(hx:BlkE t x X)(hE:E x=X){g0 k gg:Nat}(hp:fndT t.sl (hmE t E) t.s (X.hash %t.s) (fun z=>z==x)=none)(hg0:gapT t.sl t.s (X.hash %t.s)=some g0)(ip:InsP t.sl (hmE t E) t.s (X.hash %t.s) k gg):Calls prog 91 #[.pointer (some ⟨q.m,0,none⟩),.int .i64 x] w fun e w'=>e= .returned (.int .i64 0)∧IsH w' q (t.wsl (up (shS t.s (X.hash %t.s+k) gg t.sl) ((X.hash %t.s+k) %t.s) x))∧Fr q.blocks w w':=by
 have hs:=g.s0;have hs1:=g.s1;have hml:X.hash %t.s<t.s:=Nat.mod_lt _ hs;have hx4:=(hx.pos h.m.ok).2;have HOF:=hid (show Calls prog 78 #[.pointer (some ⟨q.m,0,none⟩)] w fun e w'=>e= .returned (.agg #[.pointer (some ⟨q.m,0,none⟩),.int .i64 t.s])∧Fr [] w w' from iof h.m);have HBL:=hid (fun W (hW:IsH W q t)=>(show Calls prog 139 #[.agg #[.pointer (some ⟨q.m,0,none⟩),.int .i64 t.s],.int .i64 x] W fun e w'=>e= .returned (.int .i64 0)∧IsH w' q t∧Fr q.blocks W w' from ztr hW t.s hs hx))
 have HPL:=hid (fun W (hW:IsH W q t)=>(show Calls prog 140 #[.agg #[.pointer (some ⟨q.m,0,none⟩),.int .i64 t.s],.int .i64 x] W fun e w'=>e= .returned (.int .i64 (-1))∧IsH w' q t∧Fr q.blocks W w' from by
  have:=zs5 hW g hx;rw[hp]at this;exact this))
 have HHM:=hid (fun W (hW:IsH W q t)=>(show Calls prog 180 #[.agg #[.pointer (some ⟨q.m,0,none⟩),.int .i64 t.s],.int .i64 x] W fun e w'=>e= .returned (.int .i64 (X.hash %t.s:Nat))∧IsH w' q t∧Fr q.blocks W w' from zyu hW hs (by omega) hx))
 have HG0:=hid (fun W (hW:IsH W q t)=>(show Calls prog 181 #[.agg #[.pointer (some ⟨q.m,0,none⟩),.int .i64 t.s],.int .i64 (X.hash %t.s:Nat)] W fun e w'=>e= .returned (.int .i64 g0)∧IsH w' q t∧Fr q.blocks W w' from by
  have:=igap hW g (X.hash %t.s) (by omega);rw[hg0]at this;exact this))
 have HEN:=hid (fun W j (hj:j≤k) (hW:IsH W q t)=>(show Calls prog 182 #[.agg #[.pointer (some ⟨q.m,0,none⟩),.int .i64 t.s],.int .i64 (X.hash %t.s+j:Nat),.int .i64 j] W fun e w'=>e= .returned (.bool (endB t.sl (hmE t E) t.s (X.hash %t.s+j) j))∧IsH w' q t∧Fr q.blocks W w' from zj6 hW g _ j (by have:=ip.hk;omega)))
 have HG1:=hid (fun W (hW:IsH W q t)=>(show Calls prog 181 #[.agg #[.pointer (some ⟨q.m,0,none⟩),.int .i64 t.s],.int .i64 (X.hash %t.s+k:Nat)] W fun e w'=>e= .returned (.int .i64 gg)∧IsH w' q t∧Fr q.blocks W w' from by
  have:=igap hW g (X.hash %t.s+k) (by have:=ip.hk;omega);rw[ip.gap]at this;exact this))
 have HGT:=hid (fun W (T:Nat→Nat) (i:Nat) (hi:i<gg) (hW:IsH W q (t.wsl T))=>(show Calls prog 141 #[.agg #[.pointer (some ⟨q.m,0,none⟩),.int .i64 t.s],.int .i64 (X.hash %t.s+k+i:Nat)] W fun e w'=>e= .returned (.int .i64 (T ((X.hash %t.s+k+i) %t.s)))∧IsH w' q (t.wsl T)∧Fr q.blocks W w' from
  (iget hW.m (X.hash %t.s+k+i) (by have:=ip.hk;have:=ip.hg;omega) hs).mono fun e w' ⟨he,k1,k2⟩=>⟨he,hW.step k1 k2,k2⟩))
 have HVL:=hid (fun W (T:Nat→Nat) (hW:IsH W q (t.wsl T)) (i:Nat)=>(show T i<4294967296 from hW.m.ok.sl i))
 have HPT:=hid (fun W (T:Nat→Nat) (i v:Nat) (hi:i≤gg) (hv:v<4294967296) (hW:IsH W q (t.wsl T))=>(show Calls prog 143 #[.agg #[.pointer (some ⟨q.m,0,none⟩),.int .i64 t.s],.int .i64 (X.hash %t.s+k+i:Nat),.int .i64 v] W fun e w'=>e= .returned (.tuple #[])∧IsH w' q (t.wsl (up T ((X.hash %t.s+k+i) %t.s) v))∧Fr q.blocks W w' from
  (iput hW.m (X.hash %t.s+k+i) v (by have:=ip.hk;have:=ip.hg;omega) hs hv).mono fun e w' ⟨he,k1,k2⟩=>⟨he,hW.step k1 k2,k2⟩))
 have HT0:=hid (show∀W,IsH W q t→IsH W q (t.wsl t.sl)from fun W hW=>hW);have NO:=hid (fun j (hj:j<k)=>ip.no j hj);have YES:=hid ip.yes;have hkn:=ip.hk;have hgn:=ip.hg;have H00:=hid h;have hlt:=h.m.lt;have HNB:=hid (show∀V:World,w.heap.size≤V.heap.size→V.heap.size∉q.blocks from fun V hV hm=>by have:=hlt _ hm;omega);obtain⟨TF,hTF⟩:∃TF,shS t.s (X.hash %t.s+k) gg t.sl=TF:=⟨_,rfl⟩;rw[hTF];have HSH:=hid hTF;generalize X.hash %t.s=hm at*;obtain⟨to,hto⟩:∃to,hm+k=to:=⟨_,rfl⟩;rw[hto]at HGT HPT HG1 HSH YES⊢;generalize hmE t E=H at*;generalize t.s=s at*;generalize t.sl=T at*;clear h g hx hE hp hg0 ip hlt hTF;go_enter func91,ntmps91;go_wp2_with fail;with_reducible refine HOF.out.mono ?_
 rintro e w1 ⟨rfl,f1⟩;have K0:=hid ((H00.out.fr0 f1).alloc (.cells #[.pointer (some ⟨q.m,0,none⟩),.int .i64 s] 136));have F0:=hid ((f1.nil (S:=q.blocks)).alloc (.cells #[.pointer (some ⟨q.m,0,none⟩),.int .i64 s] 136));have nb:=HNB.out w1 f1.size;have B0:=hid (Blk.new w1 136 #[.pointer (some ⟨q.m,0,none⟩),.int .i64 s]);obtain⟨W1,hW1⟩:∃W1,w1.alloc (.cells #[.pointer (some ⟨q.m,0,none⟩),.int .i64 s] 136)=W1:=⟨_,rfl⟩;rw[hW1]at K0 F0 B0;obtain⟨gt,hgt⟩:∃gt,w1.heap.size=gt:=⟨_,rfl⟩;rw[hgt]at B0 nb;have DC:=hid (fun V (hV:Fr q.blocks W1 V)=>And.intro (show V.cell? ⟨gt,0,none⟩=some (.pointer (some ⟨q.m,0,none⟩))from(B0.out.fr hV nb).cell 0) (show V.cell? ⟨gt,1,none⟩=some (.int .i64 s)from(B0.out.fr hV nb).cell 1));have d0:=(DC.out _ (Fr.refl _ _)).1;have d1:=(DC.out _ (Fr.refl _ _)).2;clear f1;go_upto_region 2 with fail;have F1:=hid (Fr.refl q.blocks W1);have hg0':((g0:Int)== -1)=false:=by rw[beq_eq_false_iff_ne];omega
 go_wp2_with fail;with_reducible refine(HBL.out _ K0.out).mono ?_
 rintro e w2 ⟨rfl,h2,f2⟩;have K2:=hid h2;have F2:=hid (F1.out.trans f2);have d0:=(DC.out _ F2.out).1;have d1:=(DC.out _ F2.out).2;clear h2 f2;go_wp2_with fail;with_reducible refine(HPL.out _ K2.out).mono ?_
 rintro e w3 ⟨rfl,h3,f3⟩;have K3:=hid h3;have F3:=hid (F2.out.trans f3);have d0:=(DC.out _ F3.out).1;have d1:=(DC.out _ F3.out).2;clear h3 f3;go_wp2_with fail;with_reducible refine(HHM.out _ K3.out).mono ?_
 rintro e w4 ⟨rfl,h4,f4⟩;have K4:=hid h4;have F4:=hid (F3.out.trans f4);have d0:=(DC.out _ F4.out).1;have d1:=(DC.out _ F4.out).2;clear h4 f4;go_wp2_with fail;with_reducible refine(HG0.out _ K4.out).mono ?_
 rintro e w5 ⟨rfl,h5,f5⟩;have K5:=hid h5;have F5:=hid (F4.out.trans f5);have d0:=(DC.out _ F5.out).1;have d1:=(DC.out _ F5.out).2;clear h5 f5;go_wp2_with fail;go_loopw [8] (fun v W=>∃j:Nat,j≤k∧v= .int .i64 (hm+j:Nat)∧Hid (IsH W q t)∧Hid (Fr q.blocks W1 W)) (fun v _=>hm+k-(intOf v).toNat);case atStart=>exact⟨0,by omega,rfl,K5,F5⟩
 case round=>
  clear HBL HPL HHM HG0 K0 K2 K3 K4 K5 F2 F3 F4 F5;obtain⟨j,hj,rfl,hI,hF⟩:=hrel;have d0:=(DC.out _ hF.out).1;have d1:=(DC.out _ hF.out).2;have w1:IntKind.i64.wrap (((hm+j:Nat):Int)-hm)=j:=by rw[i64_in _ (by omega)];omega
  have w3:IntKind.i64.wrap (((hm+j:Nat):Int)+1)=(hm+(j+1):Nat):=by rw[i64_in _ (by omega)];omega
  have he:=HEN.out _ j hj hI.out;by_cases hlt:j<k
  ·rw[NO.out j hlt]at he
   obtain⟨ja,hja⟩:∃ja,hm+j=ja:=⟨_,rfl⟩;obtain⟨jb,hjb⟩:∃jb,hm+(j+1)=jb:=⟨_,rfl⟩;rw[hja]at he w1 w3⊢;rw[hjb]at w3;have HJB:=hid hjb;have HJA:=hid hja;clear hjb hja;go_wp2_with fail;with_reducible refine he.mono ?_
   rintro e w6 ⟨rfl,h6,f6⟩;have K6:=hid h6;have F6:=hid (hF.out.trans f6);clear h6 f6 he;go_wp2_with fail;go_roundw;case rel=>exact⟨j+1,by omega,by rw[HJB.out],K6,F6⟩
   case measure=>
    have:=HJB.out;have:=HJA.out;simp[intOf];omega
  ·obtain rfl:j=k:=by omega
   rw[hto]at he w1⊢;rw[YES.out]at he;clear hlt w3;go_wp2_with fail;with_reducible refine he.mono ?_
   rintro e w6 ⟨rfl,h6,f6⟩;have K6:=hid h6;have F6:=hid (hF.out.trans f6);have d0:=(DC.out _ F6.out).1;have d1:=(DC.out _ F6.out).2;clear h6 f6 he hI hF w1;go_wp2_with fail;with_reducible refine(HG1.out _ K6.out).mono ?_
   rintro e w7 ⟨rfl,h7,f7⟩;have K7:=hid (HT0.out _ h7);have F7:=hid (F6.out.trans f7);clear h7 f7 K6 F6 HEN NO YES HG1;go_wp2_with fail;go_loopw [9] (fun v W=>∃(i:Nat) (T':Nat→Nat),i≤gg∧v= .int .i64 i∧Hid (shS s to i T'=TF)∧Hid (IsH W q (t.wsl T'))∧Hid (Fr q.blocks W1 W)) (fun v _=>(intOf v).toNat);case atStart=>exact⟨gg,T,by omega,rfl,HSH,K7,F7⟩
   case round=>
    clear HSH K7 F7;obtain⟨i,T',hi,rfl,hsh,hI,hF⟩:=hrel;have d0:=(DC.out _ hF.out).1;have d1:=(DC.out _ hF.out).2;cases i with
    |succ i=>
     have b1:decide ((0:Int)<((i+1:Nat):Int))=true:=by simp only[decide_eq_true_eq];omega
     have b1':decide (0<i+1)=true:=by simp only[decide_eq_true_eq];omega
     have w1:IntKind.i64.wrap ((to:Int)+((i+1:Nat):Int))=(to+(i+1):Nat):=by rw[i64_in _ (by omega)];omega
     have w2:IntKind.i64.wrap (((to+(i+1):Nat):Int)-1)=(to+i:Nat):=by rw[i64_in _ (by omega)];omega
     have w3:IntKind.i64.wrap (((i+1:Nat):Int)-1)=i:=by rw[i64_in _ (by omega)];omega
     have HGi:=hid (fun W hW=>HGT.out W T' i (by omega) hW);have hv4:=HVL.out _ T' hI.out ((to+i) %s);have HPi:=hid (fun W hW=>HPT.out W T' (i+1) (T' ((to+i) %s)) hi hv4 hW);have HS2:=hid (show shS s to i (up T' ((to+(i+1)) %s) (T' ((to+i) %s)))=TF from hsh.out);generalize up T' ((to+(i+1)) %s) (T' ((to+i) %s))=T2 at*;generalize T' ((to+i) %s)=v at*;generalize to+(i+1)=ti1 at*;generalize to+i=ti at*;generalize hi1:i+1=i1 at*;have hID:=hid hI.out.drew;have hY:=DC.out _ hF.out.drew;clear hsh hv4;go_wp2_with fail;refine wp_region_held_drew (S:=fun W=>W.cell? ⟨gt,0,none⟩=some (.pointer (some ⟨q.m,0,none⟩))∧W.cell? ⟨gt,1,none⟩=some (.int .i64 s)) (by kernel_rfl) (hY) (fun yH=> ?_);refine tkY 0 yH ?_;refine tkY 1 yH ?_;refine tkY 2 yH ?_;refine tkY 3 yH ?_;refine tkY 4 yH ?_;refine tkY 5 yH ?_;refine tkY 6 yH ?_;refine tkY 7 yH ?_;refine tkY 8 yH ?_;refine tkC 9 fun K hK=> ?_;go_simp;with_reducible refine(HGi.out _ hID.out).mono ?_
     rintro e w8 ⟨rfl,h8,f8⟩;have K8:=hid h8;have F8:=hid (hF.out.drew.trans f8);have hY:=DC.out _ F8.out;clear h8 f8;go_wp2_with fail;refine hK.out _ _ _ hY fun yH=> ?_;clear hK K;refine tkC 10 fun K hK=> ?_;go_simp;with_reducible refine(HPi.out _ K8.out).mono ?_
     rintro e w9 ⟨rfl,h9,f9⟩;have K9:=hid h9;have F9:=hid (F8.out.trans f9);have hY:=DC.out _ F9.out;clear h9 f9;go_wp2_with fail;refine hK.out _ _ _ hY fun yH=> ?_;clear hK K;refine wpAnyH_done (by kernel_rfl) ?_ _;try simp only[Act.put,List.getElem_toArray,List.getElem_cons_zero,List.getElem_cons_succ,List.setIfInBounds_toArray,List.set_cons_zero,List.set_cons_succ]
     go_wp2_with fail;go_roundw;case rel=>exact⟨i,T2,by omega,by go_num,HS2,K9,F9⟩
     case measure=>simp[intOf];omega
    |zero=>
     have b1:decide ((0:Int)<((0:Nat):Int))=false:=rfl;have HS2:=hid (show T'=TF from hsh.out);have HP0:=hid (fun W hW=>HPT.out W T' 0 x (by omega) (by omega) hW);rw[Nat.add_zero]at HP0;have d0:=(DC.out _ hF.out).1;have d1:=(DC.out _ hF.out).2;clear hsh;go_wp2_with fail;with_reducible refine(HP0.out _ hI.out).mono ?_
     rintro e w8 ⟨rfl,h8,f8⟩;have K8:=hid h8;have F8:=hid (hF.out.trans f8);clear h8 f8;go_wp2_with fail;go_ret;exact⟨rfl,by rw[←HS2.out];exact K8.out,F0.out.trans F8.out⟩
end
def dlS(H:Nat→Nat)(n:Nat):Nat→Nat→(Nat→Nat)→(Nat→Nat)
 |0,i,T=>up T (i %n) 0
 |f+1,i,T=>if T ((i+1) %n)=0∨farT T H n (i+1)=0 then up T (i %n) 0 else dlS H n f (i+1) (up T (i %n) (T ((i+1) %n)))
section
variable {w : World} {q : MH} {t : TM} {x : Nat} {X : HB} {L : Nat → Prop} {E : Nat → HB}
theorem BlkE.wsl(h:BlkE t x X)(hok:t.Ok){T:Nat→Nat}(ho:(t.wsl T).Ok):BlkE (t.wsl T) x X:=by
 refine⟨⟨h.h.tg,h.h.base,h.h.al,h.h.fit,h.h.k0,h.h.kinds,fun f hf h0 j hj=> ?_,h.h.lt⟩,h.ok,h.r,h.tg⟩;have hb:=h.h.base;have e1:=zam (t.wsl T) (x+(wh X.tag.toNat f).1+j) (by show zab t.a t.s≤_;omega) ho;have e2:=zam t (x+(wh X.tag.toNat f).1+j) (by omega) hok;rw[e1];have e3:=h.h.byte f hf h0 j hj;rw[e2]at e3;exact e3
theorem IxI.wsl(g:IxI t L E)(hok:t.Ok){T:Nat→Nat}(ho:(t.wsl T).Ok)(hc:∀i,i<t.s→T i=0∨L (T i)):IxI (t.wsl T) L E:=⟨fun x hx=>(g.e x hx).wsl hok ho,hc,g.s0,g.s1⟩
theorem idel(h:IsH w q t)(g:IxI t L E)(hx:BlkE t x X){i0:Nat}(hi0:i0<t.s)(hp:fndT t.sl (hmE t E) t.s (X.hash %t.s) (fun z=>z==x)=some i0):Calls prog 54 #[.pointer (some ⟨q.m,0,none⟩),.int .i64 x] w fun e w'=>e= .returned (.int .i64 0)∧IsH w' q (t.wsl (dlS (hmE t E) t.s (t.s-1) i0 t.sl))∧Fr q.blocks w w':=by
 have hs:=g.s0;have hs1:=g.s1;have HOF:=hid (show Calls prog 78 #[.pointer (some ⟨q.m,0,none⟩)] w fun e w'=>e= .returned (.agg #[.pointer (some ⟨q.m,0,none⟩),.int .i64 t.s])∧Fr [] w w' from iof h.m);have HBL:=hid (fun W (hW:IsH W q t)=>(show Calls prog 139 #[.agg #[.pointer (some ⟨q.m,0,none⟩),.int .i64 t.s],.int .i64 x] W fun e w'=>e= .returned (.int .i64 0)∧IsH w' q t∧Fr q.blocks W w' from ztr hW t.s hs hx))
 have HPL:=hid (fun W (hW:IsH W q t)=>(show Calls prog 140 #[.agg #[.pointer (some ⟨q.m,0,none⟩),.int .i64 t.s],.int .i64 x] W fun e w'=>e= .returned (.int .i64 i0)∧IsH w' q t∧Fr q.blocks W w' from by
  have:=zs5 hW g hx;rw[hp]at this;exact this))
 have HGT:=hid (fun W (T:Nat→Nat) (i:Nat) (hi:i<131072) (hW:IsH W q (t.wsl T))=>(show Calls prog 141 #[.agg #[.pointer (some ⟨q.m,0,none⟩),.int .i64 t.s],.int .i64 i] W fun e w'=>e= .returned (.int .i64 (T (i %t.s)))∧IsH w' q (t.wsl T)∧Fr q.blocks W w' from
  (iget hW.m i (by omega) hs).mono fun e w' ⟨he,k1,k2⟩=>⟨he,hW.step k1 k2,k2⟩))
 have HFR:=hid (fun W (T:Nat→Nat) (i:Nat) (hi:i<131072) (hc:∀i,i<t.s→T i=0∨L (T i)) (h0:T (i %t.s)≠0) (hW:IsH W q (t.wsl T))=>(show Calls prog 142 #[.agg #[.pointer (some ⟨q.m,0,none⟩),.int .i64 t.s],.int .i64 i] W fun e w'=>e= .returned (.int .i64 (farT T (hmE t E) t.s i))∧IsH w' q (t.wsl T)∧Fr q.blocks W w' from
  ifar hW (g.wsl h.m.ok hW.m.ok hc) i (by omega) h0))
 have HVL:=hid (fun W (T:Nat→Nat) (hW:IsH W q (t.wsl T)) (i:Nat)=>(show T i<4294967296 from hW.m.ok.sl i))
 have HPT:=hid (fun W (T:Nat→Nat) (i v:Nat) (hi:i<131072) (hv:v<4294967296) (hW:IsH W q (t.wsl T))=>(show Calls prog 143 #[.agg #[.pointer (some ⟨q.m,0,none⟩),.int .i64 t.s],.int .i64 i,.int .i64 v] W fun e w'=>e= .returned (.tuple #[])∧IsH w' q (t.wsl (up T (i %t.s) v))∧Fr q.blocks W w' from
  (iput hW.m i v (by omega) hs hv).mono fun e w' ⟨he,k1,k2⟩=>⟨he,hW.step k1 k2,k2⟩))
 have HP0:=hid (fun W (T:Nat→Nat) (i:Nat) (hi:i<131072) (hW:IsH W q (t.wsl T))=>(show Calls prog 143 #[.agg #[.pointer (some ⟨q.m,0,none⟩),.int .i64 t.s],.int .i64 i,.int .i64 0] W fun e w'=>e= .returned (.tuple #[])∧IsH w' q (t.wsl (up T (i %t.s) 0))∧Fr q.blocks W w' from HPT.out W T i 0 hi (by decide) hW));have HT0:=hid (show∀W,IsH W q t→IsH W q (t.wsl t.sl)from fun W hW=>hW);have HCL:=hid (show∀i,i<t.s→t.sl i=0∨L (t.sl i)from g.sl);have H00:=hid h;have hlt:=h.m.lt;have HNB:=hid (show∀V:World,w.heap.size≤V.heap.size→V.heap.size∉q.blocks from fun V hV hm=>by have:=hlt _ hm;omega);obtain⟨TF,hTF⟩:∃TF,dlS (hmE t E) t.s (t.s-1) i0 t.sl=TF:=⟨_,rfl⟩;rw[hTF];have HSH:=hid (show dlS (hmE t E) t.s (t.s-1-0) i0 t.sl=TF from hTF);generalize hmE t E=H at*;generalize t.s=s at*;generalize t.sl=T at*;clear h g hx hp hlt hTF;go_enter func54,ntmps54;go_wp2_with fail;with_reducible refine HOF.out.mono ?_
 rintro e w1 ⟨rfl,f1⟩;have K0:=hid ((H00.out.fr0 f1).alloc (.cells #[.pointer (some ⟨q.m,0,none⟩),.int .i64 s] 136));have F0:=hid ((f1.nil (S:=q.blocks)).alloc (.cells #[.pointer (some ⟨q.m,0,none⟩),.int .i64 s] 136));have nb:=HNB.out w1 f1.size;have B0:=hid (Blk.new w1 136 #[.pointer (some ⟨q.m,0,none⟩),.int .i64 s]);obtain⟨W1,hW1⟩:∃W1,w1.alloc (.cells #[.pointer (some ⟨q.m,0,none⟩),.int .i64 s] 136)=W1:=⟨_,rfl⟩;rw[hW1]at K0 F0 B0;obtain⟨gt,hgt⟩:∃gt,w1.heap.size=gt:=⟨_,rfl⟩;rw[hgt]at B0 nb;have DC:=hid (fun V (hV:Fr q.blocks W1 V)=>And.intro (show V.cell? ⟨gt,0,none⟩=some (.pointer (some ⟨q.m,0,none⟩))from(B0.out.fr hV nb).cell 0) (show V.cell? ⟨gt,1,none⟩=some (.int .i64 s)from(B0.out.fr hV nb).cell 1));have d0:=(DC.out _ (Fr.refl _ _)).1;have d1:=(DC.out _ (Fr.refl _ _)).2;have hi0':((i0:Int)== -1)=false:=by rw[beq_eq_false_iff_ne];omega
 have ws:IntKind.i64.wrap ((s:Int)-1)=(s-1:Nat):=by rw[i64_in _ (by omega)];omega
 clear f1;go_upto_region 2 with fail;go_wp2_with fail;with_reducible refine(HBL.out _ K0.out).mono ?_
 rintro e w2 ⟨rfl,h2,f2⟩;have K2:=hid h2;have F2:=hid f2;have d0:=(DC.out _ F2.out).1;have d1:=(DC.out _ F2.out).2;clear h2 f2;go_wp2_with fail;with_reducible refine(HPL.out _ K2.out).mono ?_
 rintro e w3 ⟨rfl,h3,f3⟩;have K3:=hid (HT0.out _ h3);have F3:=hid (F2.out.trans f3);have d0:=(DC.out _ F3.out).1;have d1:=(DC.out _ F3.out).2;clear h3 f3 HBL HPL K0 K2 F2;go_wp2_with fail;go_loopw [7,24] (fun u v W=>∃(c:Nat) (T':Nat→Nat),c≤s-1∧u= .int .i64 (i0+c:Nat)∧v= .int .i64 c∧Hid (dlS H s (s-1-c) (i0+c) T'=TF)∧Hid (∀i,i<s→T' i=0∨L (T' i))∧Hid (IsH W q (t.wsl T'))∧Hid (Fr q.blocks W1 W)) (fun _ v _=>s-1-(intOf v).toNat);case atStart=>exact⟨0,T,by omega,rfl,rfl,HSH,HCL,K3,F3⟩
 case round=>
  clear HSH HCL K3 F3;obtain⟨c,T',hc,rfl,rfl,hsh,hcl,hI,hF⟩:=hrel;have d0:=(DC.out _ hF.out).1;have d1:=(DC.out _ hF.out).2;have HPE:=hid (fun W hW=>HP0.out W T' (i0+c) (by omega) hW);by_cases hlt:c<s-1
  ·have b1':decide (c<s-1)=true:=by simp only[decide_eq_true_eq];omega
   have w1:IntKind.i64.wrap (((i0+c:Nat):Int)+1)=(i0+(c+1):Nat):=by rw[i64_in _ (by omega)];omega
   have w3:=i64_in ((c:Int)+1) (by omega);have hm:(i0+(c+1)) %s<s:=Nat.mod_lt _ hs;have hg:=hid (fun W hW=>HGT.out W T' (i0+(c+1)) (by omega) hW);have hfr:=hid (fun W h0 hW=>HFR.out W T' (i0+(c+1)) (by omega) hcl.out h0 hW);have hv4:=HVL.out _ T' hI.out ((i0+(c+1)) %s);have HPi:=hid (fun W hW=>HPT.out W T' (i0+c) (T' ((i0+(c+1)) %s)) (by omega) hv4 hW)
   have hu:dlS H s (s-1-c) (i0+c) T'=if T' ((i0+(c+1)) %s)=0∨farT T' H s (i0+(c+1))=0 then up T' ((i0+c) %s) 0 else dlS H s (s-1-(c+1)) (i0+(c+1)) (up T' ((i0+c) %s) (T' ((i0+(c+1)) %s))):=by
    rw[show s-1-c=(s-1-(c+1))+1 by omega,dlS];rfl
   rw[hsh.out]at hu
   have HCL2:=hid (show∀i,i<s→up T' ((i0+c) %s) (T' ((i0+(c+1)) %s)) i=0∨L (up T' ((i0+c) %s) (T' ((i0+(c+1)) %s)) i)from fun i hi=>by
    unfold up;split
    ·exact hcl.out _ hm
    ·exact hcl.out i hi)
   obtain⟨ia,hia⟩:∃ia,i0+(c+1)=ia:=⟨_,rfl⟩;rw[hia]at hg hfr HPi hu HCL2 w1 hv4;have HIA:=hid hia;generalize up T' ((i0+c) %s) (T' (ia %s))=T2 at*;generalize farT T' H s ia=fa at*;generalize up T' ((i0+c) %s) 0=T3 at*;generalize T' (ia %s)=v at*;have HU:=hid hu;obtain⟨ic,hic⟩:∃ic,i0+c=ic:=⟨_,rfl⟩;rw[hic]at w1 HPE HPi⊢;clear hu hv4 hia hic hsh hcl hm;go_wp2_with fail;with_reducible refine(hg.out _ hI.out).mono ?_
   rintro e w8 ⟨rfl,h8,f8⟩;have K8:=hid h8;have F8:=hid (hF.out.trans f8);have d0:=(DC.out _ F8.out).1;have d1:=(DC.out _ F8.out).2;clear h8 f8;by_cases hv:v=0
   ·subst hv
    have b2:(((0:Nat):Int)==0)=true:=rfl;have HR:=hid (show T3=TF from by have:=HU.out;rw[if_pos (.inl (by first|rfl|trivial))]at this;exact this.symm);clear HU hfr;go_wp2_with fail;with_reducible refine(HPE.out _ K8.out).mono ?_
    rintro e w9 ⟨rfl,h9,f9⟩;have K9:=hid h9;have F9:=hid (F8.out.trans f9);clear h9 f9;go_wp2_with fail;go_ret;exact⟨rfl,by rw[←HR.out];exact K9.out,F0.out.trans F9.out⟩
   ·have b2:((v:Int)==0)=false:=by rw[beq_eq_false_iff_ne];omega
    have b2':(v==0)=false:=by rw[beq_eq_false_iff_ne];omega
    have hf2:=hid (fun W hW=>hfr.out W hv hW);clear hfr;go_wp2_with fail;with_reducible refine(hf2.out _ K8.out).mono ?_
    rintro e w9 ⟨rfl,h9,f9⟩;have K9:=hid h9;have F9:=hid (F8.out.trans f9);have d0:=(DC.out _ F9.out).1;have d1:=(DC.out _ F9.out).2;clear h9 f9;by_cases hfa:fa=0
    ·subst hfa
     have b3:(((0:Nat):Int)==0)=true:=rfl;have HR:=hid (show T3=TF from by have:=HU.out;rw[if_pos (.inr (by first|rfl|trivial))]at this;exact this.symm);clear HU;go_wp2_with fail;with_reducible refine(HPE.out _ K9.out).mono ?_
     rintro e w10 ⟨rfl,h10,f10⟩;have K10:=hid h10;have F10:=hid (F9.out.trans f10);clear h10 f10;go_wp2_with fail;go_ret;exact⟨rfl,by rw[←HR.out];exact K10.out,F0.out.trans F10.out⟩
    ·have b3:((fa:Int)==0)=false:=by rw[beq_eq_false_iff_ne];omega
     have b3':(fa==0)=false:=by rw[beq_eq_false_iff_ne];omega
     have HR:=hid (show dlS H s (s-1-(c+1)) ia T2=TF from by
      have:=HU.out;rw[if_neg (by rintro(e|e);exact hv e;exact hfa e)]at this;exact this.symm)
     clear HU;have hID:=hid K9.out.drew;have hY:=DC.out _ F9.out.drew;go_wp2_with fail;refine wp_region_held_drew (S:=fun W=>W.cell? ⟨gt,0,none⟩=some (.pointer (some ⟨q.m,0,none⟩))∧W.cell? ⟨gt,1,none⟩=some (.int .i64 s)) (by kernel_rfl) (hY) (fun yH=> ?_);refine tkY 0 yH ?_;refine tkY 1 yH ?_;refine tkY 2 yH ?_;refine tkY 3 yH ?_;refine tkY 4 yH ?_;refine tkC 5 fun K hK=> ?_;go_simp;with_reducible refine(hg.out _ hID.out).mono ?_
     rintro e w11 ⟨rfl,h11,f11⟩;have K11:=hid h11;have F11:=hid (F9.out.drew.trans f11);have hY:=DC.out _ F11.out;clear h11 f11;go_wp2_with fail;refine hK.out _ _ _ hY fun yH=> ?_;clear hK K;refine tkC 6 fun K hK=> ?_;go_simp;with_reducible refine(HPi.out _ K11.out).mono ?_
     rintro e w12 ⟨rfl,h12,f12⟩;have K12:=hid h12;have F12:=hid (F11.out.trans f12);have hY:=DC.out _ F12.out;clear h12 f12;go_wp2_with fail;refine hK.out _ _ _ hY fun yH=> ?_;clear hK K;refine wpAnyH_done (by kernel_rfl) ?_ _;try simp only[Act.put,List.getElem_toArray,List.getElem_cons_zero,List.getElem_cons_succ,List.setIfInBounds_toArray,List.set_cons_zero,List.set_cons_succ]
     go_wp2_with fail;go_roundw;case rel=>exact⟨c+1,T2,by omega,by rw[HIA.out],by go_num,by rw[HIA.out];exact HR,HCL2,K12,F12⟩
     case measure=>simp[intOf];omega
  ·obtain rfl:c=s-1:=by omega
   have b1':decide (s-1<s-1)=false:=by simp
   have HR:=hid (show up T' ((i0+(s-1)) %s) 0=TF from by
    have:=hsh.out;rw[Nat.sub_self]at this;exact this)
   generalize s-1=sm at*;obtain⟨ic,hic⟩:∃ic,i0+sm=ic:=⟨_,rfl⟩;rw[hic]at HPE HR⊢;clear hlt hsh hcl hic;go_wp2_with fail;with_reducible refine(HPE.out _ hI.out).mono ?_
   rintro e w9 ⟨rfl,h9,f9⟩;have K9:=hid h9;have F9:=hid (hF.out.trans f9);clear h9 f9;go_wp2_with fail;go_ret;exact⟨rfl,by rw[←HR.out];exact K9.out,F0.out.trans F9.out⟩
end
def dst(n h s:Nat):Nat:=if s<h then s+n-h else s-h
section
variable {n : Nat} {T H : Nat → Nat} {a h s : Nat}
theorem zhe(i:Nat):farT T H n i=dst n (H (T (i %n))) (i %n):=rfl
theorem zet(hs:s<n):(s+1) %n=if s+1=n then 0 else s+1:=by
 split
 ·next e=>rw[e,Nat.mod_self]
 ·next e=>exact Nat.mod_eq_of_lt (by omega)
theorem zaw(a j:Nat):((a+j) %n+1) %n=(a+(j+1)) %n:=by rw[Nat.mod_add_mod,Nat.add_assoc]
theorem zaz{i j:Nat}(hi:i<n)(hj:j<n)(h:(a+i) %n=(a+j) %n):i=j:=by
 rcases Nat.le_total i j with hij|hij
 ·have:=Nat.sub_mod_eq_zero_of_mod_eq h.symm
  rw[show a+j-(a+i)=j-i by omega,Nat.mod_eq_of_lt (by omega)]at this;omega
 ·have:=Nat.sub_mod_eq_zero_of_mod_eq h
  rw[show a+i-(a+j)=i-j by omega,Nat.mod_eq_of_lt (by omega)]at this;omega
theorem zb6(a:Nat)(hs:s<n):∃j,j<n∧(a+j) %n=s:=by
 have h0:0<n:=by omega
 have ha:=Nat.mod_lt a h0;refine⟨(s+n-a %n) %n,Nat.mod_lt _ h0,?_⟩;rw[Nat.add_mod_mod,←Nat.mod_add_mod];rw[show a %n+(s+n-a %n)=s+n by omega,Nat.add_mod_right,Nat.mod_eq_of_lt hs]
theorem zen{k:Nat}(hh:h<n)(hk:k<n):dst n h ((h+k) %n)=k:=by
 unfold dst;by_cases c:h+k<n
 ·rw[Nat.mod_eq_of_lt c,if_neg (by omega)];omega
 ·have:(h+k) %n=h+k-n:=by
   rw[Nat.mod_eq_sub_mod (by omega),Nat.mod_eq_of_lt (by omega)]
  rw[this,if_pos (by omega)];omega
theorem zrw(hh:h<n)(hs:s<n)(hd:dst n h s+1<n):dst n h ((s+1) %n)=dst n h s+1:=by
 rw[zet hs];unfold dst at hd⊢;split at hd<;>split<;>split<;>omega
structure RH(n:Nat)(T H:Nat→Nat):Prop where
 n0:0<n
 hm: ∀y,H y<n
 rh: ∀s,s<n→T ((s+1) %n)≠0→0<dst n (H (T ((s+1) %n))) ((s+1) %n)→T s≠0∧dst n (H (T ((s+1) %n))) ((s+1) %n)≤dst n (H (T s)) s+1
theorem RH.gapFar(r:RH n T H)(e:Nat)(he:T (e %n)=0):∀d,d+1<n→T ((e+(d+1)) %n)≠0→dst n (H (T ((e+(d+1)) %n))) ((e+(d+1)) %n)≤d
 |0,hd,h0=>by
  by_cases hp:0<dst n (H (T ((e+(0+1)) %n))) ((e+(0+1)) %n)
  ·have:=r.rh (e %n) (Nat.mod_lt _ r.n0)
   rw[Nat.mod_add_mod]at this;exact absurd he (this h0 hp).1
  ·omega
 |d+1,hd,h0=>by
  by_cases hp:0<dst n (H (T ((e+(d+1+1)) %n))) ((e+(d+1+1)) %n)
  ·have:=r.rh ((e+(d+1)) %n) (Nat.mod_lt _ r.n0)
   rw[zaw]at this;obtain⟨h1,h2⟩:=this h0 hp;have:=RH.gapFar r e he d (by omega) h1;omega
  ·omega
theorem zoo(n to:Nat):∀(g:Nat) (T:Nat→Nat),g<n→(∀i,i<g→shS n to g T ((to+(i+1)) %n)=T ((to+i) %n))∧(∀s,(∀i,i<g→s≠(to+(i+1)) %n)→shS n to g T s=T s)
 |0,T,_=>⟨fun i hi=>absurd hi (Nat.not_lt_zero _),fun s _=>rfl⟩
 |g+1,T,hg=>by
  obtain⟨h1,h2⟩:=zoo n to g (up T ((to+(g+1)) %n) (T ((to+g) %n))) (by omega);refine⟨fun i hi=> ?_,fun s hs=> ?_⟩
  ·show shS n to g (up T ((to+(g+1)) %n) (T ((to+g) %n))) _=_
   by_cases e:i=g
   ·subst e
    rw[h2 _ (fun j hj e=>by
     have:=zaz (a:=to) (i:=i+1) (j:=j+1) (by omega) (by omega) e;omega),zaa]
   ·rw[h1 i (by omega),zac]
    intro e2;have:=zaz (a:=to) (i:=i) (j:=g+1) (by omega) (by omega) e2;omega
  ·show shS n to g (up T ((to+(g+1)) %n) (T ((to+g) %n))) s=T s
   rw[h2 s (fun i hi=>hs i (by omega)),zac];exact hs g (by omega)
theorem zcd(n a:Nat)(T:Nat→Nat):∀f k r,gapS T n a f k=some r→k≤r∧r<k+f∧T ((a+r) %n)=0∧∀j,k≤j→j<r→T ((a+j) %n)≠0
 |0,k,r,h=>nomatch h
 |f+1,k,r,h=>by
  unfold gapS at h;by_cases h0:T ((a+k) %n)=0
  ·rw[if_pos h0]at h
   injection h with h;subst h;exact⟨Nat.le_refl _,by omega,h0,fun j h1 h2=>by omega⟩
  ·rw[if_neg h0]at h
   obtain⟨h1,h2,h3,h4⟩:=zcd n a T f (k+1) r h
   exact⟨by omega,by omega,h3,fun j j1 j2=>by
    by_cases e:j=k
    ·rw[e];exact h0
    ·exact h4 j (by omega) j2⟩
theorem ze1(n a:Nat)(T:Nat→Nat):∀f k,gapS T n a f k=none→∀j,k≤j→j<k+f→T ((a+j) %n)≠0
 |0,k,_,j,h1,h2=>by omega
 |f+1,k,h,j,h1,h2=>by
  unfold gapS at h;by_cases h0:T ((a+k) %n)=0
  ·rw[if_pos h0]at h;exact nomatch h
  ·rw[if_neg h0]at h
   by_cases e:j=k
   ·rw[e];exact h0
   ·exact ze1 n a T f (k+1) h j (by omega) (by omega)
theorem zoj{b:Nat}(h0:0<n){g:Nat}(hg:gapT T n a=some g):∃g',gapT T n b=some g':=by
 cases h:gapT T n b with
 |some g'=>exact⟨g',rfl⟩
 |none=>
  obtain⟨_,_,h3,_⟩:=zcd n a T n 0 g hg;obtain⟨j,hj,e⟩:=zb6 (n:=n) b (Nat.mod_lt (a+g) h0);have:=ze1 n b T n 0 h j (Nat.zero_le _) (by omega);rw[e]at this;exact absurd h3 this
theorem zid(P:Nat→Bool):∀m,P m=true→∃k,k≤m∧P k=true∧∀j,j<k→P j=false
 |0,h=>⟨0,Nat.le_refl _,h,fun j hj=>absurd hj (Nat.not_lt_zero _)⟩
 |m+1,h=>by
  by_cases hm:∃j,j≤m∧P j=true
  ·obtain⟨j,hj,hp⟩:=hm
   obtain⟨k,hk,h1,h2⟩:=zid P j hp;exact⟨k,by omega,h1,h2⟩
  ·refine⟨m+1,Nat.le_refl _,h,fun j hj=> ?_⟩
   cases hp:P j with
   |false=>rfl
   |true=>exact absurd ⟨j,by omega,hp⟩ hm
theorem zve(h0:0<n)(hh:h<n){g0:Nat}(hg:gapT T n h=some g0):∃k g,InsP T H n h k g∧k<n∧g<n:=by
 obtain⟨_,g1,g2,_⟩:=zcd n h T n 0 g0 hg;obtain⟨k,hk,h1,h2⟩:=zid (fun j=>endB T H n (h+j) j) g0 (by unfold endB;rw[if_pos g2]);obtain⟨g,hg'⟩:=zoj (b:=h+k) h0 hg;obtain⟨_,g3,_,_⟩:=zcd n (h+k) T n 0 g hg';exact⟨k,g,⟨by omega,by omega,h2,h1,hg'⟩,by omega,by omega⟩
end
def insX(T:Nat→Nat)(n to g x:Nat):Nat→Nat:=up (shS n to g T) (to %n) x
structure InsQ(n:Nat)(T H:Nat→Nat)(h k g x:Nat):Prop where
 r:RH n T H
 ip:InsP T H n h k g
 kn:k<n
 gn:g<n
 hx:H x=h
 x0:x≠0
 nx: ∀s,s<n→T s≠x
section
variable {n : Nat} {T H : Nat → Nat} {h k g x s : Nat}
theorem InsQ.hn(Q:InsQ n T H h k g x):h<n:=by rw[←Q.hx];exact Q.r.hm x
theorem InsQ.gap0(Q:InsQ n T H h k g x):T ((h+k+g) %n)=0:=(zcd n (h+k) T n 0 g Q.ip.gap).2.2.1
theorem InsQ.gap1(Q:InsQ n T H h k g x){j:Nat}(hj:j<g):T ((h+k+j) %n)≠0:=(zcd n (h+k) T n 0 g Q.ip.gap).2.2.2 j (Nat.zero_le _) hj
theorem InsQ.pre(Q:InsQ n T H h k g x){j:Nat}(hj:j<k):T ((h+j) %n)≠0∧j≤dst n (H (T ((h+j) %n))) ((h+j) %n):=by
 have:=Q.ip.no j hj;unfold endB at this;by_cases h0:T ((h+j) %n)=0
 ·rw[if_pos h0]at this;exact nomatch this
 ·rw[if_neg h0]at this
  refine⟨h0,?_⟩;have:=of_decide_eq_false this;rw[zhe]at this;omega
theorem InsQ.end0(Q:InsQ n T H h k g x)(h0:T ((h+k) %n)≠0):dst n (H (T ((h+k) %n))) ((h+k) %n)<k:=by
 have:=Q.ip.yes;unfold endB at this;rw[if_neg h0]at this;have:=of_decide_eq_true this;rw[zhe]at this;exact this
theorem InsQ.out(Q:InsQ n T H h k g x){j i:Nat}(hj:j<k)(hi:i≤g):(h+j) %n≠(h+k+i) %n:=by
 intro e;have hk:=Q.kn;have hg:=Q.gn;by_cases c:k+i<n
 ·rw[Nat.add_assoc]at e
  have:=zaz (n:=n) (a:=h) (i:=j) (j:=k+i) (by omega) c e;omega
 ·have e2:(h+k+i) %n=(h+(k+i-n)) %n:=by
   rw[show h+k+i=h+(k+i-n)+n by omega,Nat.add_mod_right]
  rw[e2]at e;have hji:=zaz (n:=n) (a:=h) (i:=j) (j:=k+i-n) (by omega) (by omega) e;have h0:=Q.gap0;rw[show h+k+g=h+(k+g-n)+n by omega,Nat.add_mod_right]at h0;exact(Q.pre (j:=k+g-n) (by omega)).1 h0
theorem InsQ.at0(Q:InsQ n T H h k g x):insX T n (h+k) g x ((h+k) %n)=x:=zaa _ _ _
theorem InsQ.at1(Q:InsQ n T H h k g x){i:Nat}(hi:i<g):insX T n (h+k) g x ((h+k+(i+1)) %n)=T ((h+k+i) %n):=by
 unfold insX;rw[zac,(zoo n (h+k) g T Q.gn).1 i hi];intro e;have:=zaz (n:=n) (a:=h+k) (i:=i+1) (j:=0) (by have:=Q.gn;omega) (by have:=Q.gn;omega) e;omega
theorem InsQ.at2(Q:InsQ n T H h k g x)(hs:∀i,i≤g→s≠(h+k+i) %n):insX T n (h+k) g x s=T s:=by
 unfold insX;rw[zac _ _ (by have:=hs 0 (Nat.zero_le _);rwa[Nat.add_zero]at this),(zoo n (h+k) g T Q.gn).2 s (fun i hi=>hs (i+1) (by omega))]
theorem InsQ.atPre(Q:InsQ n T H h k g x){j:Nat}(hj:j<k):insX T n (h+k) g x ((h+j) %n)=T ((h+j) %n):=Q.at2 (fun i hi=>Q.out hj hi)
theorem InsQ.far(Q:InsQ n T H h k g x){j:Nat}(hj:j<g):dst n (H (T ((h+k+j) %n))) ((h+k+j) %n)+1<n:=by
 have hg:=Q.gn;have:=Q.r.gapFar (h+k+g) Q.gap0 (n-g+j-1) (by omega);rw[show h+k+g+(n-g+j-1+1)=h+k+j+n by omega,Nat.add_mod_right]at this;have:=this (Q.gap1 hj);omega
theorem InsQ.farS(Q:InsQ n T H h k g x){j:Nat}(hj:j<g):dst n (H (T ((h+k+j) %n))) ((h+k+(j+1)) %n)=dst n (H (T ((h+k+j) %n))) ((h+k+j) %n)+1:=by
 have:=zrw (n:=n) (h:=H (T ((h+k+j) %n))) (s:=(h+k+j) %n) (Q.r.hm _) (Nat.mod_lt _ Q.r.n0) (Q.far hj);rw[zaw]at this;exact this
theorem InsQ.rh(Q:InsQ n T H h k g x):RH n (insX T n (h+k) g x) H:=by
 have hg:=Q.gn;have hk:=Q.kn;refine⟨Q.r.n0,Q.r.hm,fun s hs h0 hp=> ?_⟩;obtain⟨j,hj,rfl⟩:=zb6 (n:=n) (h+k) hs;rw[zaw]at h0 hp⊢
 have hin:∀i,i<n→g<i→∀i',i'≤g→(h+k+i) %n≠(h+k+i') %n:=fun i hi hgi i' hi' e=>by
  have:=zaz (n:=n) (a:=h+k) hi (by omega) e;omega
 by_cases c1:j+1=n
 ·rw[show h+k+(j+1)=h+k+n by omega,Nat.add_mod_right]at hp⊢
  rw[Q.at0,Q.hx,zen Q.hn Q.kn]at hp⊢
  have e:(h+k+j) %n=(h+(k-1)) %n:=by
   rw[show h+k+j=h+(k-1)+n by omega,Nat.add_mod_right]
  rw[e,Q.atPre (by omega)];have:=Q.pre (j:=k-1) (by omega);exact⟨this.1,by omega⟩
 ·by_cases c2:j<g
  ·rw[Q.at1 c2,Q.farS c2]
   rcases j with _|j
   ·rw[Nat.add_zero,Q.at0,Q.hx,zen Q.hn Q.kn]
    have:=Q.end0 (by have:=Q.gap1 c2;rwa[Nat.add_zero]at this);exact⟨Q.x0,by omega⟩
   ·rw[Q.at1 (by omega),Q.farS (by omega)]
    refine⟨Q.gap1 (by omega),?_⟩;by_cases c3:0<dst n (H (T ((h+k+(j+1)) %n))) ((h+k+(j+1)) %n)
    ·have:=Q.r.rh ((h+k+j) %n) (Nat.mod_lt _ Q.r.n0)
     rw[zaw]at this;have:=(this (Q.gap1 c2) c3).2;omega
    ·omega
  ·have e1:insX T n (h+k) g x ((h+k+(j+1)) %n)=T ((h+k+(j+1)) %n):=Q.at2 (fun i' hi'=>hin (j+1) (by omega) (by omega) i' hi')
   rw[e1]at h0 hp⊢;have rr:=Q.r.rh ((h+k+j) %n) (Nat.mod_lt _ Q.r.n0);rw[zaw]at rr;have:=rr h0 hp;by_cases c3:j=g
   ·subst c3
    exact absurd Q.gap0 this.1
   ·rw[Q.at2 (fun i' hi'=>hin j hj (by omega) i' hi')]
    exact this
theorem zfr{P:Nat→Prop}(Q:InsQ n T H h k g x)(hT:∀s,s<n→T s=0∨P (T s))(hx:P x):∀s,s<n→insX T n (h+k) g x s=0∨P (insX T n (h+k) g x s):=fun s hs=>by
 have hg:=Q.gn;obtain⟨j,hj,rfl⟩:=zb6 (n:=n) (h+k) hs;rcases j with _|j
 ·rw[Nat.add_zero,Q.at0];exact .inr hx
 ·by_cases c:j<g
  ·rw[Q.at1 c];exact hT _ (Nat.mod_lt _ Q.r.n0)
  ·rw[Q.at2 (fun i hi e=>by
    have:=zaz (n:=n) (a:=h+k) hj (by omega) e;omega)]
   exact hT _ hs
end
section
end
end Go.Proofs.YtolhkhdbgnciiaaGreatDoor
