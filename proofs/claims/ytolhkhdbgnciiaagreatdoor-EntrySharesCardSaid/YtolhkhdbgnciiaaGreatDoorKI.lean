/- Several texts in one. -/
import Derived.Test.YtolhkhdbgnciiaaGreatDoorKG
namespace Go.Proofs.YtolhkhdbgnciiaaGreatDoor
open _root_.Go.Proofs.Tryz
open Go.Lib (hid)
open Go.IntWalk (i64_in)
set_option linter.unusedVariables false
set_option linter.unusedSimpArgs false
open Go.RowKit
set_option maxRecDepth 1000000
set_option maxHeartbeats 4000000
section
variable {w : World} {q : MH} {t : TM} {L : Nat → Prop} {E : Nat → HB}
theorem zyf(h:IsH w q t)(g:IxI t L E)(P:Nat→Bool)(hs bA bB bC bD:Nat)(hh:hs<4294967296)(hIS:∀W,IsH W q t→Fr q.blocks w W→∀y,L y→Calls prog 295 #[.int .i64 y,.pointer (some ⟨bA,0,none⟩),.pointer (some ⟨bB,0,none⟩),.pointer (some ⟨bC,0,none⟩),.pointer (some ⟨bD,0,none⟩)] W fun e w'=>e= .returned (.bool (P y))∧IsH w' q t∧Fr q.blocks W w'):Calls prog 227 #[.agg #[.pointer (some ⟨q.m,0,none⟩),.int .i64 t.s],.agg #[.int .u32 hs,.func (.func 295) #[] #[.pointer (some ⟨bA,0,none⟩),.pointer (some ⟨bB,0,none⟩),.pointer (some ⟨bC,0,none⟩),.pointer (some ⟨bD,0,none⟩)]]] w fun e w'=>e= .returned (.int .i64 (optZ (fndT t.sl (hmE t E) t.s (hs %t.s) P)))∧IsH w' q t∧Fr q.blocks w w':=by
 have b0:((t.s:Int)==0)=false:=by have:=g.s0;rw[beq_eq_false_iff_ne];omega
 have b0':(t.s==0)=false:=by have:=g.s0;rw[beq_eq_false_iff_ne];omega
 have hs1:=g.s1;have hml:hs %t.s<t.s:=Nat.mod_lt _ g.s0;have HM:=hid (fun W=>zk8 W hs t.s hh g.s0 (by have:=g.s1;omega));have HE:=hid (fun W k (hk:k<t.s) (hW:IsH W q t)=>(show Calls prog 182 #[.agg #[.pointer (some ⟨q.m,0,none⟩),.int .i64 t.s],.int .i64 (hs %t.s+k:Nat),.int .i64 k] W fun e w'=>e= .returned (.bool (endB t.sl (hmE t E) t.s (hs %t.s+k) k))∧IsH w' q t∧Fr q.blocks W w' from zj6 hW g (hs %t.s+k) k (by omega)))
 have HG:=hid (fun W k (hk:k<t.s) (hW:IsH W q t)=>(show Calls prog 141 #[.agg #[.pointer (some ⟨q.m,0,none⟩),.int .i64 t.s],.int .i64 (hs %t.s+k:Nat)] W fun e w'=>e= .returned (.int .i64 (t.sl ((hs %t.s+k) %t.s)))∧IsH w' q t∧Fr q.blocks W w' from
  (iget hW.m _ (by omega) g.s0).mono fun e w' ⟨he,k1,k2⟩=>⟨he,hW.step k1 k2,k2⟩))
 have HO:=hid (fun W k (hk:k<t.s)=>(show Calls prog 230 #[.agg #[.pointer (some ⟨q.m,0,none⟩),.int .i64 t.s],.int .i64 (hs %t.s+k:Nat)] W fun e w'=>e= .returned (.int .i64 ((hs %t.s+k) %t.s:Nat))∧Fr [] W w' from zgf W q.m t.s _ g.s0 (by omega)));have HIS:=hid hIS
 have HLV:=hid (show∀i j,endB t.sl (hmE t E) t.s i j=false→L (t.sl (i %t.s))from fun i j e=>by
  unfold endB at e;by_cases h0:t.sl (i %t.s)=0
  ·rw[if_pos h0]at e;exact nomatch e
  ·exact(g.sl _ (Nat.mod_lt _ g.s0)).resolve_left h0)
 have H0:=hid ((h.alloc (.cells #[.pointer (some ⟨q.m,0,none⟩),.int .i64 t.s] 136)).alloc (.cells #[.int .u32 hs,.func (.func 295) #[] #[.pointer (some ⟨bA,0,none⟩),.pointer (some ⟨bB,0,none⟩),.pointer (some ⟨bC,0,none⟩),.pointer (some ⟨bD,0,none⟩)]] 203));have F0:=hid (((Fr.refl q.blocks w).alloc (.cells #[.pointer (some ⟨q.m,0,none⟩),.int .i64 t.s] 136)).alloc (.cells #[.int .u32 hs,.func (.func 295) #[] #[.pointer (some ⟨bA,0,none⟩),.pointer (some ⟨bB,0,none⟩),.pointer (some ⟨bC,0,none⟩),.pointer (some ⟨bD,0,none⟩)]] 203));have B0:=hid ((Blk.new w 136 #[.pointer (some ⟨q.m,0,none⟩),.int .i64 t.s]).alloc (.cells #[.int .u32 hs,.func (.func 295) #[] #[.pointer (some ⟨bA,0,none⟩),.pointer (some ⟨bB,0,none⟩),.pointer (some ⟨bC,0,none⟩),.pointer (some ⟨bD,0,none⟩)]] 203));have hb1:=Blk.new (w.alloc (.cells #[.pointer (some ⟨q.m,0,none⟩),.int .i64 t.s] 136)) 203 #[.int .u32 hs,.func (.func 295) #[] #[.pointer (some ⟨bA,0,none⟩),.pointer (some ⟨bB,0,none⟩),.pointer (some ⟨bC,0,none⟩),.pointer (some ⟨bD,0,none⟩)]];rw[World.size_alloc]at hb1;have B1:=hid hb1;have hlt:=h.m.lt;have nb:w.heap.size∉q.blocks:=fun hm=>by have:=hlt _ hm;omega
 have nb1:w.heap.size+1∉q.blocks:=fun hm=>by have:=hlt _ hm;omega
 obtain⟨W0,hW0⟩:∃W0,(w.alloc (.cells #[.pointer (some ⟨q.m,0,none⟩),.int .i64 t.s] 136)).alloc (.cells #[.int .u32 hs,.func (.func 295) #[] #[.pointer (some ⟨bA,0,none⟩),.pointer (some ⟨bB,0,none⟩),.pointer (some ⟨bC,0,none⟩),.pointer (some ⟨bD,0,none⟩)]] 203)=W0:=⟨_,rfl⟩;have HW0:=hid hW0;rw[hW0]at H0 F0 B0 B1;have DC:=hid (fun V (hV:Fr q.blocks W0 V)=>And.intro (show V.cell? ⟨w.heap.size,0,none⟩=some (.pointer (some ⟨q.m,0,none⟩))from(B0.out.fr hV nb).cell 0) (And.intro (show V.cell? ⟨w.heap.size,1,none⟩=some (.int .i64 t.s)from(B0.out.fr hV nb).cell 1) (And.intro (show V.cell? ⟨w.heap.size+1,0,none⟩=some (.int .u32 hs)from(B1.out.fr hV nb1).cell 0) (show V.cell? ⟨w.heap.size+1,1,none⟩=some (.func (.func 295) #[] #[.pointer (some ⟨bA,0,none⟩),.pointer (some ⟨bB,0,none⟩),.pointer (some ⟨bC,0,none⟩),.pointer (some ⟨bD,0,none⟩)])from(B1.out.fr hV nb1).cell 1))));obtain⟨R,hR⟩:∃R,fndT t.sl (hmE t E) t.s (hs %t.s) P=R:=⟨_,rfl⟩;rw[hR];have HR:=hid (show fndS t.sl (hmE t E) t.s (hs %t.s) P (t.s-0) 0=R from hR)
 have HUN:=hid (show∀k,k<t.s→fndS t.sl (hmE t E) t.s (hs %t.s) P (t.s-k) k=if endB t.sl (hmE t E) t.s (hs %t.s+k) k=true then none else if P (t.sl ((hs %t.s+k) %t.s))=true then some ((hs %t.s+k) %t.s)else fndS t.sl (hmE t E) t.s (hs %t.s) P (t.s-(k+1)) (k+1)from fun k hk=>by
  rw[show t.s-k=(t.s-(k+1))+1 by omega,fndS])
 have HZ:=hid (show fndS t.sl (hmE t E) t.s (hs %t.s) P (t.s-t.s) t.s=none from by rw[Nat.sub_self];rfl);generalize hF9:fndS t.sl (hmE t E) t.s (hs %t.s) P=FS at*;generalize hsl:t.sl=T at*;generalize hmE t E=H at*;generalize hsz:t.s=s at*;generalize hs %s=hm at*;clear h hlt g hR hsl hF9 hb1 hh hIS;go_enter func227,ntmps227;go_wp2_with fail;try rw[hW0]
 clear hsz hW0;have d0:=(DC.out _ (Fr.refl _ _)).1;have d1:=(DC.out _ (Fr.refl _ _)).2.1;have d2:=(DC.out _ (Fr.refl _ _)).2.2.1;have d3:=(DC.out _ (Fr.refl _ _)).2.2.2;refine wp_scope_jumps 0 (fun a' w'=>∃(k:Nat) (u7 u8 u9 u10 u11 u12 u13 u14 u15 u16 u17 u18 u19 u20 u21 u22 u23 u24 u25 u26 u27 u28 u29 u30 u31 u32 u33 u34 u35 u36 u37 u38 u39 u40 u41:Value),a'={tmps:= #[.agg #[.pointer (some ⟨q.m,0,none⟩),.int .i64 s],.agg #[.int .u32 hs,.func (.func 295) #[] #[.pointer (some ⟨bA,0,none⟩),.pointer (some ⟨bB,0,none⟩),.pointer (some ⟨bC,0,none⟩),.pointer (some ⟨bD,0,none⟩)]],.pointer (some ⟨w.heap.size,0,none⟩),.pointer (some ⟨w.heap.size+1,0,none⟩),.int .i64 0,.int .i64 hm,.int .i64 k,u7,u8,u9,u10,u11,u12,u13,u14,u15,u16,u17,u18,u19,u20,u21,u22,u23,u24,u25,u26,u27,u28,u29,u30,u31,u32,u33,u34,u35,u36,u37,u38,u39,u40,u41],defers:= []}∧k≤s∧Hid (FS (s-k) k=R)∧Hid (IsH w' q t)∧Hid (Fr q.blocks W0 w')) (fun a' _=>s-(intOf (a'.tmps.getD 6 undef)).toNat) rfl ?_ ?_
 ·go_wp2_with fail
  with_reducible refine(HM.out _).mono ?_
  rintro e w1 ⟨rfl,f1⟩;have hI:=hid (H0.out.fr0 f1);have hF:=hid (f1.nil (S:=q.blocks));have d0:=(DC.out _ hF.out).1;have d1:=(DC.out _ hF.out).2.1;have d2:=(DC.out _ hF.out).2.2.1;have d3:=(DC.out _ hF.out).2.2.2;have hlt:0<s:=by omega
  have b1:((0:Int)==s)=false:=by rw[beq_eq_false_iff_ne];omega
  have b1':(0==s)=false:=by rw[beq_eq_false_iff_ne];omega
  have wq1:IntKind.i64.wrap (hm:Int)=hm:=i64_in _ (by omega);have he:=(show Calls prog 182 #[.agg #[.pointer (some ⟨q.m,0,none⟩),.int .i64 s],.int .i64 hm,.int .i64 0] w1 fun e w'=>e= .returned (.bool (endB T H s hm 0))∧IsH w' q t∧Fr q.blocks w1 w' from HE.out w1 0 hlt hI.out);have hg:=hid (fun W hW=>(show Calls prog 141 #[.agg #[.pointer (some ⟨q.m,0,none⟩),.int .i64 s],.int .i64 hm] W fun e w'=>e= .returned (.int .i64 (T (hm %s)))∧IsH w' q t∧Fr q.blocks W w' from HG.out W 0 hlt hW));have ho:=hid (fun W=>(show Calls prog 230 #[.agg #[.pointer (some ⟨q.m,0,none⟩),.int .i64 s],.int .i64 hm] W fun e w'=>e= .returned (.int .i64 (hm %s:Nat))∧Fr [] W w' from HO.out W 0 hlt));have hu:=HUN.out 0 hlt;rw[HR.out]at hu;simp only[Nat.add_zero]at hu;clear f1 HM;have hLV:endB T H s hm 0=false→L (T (hm %s)):=HLV.out hm 0;generalize endB T H s hm 0=ev at*;generalize T (hm %s)=v at*;generalize hm %s=rk at*;have HU:=hid hu;clear hu;go_wp2_with fail;go_step3;go_wp2_with fail;with_reducible refine he.mono ?_
  rintro e w2 ⟨rfl,h2,f2⟩;have H2:=hid h2;have F2:=hid (hF.out.trans f2);have d0:=(DC.out _ F2.out).1;have d1:=(DC.out _ F2.out).2.1;have d2:=(DC.out _ F2.out).2.2.1;have d3:=(DC.out _ F2.out).2.2.2;clear h2 f2 he;rcases ev with _|_
  ·have HLv:=hid (hLV (by first|exact rfl|trivial))
   have H2d:=hid H2.out.drew;have hY:=And.intro (DC.out _ F2.out.drew).1 (And.intro (DC.out _ F2.out.drew).2.1 (DC.out _ F2.out.drew).2.2.2);go_wp2_with fail;refine wp_region_held_drew (S:=fun W=>W.cell? ⟨w.heap.size,0,none⟩=some (.pointer (some ⟨q.m,0,none⟩))∧W.cell? ⟨w.heap.size,1,none⟩=some (.int .i64 s)∧W.cell? ⟨w.heap.size+1,1,none⟩=some (.func (.func 295) #[] #[.pointer (some ⟨bA,0,none⟩),.pointer (some ⟨bB,0,none⟩),.pointer (some ⟨bC,0,none⟩),.pointer (some ⟨bD,0,none⟩)])) (by kernel_rfl) (hY) (fun yH=> ?_);refine tkY 0 yH ?_;refine tkY 1 yH ?_;refine tkY 2 yH ?_;refine tkY 3 yH ?_;refine tkY 4 yH ?_;refine tkY 5 yH ?_;refine tkC 6 fun K hK=> ?_;go_simp;with_reducible refine(hg.out _ H2d.out).mono ?_
   rintro e w4 ⟨rfl,h4,f4⟩;have H4:=hid h4;have F4:=hid (F2.out.drew.trans f4);have hY:=And.intro (DC.out _ F4.out).1 (And.intro (DC.out _ F4.out).2.1 (DC.out _ F4.out).2.2.2);clear h4 f4;go_wp2_with fail;refine hK.out _ _ _ hY fun yH=> ?_;clear hK K;refine tkC 7 fun K hK=> ?_;go_simp;with_reducible refine(HIS.out _ H4.out (F0.out.trans F4.out) _ HLv.out).mono ?_
   rintro e w5 ⟨rfl,h5,f5⟩;have H5:=hid h5;have F5:=hid (F4.out.trans f5);have hY:=And.intro (DC.out _ F5.out).1 (And.intro (DC.out _ F5.out).2.1 (DC.out _ F5.out).2.2.2);clear h5 f5;go_wp2_with fail;refine hK.out _ _ _ hY fun yH=> ?_;clear hK K;refine wpAnyH_done (by kernel_rfl) ?_ _;try simp only[Act.put,List.getElem_toArray,List.getElem_cons_zero,List.getElem_cons_succ,List.setIfInBounds_toArray,List.set_cons_zero,List.set_cons_succ]
   have d0:=(DC.out _ F5.out).1;have d1:=(DC.out _ F5.out).2.1;obtain⟨c,hc⟩:∃c:Bool,P v=c:=⟨_,rfl⟩;rw[hc];rw[hc]at HU;clear hY;rcases c with _|_
   ·have HN:=hid (show FS (s-1) 1=R from by have:=HU.out;simpa using this.symm)
    go_wp2_with fail;go_step3;refine⟨rfl,1,_,_,_,_,_,_,_,_,_,_,_,_,_,_,_,_,_,_,_,_,_,_,_,_,_,_,_,_,_,_,_,_,_,_,_,by first|rfl|(congr 1;go_num),by omega,HN,H5,F5⟩
   ·have HRR:=hid (show(rk:Int)=optZ R from by have:=HU.out;simp at this;rw[this];rfl)
    go_wp2_with fail;with_reducible refine(ho.out _).mono ?_
    rintro e w6 ⟨rfl,f6⟩;have H6:=hid (H5.out.fr0 f6);have F6:=hid (F5.out.trans f6.nil);clear f6;go_wp2_with fail;try simp only[Exit.jump]
    go_ret;exact⟨by rw[←HRR.out];rfl,H6.out,F0.out.trans F6.out⟩
  ·have HRR:=hid (show(-1:Int)=optZ R from by have:=HU.out;simp at this;rw[this];rfl)
   go_wp2_with fail;try simp only[Exit.jump]
   go_ret;exact⟨by rw[←HRR.out];rfl,H2.out,F0.out.trans F2.out⟩
 ·rintro a' w' ⟨k,u7,u8,u9,u10,u11,u12,u13,u14,u15,u16,u17,u18,u19,u20,u21,u22,u23,u24,u25,u26,u27,u28,u29,u30,u31,u32,u33,u34,u35,u36,u37,u38,u39,u40,u41,rfl,hks,hRk,hI,hF⟩
  have d0:=(DC.out _ hF.out).1;have d1:=(DC.out _ hF.out).2.1;have d2:=(DC.out _ hF.out).2.2.1;have d3:=(DC.out _ hF.out).2.2.2;by_cases hlt:k<s
  ·have b1:((k:Int)==s)=false:=by rw[beq_eq_false_iff_ne];omega
   have b1':(k==s)=false:=by rw[beq_eq_false_iff_ne];omega
   have w1:IntKind.i64.wrap ((hm:Int)+k)=(hm+k:Nat):=by rw[i64_in _ (by omega)];omega
   have w3:=i64_in ((k:Int)+1) (by omega);have he:=HE.out _ k hlt hI.out;have hg:=hid (fun W hW=>HG.out W k hlt hW);have ho:=hid (fun W=>HO.out W k hlt);have hu:=HUN.out k hlt;rw[hRk.out]at hu;generalize hm+k=ak at*;have hLV:endB T H s ak k=false→L (T (ak %s)):=HLV.out ak k;generalize endB T H s ak k=ev at*;generalize T (ak %s)=v at*;generalize ak %s=rk at*;have HU:=hid hu;clear hu;go_wp2_with fail;with_reducible refine he.mono ?_
   rintro e w2 ⟨rfl,h2,f2⟩;have H2:=hid h2;have F2:=hid (hF.out.trans f2);have d0:=(DC.out _ F2.out).1;have d1:=(DC.out _ F2.out).2.1;have d2:=(DC.out _ F2.out).2.2.1;have d3:=(DC.out _ F2.out).2.2.2;clear h2 f2 he;rcases ev with _|_
   ·have HLv:=hid (hLV (by first|exact rfl|trivial))
    have H2d:=hid H2.out.drew;have hY:=And.intro (DC.out _ F2.out.drew).1 (And.intro (DC.out _ F2.out.drew).2.1 (DC.out _ F2.out.drew).2.2.2);go_wp2_with fail;refine wp_region_held_drew (S:=fun W=>W.cell? ⟨w.heap.size,0,none⟩=some (.pointer (some ⟨q.m,0,none⟩))∧W.cell? ⟨w.heap.size,1,none⟩=some (.int .i64 s)∧W.cell? ⟨w.heap.size+1,1,none⟩=some (.func (.func 295) #[] #[.pointer (some ⟨bA,0,none⟩),.pointer (some ⟨bB,0,none⟩),.pointer (some ⟨bC,0,none⟩),.pointer (some ⟨bD,0,none⟩)])) (by kernel_rfl) (hY) (fun yH=> ?_);refine tkY 0 yH ?_;refine tkY 1 yH ?_;refine tkY 2 yH ?_;refine tkY 3 yH ?_;refine tkY 4 yH ?_;refine tkY 5 yH ?_;refine tkC 6 fun K hK=> ?_;go_simp;with_reducible refine(hg.out _ H2d.out).mono ?_
    rintro e w4 ⟨rfl,h4,f4⟩;have H4:=hid h4;have F4:=hid (F2.out.drew.trans f4);have hY:=And.intro (DC.out _ F4.out).1 (And.intro (DC.out _ F4.out).2.1 (DC.out _ F4.out).2.2.2);clear h4 f4;go_wp2_with fail;refine hK.out _ _ _ hY fun yH=> ?_;clear hK K;refine tkC 7 fun K hK=> ?_;go_simp;with_reducible refine(HIS.out _ H4.out (F0.out.trans F4.out) _ HLv.out).mono ?_
    rintro e w5 ⟨rfl,h5,f5⟩;have H5:=hid h5;have F5:=hid (F4.out.trans f5);have hY:=And.intro (DC.out _ F5.out).1 (And.intro (DC.out _ F5.out).2.1 (DC.out _ F5.out).2.2.2);clear h5 f5;go_wp2_with fail;refine hK.out _ _ _ hY fun yH=> ?_;clear hK K;refine wpAnyH_done (by kernel_rfl) ?_ _;try simp only[Act.put,List.getElem_toArray,List.getElem_cons_zero,List.getElem_cons_succ,List.setIfInBounds_toArray,List.set_cons_zero,List.set_cons_succ]
    have d0:=(DC.out _ F5.out).1;have d1:=(DC.out _ F5.out).2.1;obtain⟨c,hc⟩:∃c:Bool,P v=c:=⟨_,rfl⟩;rw[hc];rw[hc]at HU;clear hY;rcases c with _|_
    ·have HN:=hid (show FS (s-(k+1)) (k+1)=R from by have:=HU.out;simpa using this.symm)
     go_wp2_with fail;go_step3;refine⟨rfl,⟨k+1,_,_,_,_,_,_,_,_,_,_,_,_,_,_,_,_,_,_,_,_,_,_,_,_,_,_,_,_,_,_,_,_,_,_,_,by first|rfl|(congr 1;go_num),by omega,HN,H5,F5⟩,by simp[intOf];omega⟩
    ·have HRR:=hid (show(rk:Int)=optZ R from by have:=HU.out;simp at this;rw[this];rfl)
     go_wp2_with fail;with_reducible refine(ho.out _).mono ?_
     rintro e w6 ⟨rfl,f6⟩;have H6:=hid (H5.out.fr0 f6);have F6:=hid (F5.out.trans f6.nil);clear f6;go_wp2_with fail;try simp only[Exit.jump]
     go_ret;exact⟨by rw[←HRR.out];rfl,H6.out,F0.out.trans F6.out⟩
   ·have HRR:=hid (show(-1:Int)=optZ R from by have:=HU.out;simp at this;rw[this];rfl)
    go_wp2_with fail;try simp only[Exit.jump]
    go_ret;exact⟨by rw[←HRR.out];rfl,H2.out,F0.out.trans F2.out⟩
  ·obtain rfl:k=s:=by omega
   have b1:((k:Int)==k)=true:=by simp
   have HRR:=hid (show(-1:Int)=optZ R from by have:=hRk.out;rw[HZ.out]at this;rw[←this];rfl);go_wp2_with fail;try simp only[Exit.jump]
   go_ret;exact⟨by rw[←HRR.out];rfl,hI.out,F0.out.trans hF.out⟩
end
end Go.Proofs.YtolhkhdbgnciiaaGreatDoor
