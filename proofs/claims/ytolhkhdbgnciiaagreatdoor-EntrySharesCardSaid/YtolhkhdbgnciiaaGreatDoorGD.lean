/- Several texts in one. -/
import Derived.Test.YtolhkhdbgnciiaaGreatDoorGC
import Derived.RangeFuncBound
import Derived.Shelf.RegionOpen
import Derived.LoopNIn
import Derived.LoopIn
import Derived.Maps.OwnIn
import Derived.Deep.RegionLaw
namespace Go.Proofs.YtolhkhdbgnciiaaGreatDoor
open _root_.Go.Proofs.Tryz
open Go.Lib (hid)
open Go.IntWalk (i64_in)
set_option linter.unusedVariables false
set_option linter.unusedSimpArgs false
open Go.RowKit
set_option maxRecDepth 100000
set_option maxHeartbeats 4000000
theorem zi0(a s:Int)(w:World):(Instr.field 66 (.agg #[.int .i64 a,.int .i64 s]) 0).run prog w= .ok (.int .i64 a) w:=by kernel_rfl
theorem zbf{t:TM}(h:t.Ok):t.a≤64∧7≤t.a:=⟨h.cfg.a2,h.cfg.a1⟩
theorem zjx(w:World)(hM:TabM w)(a s:Nat)(hc:Cfg a s)(i n x k:Nat)(hi:i<n)(hb:x+i*k≤1099511627776∧i*k≤1099511627776):Calls prog 168 #[cfgV a s,.int .i64 i,.int .i64 n,.int .i64 x,.int .i64 k] w fun e w'=>e= .returned (.int .i64 ((x:Int)+(i:Int)*k))∧Fr [] w w':=by
 have hr:=fun W h=>zfk W h a s hc;have b1:decide ((i:Int)<0)=false:=by simp
 have b2':decide (n≤i)=false:=by simp;omega
 obtain⟨hb1,hb2⟩:=hb
 have w1:IntKind.i64.wrap ((i:Int)*k)=(i:Int)*k:=i64_in _ (by
  have:((i*k:Nat):Int)=(i:Int)*k:=Int.natCast_mul i k;omega)
 have w2:IntKind.i64.wrap ((x:Int)+(i:Int)*k)=(x:Int)+(i:Int)*k:=i64_in _ (by
  have:((i*k:Nat):Int)=(i:Int)*k:=Int.natCast_mul i k;omega)
 have hM1:=hid hM;have hr':∀W,TabM W→Calls prog 72 #[.agg #[.int .i64 a,.int .i64 s]] W fun e w'=>e= .returned (.bool true)∧Fr [] W w':=hr;unfold cfgV;clear hc hb1 hb2 hr hM;go_enter func168,ntmps168;go_wp2_with fail;with_reducible refine(hr' _ (hM1.out.fr ((Fr.refl [] w).alloc _) (by simp))).mono ?_
 rintro e w1 ⟨rfl,f1⟩;have F1:=hid (((Fr.refl [] w).alloc (.cells #[.int .i64 a,.int .i64 s] 66)).trans f1);clear f1 hr';go_wp2_with fail;go_ret;exact⟨rfl,F1.out⟩
theorem zic(w:World)(hM:TabM w)(a s:Nat)(hc:Cfg a s)(i:Nat)(hi:i<a):Calls prog 269 #[cfgV a s,.int .i64 i] w fun e w'=>e= .returned (.int .i64 (hdAt i))∧Fr [] w w':=by
 have h2:=hc.a2
 have hl:∀W,TabM W→Calls prog 168 #[.agg #[.int .i64 a,.int .i64 s],.int .i64 i,.int .i64 a,.int .i64 128,.int .i64 16] W fun e w'=>e= .returned (.int .i64 (hdAt i))∧Fr [] W w':=fun W h=>by
  have:=zjx W h a s hc i a 128 16 hi (by omega);refine this.mono fun e w' ⟨he,hf⟩=>⟨?_,hf⟩;rw[he];unfold hdAt;rw[show((128+16*i:Nat):Int)=((128:Nat):Int)+(i:Int)*((16:Nat):Int)by omega]
 have hM1:=hid hM;generalize hdAt i=z at*;unfold cfgV;clear hc hM;go_enter func269,ntmps269;go_wp2_with fail;with_reducible refine(hl _ (hM1.out.fr ((Fr.refl [] w).alloc _) (by simp))).mono ?_
 rintro e w1 ⟨rfl,f1⟩;go_wp2_with fail;go_ret;exact⟨rfl,((Fr.refl [] w).alloc _).trans f1⟩
section
variable {w : World} {q : MH} {t : TM}
theorem tcfg(h:IsT w q t):Calls prog 81 #[.pointer (some ⟨q.m,0,none⟩)] w fun e w'=>e= .returned (.agg #[.int .i64 t.a,.int .i64 t.s])∧Fr [] w w':=zca h
theorem zhu(h:IsT w q t):Calls prog 164 #[.pointer (some ⟨q.m,0,none⟩)] w fun e w'=>e= .returned (.bool true)∧Fr [] w w':=by
 have hc:=tcfg h;have ha:=(zbf h.ok).2;have b:decide ((0:Int)<t.a)=true:=by simp;omega
 have b':decide (0<t.a)=true:=by simp;omega
 have hfd:=zi0 t.a t.s;generalize t.a=a at*;generalize t.s=s at*;clear h;go_enter func164,ntmps164;go_wp2_with fail;with_reducible refine hc.mono ?_
 rintro e w1 ⟨rfl,f1⟩;go_wp2_with fail;go_ret;exact⟨rfl,f1⟩
theorem liis(w:World)(c:Int):Calls prog 197 #[.int .i64 c] w fun e w'=>e= .returned (.bool (decide (0≤c∧c≤9)))∧w'=w:=by
 by_cases h1:0≤c
 ·have b1:decide (0≤c)=true:=by simpa using h1
  by_cases h2:c≤9
  ·have b2:decide (c≤9)=true:=by simpa using h2
   rw[decide_eq_true (show 0≤c∧c≤9 from⟨h1,h2⟩)];clear h1 h2;go_enter func197,ntmps197;go_wp2_with fail;go_ret;exact⟨rfl,rfl⟩
  ·have b2:decide (c≤9)=false:=by simpa using h2
   rw[decide_eq_false (fun h:0≤c∧c≤9=>h2 h.2)];clear h1 h2;go_enter func197,ntmps197;go_wp2_with fail;go_ret;exact⟨rfl,rfl⟩
 ·have b1:decide (0≤c)=false:=by simpa using h1
  rw[decide_eq_false (fun h:0≤c∧c≤9=>h1 h.1)];clear h1;go_enter func197,ntmps197;go_wp2_with fail;go_ret;exact⟨rfl,rfl⟩
theorem zwt(h:IsT w q t)(i:Int):Calls prog 247 #[.pointer (some ⟨q.m,0,none⟩),.int .i64 i] w fun e w'=>e= .returned (.bool (decide (0≤i∧i<t.a)))∧Fr [] w w':=by
 have hc:=tcfg h;have hfd:=zi0 t.a t.s;generalize t.a=a at*;generalize t.s=s at*;clear h;by_cases h1:0≤i
 ·have b1:decide (0≤i)=true:=by simpa using h1
  by_cases h2:i<a
  ·have b2:decide (i<a)=true:=by simpa using h2
   rw[decide_eq_true (show 0≤i∧i<a from⟨h1,h2⟩)];clear h1 h2;go_enter func247,ntmps247;go_wp2_with fail;with_reducible refine hc.mono ?_
   rintro e w1 ⟨rfl,f1⟩;go_wp2_with fail;go_ret;exact⟨rfl,f1⟩
  ·have b2:decide (i<a)=false:=by simpa using h2
   rw[decide_eq_false (fun h:0≤i∧i<a=>h2 h.2)];clear h1 h2;go_enter func247,ntmps247;go_wp2_with fail;with_reducible refine hc.mono ?_
   rintro e w1 ⟨rfl,f1⟩;go_wp2_with fail;go_ret;exact⟨rfl,f1⟩
 ·have b1:decide (0≤i)=false:=by simpa using h1
  rw[decide_eq_false (fun h:0≤i∧i<a=>h1 h.1)];clear h1;go_enter func247,ntmps247;go_wp2_with fail;go_ret;exact⟨rfl,Fr.refl _ _⟩
theorem zeh(h:IsT w q t)(i p:Nat)(hi:i<t.a)(hp:p<5)(x k:Int)(hx:x=hdA p)(hk:k=hdW p):Calls prog 210 #[.pointer (some ⟨q.m,0,none⟩),.int .i64 i,.int .i64 x,.int .i64 k] w fun e w'=>e= .returned (.int .i64 (t.hd i p))∧IsT w' q t∧Fr q.blocks w w':=by
 have hc:=tcfg h;have hat:=zuw h.ok i p hi hp;have hh:∀W,TabM W→Calls prog 269 #[.agg #[.int .i64 t.a,.int .i64 t.s],.int .i64 i] W fun e w'=>e= .returned (.int .i64 (hdAt i))∧Fr [] W w':=fun W hW=>zic W hW t.a t.s h.ok.cfg i hi;have hl:=zh6 p hp;have ha:=(zbf h.ok).1
 have hv:t.hd i p<4294967296:=by
  have:=h.ok.hd i p;rcases hl.2.1 with e|e<;>rw[e]at this<;>omega
 have hld:∀W,IsT W q t→Calls prog 122 #[.pointer (some ⟨q.m,0,none⟩),.int .i64 ((hdAt i:Int)+x),.int .i64 k,.int .i64 3] W fun e w''=>e= .returned (.int .u64 (t.hd i p))∧IsT w'' q t∧Fr q.blocks W w'':=fun W hW=>by
  have:=zjj hW hat;rw[Int.natCast_add]at this;rw[hx,hk];exact this
 have hw1:IntKind.i64.wrap ((hdAt i:Int)+x)=(hdAt i:Int)+x:=i64_in _ (by unfold hdAt;omega);have hw2:IntKind.i64.wrap ((t.hd i p:Nat):Int)=((t.hd i p:Nat):Int):=i64_in _ (by omega);have HI:=hid h;generalize t.hd i p=v at*;generalize hdAt i=z at*;generalize t.a=a at*;generalize t.s=s at*;clear h hx hk hat hl;go_enter func210,ntmps210;go_wp2_with fail;with_reducible refine hc.mono ?_
 rintro e w1 ⟨rfl,f1⟩;have H1:=hid (HI.out.fr0 f1);go_wp2_with fail;with_reducible refine(hh _ H1.out.tab).mono ?_
 rintro e w2 ⟨rfl,f2⟩;have H2:=hid (H1.out.fr0 f2);go_wp2_with fail;with_reducible refine(hld _ H2.out).mono ?_
 rintro e w3 ⟨rfl,h3,f3⟩;have H3:=hid h3;have F3:=hid ((f1.trans f2).nil.trans f3);clear h3 f1 f2 f3;go_wp2_with fail;go_ret;exact⟨rfl,H3.out,F3.out⟩
theorem zfh(h:IsT w q t)(i p v:Nat)(hi:i<t.a)(hp:p<5)(hv:v<256^hdW p)(x k y:Int)(hx:x=hdA p)(hk:k=hdW p)(hy:y=v)(i':Int)(hi':i'=i):Calls prog 243 #[.pointer (some ⟨q.m,0,none⟩),.int .i64 i',.int .i64 x,.int .i64 k,.int .u64 y] w fun e w'=>e= .returned (.tuple #[])∧IsT w' q (t.setHd i p v)∧Fr q.blocks w w':=by
 subst hi' hy;have hc:=tcfg h;have hat:=zuw h.ok i p hi hp;have hh:∀W,TabM W→Calls prog 269 #[.agg #[.int .i64 t.a,.int .i64 t.s],.int .i64 i] W fun e w'=>e= .returned (.int .i64 (hdAt i))∧Fr [] W w':=fun W hW=>zic W hW t.a t.s h.ok.cfg i hi;have hl:=zh6 p hp;have ha:=(zbf h.ok).1
 have hst:∀W,IsT W q t→Calls prog 170 #[.pointer (some ⟨q.m,0,none⟩),.int .i64 ((hdAt i:Int)+x),.int .i64 k,.int .i64 3,.int .u64 v] W fun e w''=>e= .returned (.bool true)∧IsT w'' q (t.setHd i p v)∧Fr q.blocks W w'':=fun W hW=>by
  have:=zkd hW hat hv (zcf hW.ok i p v hv) (zoy hW.ok i p v hi hp hv);rw[Int.natCast_add]at this;rw[hx,hk];exact this
 have hw1:IntKind.i64.wrap ((hdAt i:Int)+x)=(hdAt i:Int)+x:=i64_in _ (by unfold hdAt;omega);have HI:=hid h;generalize t.setHd i p v=t' at*;generalize hdAt i=z at*;generalize t.a=a at*;generalize t.s=s at*;clear h hx hk hat hl hv;go_enter func243,ntmps243;go_wp2_with fail;with_reducible refine hc.mono ?_
 rintro e w1 ⟨rfl,f1⟩;have H1:=hid (HI.out.fr0 f1);go_wp2_with fail;with_reducible refine(hh _ H1.out.tab).mono ?_
 rintro e w2 ⟨rfl,f2⟩;have H2:=hid (H1.out.fr0 f2);go_wp2_with fail;with_reducible refine(hst _ H2.out).mono ?_
 rintro e w3 ⟨rfl,h3,f3⟩;have H3:=hid h3;have F3:=hid ((f1.trans f2).nil.trans f3);clear h3 f1 f2 f3;go_wp2_with fail;go_end0;exact⟨rfl,H3.out,F3.out⟩
theorem zhf(h:IsT w q t)(c:Nat)(hc:c≤9)(c':Int)(ec:c'=c):Calls prog 166 #[.pointer (some ⟨q.m,0,none⟩),.int .i64 c'] w fun e w'=>e= .returned (.int .i64 (t.rt (3+c)))∧IsT w' q t∧Fr q.blocks w w':=by
 subst ec;have hr:=zqu h (3+c) (by omega) (3+c) (by omega);have hw1:=i64_in (3+(c:Int)) (by omega)
 have hv:t.rt (3+c)<4294967296:=by
  have:=h.ok.rt (3+c);rw[show fldW (3+c)=4 by unfold fldW;rw[if_neg (by omega)]]at this;omega
 have hw2:IntKind.i64.wrap ((t.rt (3+c):Nat):Int)=((t.rt (3+c):Nat):Int):=i64_in _ (by omega);generalize t.rt (3+c)=v at*;clear h;go_enter func166,ntmps166;go_wp2_with fail;with_reducible refine hr.mono ?_
 rintro e w1 ⟨rfl,h1,f1⟩;have H1:=hid h1;clear h1 hr;go_wp2_with fail;go_ret;exact⟨rfl,H1.out,f1⟩
end
def Lk(t:TM):Nat→Nat→List Nat→Prop
 |_,s,[] =>s=0
 |p,s,x::l=>s=x+1∧x<t.a∧t.hd x 4=p∧Lk t (x+1) (t.hd x 3) l
theorem Lk.lt{t:TM}:∀{l:List Nat} {p s:Nat},Lk t p s l→∀x∈l,x<t.a
 | [],_,_,_,x,hx=>by cases hx
 |y::l,p,s,⟨_,h1,_,h2⟩,x,hx=>by
  rcases List.mem_cons.1 hx with rfl|hx
  ·exact h1
  ·exact h2.lt x hx
theorem Lk.same{t u:TM}(ha:u.a=t.a):∀{l:List Nat} {p s:Nat},Lk t p s l→(∀x∈l,u.hd x 3=t.hd x 3∧u.hd x 4=t.hd x 4)→Lk u p s l
 | [],_,_,h,_=>h
 |y::l,p,s,⟨h0,h1,h2,h3⟩,hx=>by
  obtain⟨e1,e2⟩:=hx y (List.mem_cons_self ..);exact⟨h0,by rw[ha];exact h1,by rw[e2];exact h2,by rw[e1];exact h3.same ha (fun x hm=>hx x (List.mem_cons_of_mem _ hm))⟩
structure z1y(t:TM)(ls:Nat→List Nat):Prop where
 ln: ∀c,c≤9→Lk t 0 (t.rt (3+c)) (ls c)
 sorted: ∀c,c≤9→(ls c).Pairwise (· < ·)
 apart: ∀c d,c≤9→d≤9→c≠d→ ∀x∈ls c,x∉ls d
 out: ∀x,x<t.a→(∀c,c≤9→x∉ls c)→t.hd x 3=0∧t.hd x 4=0
section
open Go.RowKit Go.Shelf
attribute [local go_sem] Oper.semAt_some
structure zjf(W:World)(q:MH)(t:TM)(Bm Bc:Nat)(c:Nat):Prop where
 m:IsT W q t
 bm:Blk W Bm 26 #[.pointer (some ⟨q.m,0,none⟩)]
 bc:Blk W Bc 3 #[.int .i64 c]
def z1f(q:MH)(t:TM)(A B:World):Prop:=Fr q.blocks A B∧IsT B q t
theorem zzd(n:Nat)(hn:1≤n)(q:MH)(t:TM)(Bm Bc c:Nat)(hc:c≤9)(l:List Nat)(hl:Lk t 0 (t.rt (3+c)) l)(hso:l.Pairwise (·<·))(hBm:Bm∉q.blocks)(hBc:Bc∉q.blocks):zux (α:=Nat) Fence.wide n prog 290 #[.pointer (some ⟨Bm,0,none⟩),.pointer (some ⟨Bc,0,none⟩)] (fun x=> #[.int .i64 x]) (fun W=>zjf W q t Bm Bc c) (z1f q t) (fun pre x=>∃rest,l=pre++x::rest) (fun xs=>xs=l) (fun _=>True):=by
 intro lo J Jx W hJM hJS hXS hY h0;have hM0:=hJM _ _ h0;refine callsIn_of_wp func290 rfl trivial ?_ rfl;simp only[ntmps290,List.size_toArray,List.length_cons,List.length_nil,Nat.reduceAdd,Nat.reduceSub,Array.replicate_succ,Array.replicate_zero,List.push_toArray,List.append_toArray,List.nil_append,List.cons_append];have c1:=hM0.bm.cell 0;have c2:=hM0.bc.cell 0;simp at c1 c2;have hfi:=fun W hW=>zhf (w:=W) (q:=q) (t:=t) hW c hc c rfl;have HJM:=hid hJM;have HJS:=hid hJS;have HY:=hid hY;have HL:=hid hl;have HSO:=hid hso;have ha64:=(zbf hM0.m.ok).1;have hpa:=fun W hW i hi=>zeh (w:=W) (q:=q) (t:=t) hW i 3 hi (by decide) 8 4 rfl rfl;have H0:=hid h0;have HM0:=hid hM0;clear hJM hJS hXS hY hl hso h0 hM0;generalize t.rt (3+c)=s0 at*;gi_wp2_with (first|(refine⟨trivial,?_⟩;gi_at_call 166;refine(callsIn_wide.2 (hfi _ HM0.out.m)).mono ?_;rintro e W1 ⟨rfl,h1,f1⟩));have hJ1:=hid (HJS.out _ _ _ H0.out ⟨f1,h1⟩);clear h1 f1 c1 c2 H0 hfi;gi_loopw [4] (fun v wr=>∃pre rest p s,l=pre++rest∧v= .int .i64 (s:Nat)∧Hid (Lk t p s rest)∧Hid (J pre wr)) (fun v _=>if(intOf v).toNat=0 then 0 else t.a+1-(intOf v).toNat);case atStart=>exact⟨[],l,0,s0,rfl,rfl,HL,hJ1⟩
 case round=>
  clear hJ1;obtain⟨pre,rest,p,s,hpr,rfl,hlk,hJ⟩:=hrel;have hM:=HJM.out _ _ hJ.out;have c1:=hM.bm.cell 0;have c2:=hM.bc.cell 0;simp at c1 c2;rcases rest with _|⟨x,rest⟩
  ·have hs:s=0:=hlk.out
   subst hs;gi_wp2
   all_goals
    refine⟨fun f h=>(by cases h),?_⟩;gi_wp2;go_end0;exact⟨⟨_,rfl⟩,.inl ⟨_,by rw[hpr,List.append_nil],hJ.out⟩⟩
  ·obtain⟨hs,hxa,hxp,hlk2⟩:=hlk.out
   subst hs;have g1:(0:Int)<((x+1:Nat):Int):=by omega
   have g2:IntKind.i64.wrap (((x+1:Nat):Int)-1)=x:=by rw[i64_in _ (by omega)];omega
   obtain⟨fn,tmps,assign,body,hy,hR⟩:=HY.out pre x wr ⟨rest,hpr⟩ hJ.out
   have hxs:∀y r,rest=y::r→x<y:=fun y r e=>by
    have h1:=HSO.out;rw[hpr,e]at h1;exact(List.pairwise_cons.1 (List.pairwise_append.1 h1).2.1).1 y (List.mem_cons_self ..)
   have HXS:=hid hxs;have HLK:=hid hlk2;have HPR:=hid hpr;clear hxs hlk2 hpr hlk;gi_wp2;refine hR.mono ?_;rintro e W3 (⟨rfl,hJ3⟩|⟨rfl,hJx3⟩)
   ·have hM3:=HJM.out _ _ hJ3
    have c3:=hM3.bm.cell 0;simp at c3;have HM3:=hid hM3;have HJ3:=hid hJ3;clear hM3 hJ3 c1 c2 hM;gi_wp2_with (first|(refine⟨trivial,?_⟩;gi_at_call 210;refine(callsIn_wide.2 (hpa _ HM3.out.m x hxa)).mono ?_;rintro e W4 ⟨rfl,h4,f4⟩));refine⟨⟨pre++ [x],rest,x+1,t.hd x 3,by rw[HPR.out];simp,rfl,HLK,hid (HJS.out _ _ _ HJ3.out ⟨f4,h4⟩)⟩,?_⟩;have hlk3:=HLK.out;rcases rest with _|⟨y,r⟩
    ·rw[show t.hd x 3=0 from hlk3]
     simp[intOf];omega
    ·obtain⟨hs3,hy,_⟩:=hlk3
     have:=HXS.out y r rfl;rw[hs3];simp[intOf];omega
   ·gi_wp2
    go_end0;exact⟨⟨_,rfl⟩,.inr ⟨_,trivial,hJx3⟩⟩
end
section
open Go.RowKit Go.Shelf
attribute [local go_sem] Oper.semAt_some
def wth(x:Nat):Nat→List Nat→Bool×Nat
 |p,[] =>(false,p)
 |p,y::l=>if x<y then(false,p)else if y=x then(true,p)else wth x (y+1) l
def pv(l:List Nat):Nat:=(l.getLast?.map (· +1)).getD 0
theorem zbz(l:List Nat)(x:Nat):pv (l++ [x])=x+1:=by simp[pv]
theorem zj1(x:Nat):∀(pre rest:List Nat) (p:Nat),(∀y∈pre,y<x)→wth x p (pre++rest)=wth x (if pre= []then p else pv pre) rest
 | [],rest,p,_=>rfl
 |y::pre,rest,p,h=>by
  have hy:=h y (List.mem_cons_self ..);rw[List.cons_append,wth,if_neg (by omega),if_neg (by omega),zj1 x pre rest (y+1) (fun z hz=>h z (List.mem_cons_of_mem _ hz))];rw[if_neg (show¬(y::pre)= []by simp)];congr 1;split
  ·next e=>subst e;rfl
  ·next e=>
   unfold pv;obtain⟨z,l',e2⟩:∃z l',pre=l'++ [z] :=⟨pre.getLast e,pre.dropLast,(List.dropLast_concat_getLast e).symm⟩;rw[e2,←List.cons_append,List.getLast?_append,List.getLast?_append];rfl
theorem zlv{n:Nat}{P:Program}{c:Code}{Q:Exit→Act→World→Prop}{a:Act}{w:World}(h:c.wpIn Fence.wide n P (Exit.noGoto Q) a w):(Code.scope c).wpIn Fence.wide n P Q a w:=
 wpIn_wide.2 (wp_scope_straight (wpIn_wide.1 h))
theorem zrd(n:Nat)(m:Nat)(c:Int)(w:World):CallsIn Fence.wide n prog 268 #[.pointer (some ⟨m,0,none⟩),.int .i64 c] w fun e w'=>e= .returned (.func (.func 290) #[] #[.pointer (some ⟨w.heap.size,0,none⟩),.pointer (some ⟨w.heap.size+1,0,none⟩)])∧w'=(w.alloc (.cells #[.pointer (some ⟨m,0,none⟩)] 26)).alloc (.cells #[.int .i64 c] 3):=by
 refine callsIn_of_wp func268 rfl trivial ?_ rfl;simp only[ntmps268,List.size_toArray,List.length_cons,List.length_nil,Nat.reduceAdd,Nat.reduceSub,Array.replicate_succ,Array.replicate_zero,List.push_toArray,List.append_toArray,List.nil_append,List.cons_append];gi_wp2;go_ret;exact⟨rfl,rfl⟩
theorem zni(n:Nat)(hn:4≤n)(w:World)(q:MH)(t:TM)(h:IsT w q t)(c:Nat)(hc:c≤9)(l:List Nat)(hl:Lk t 0 (t.rt (3+c)) l)(hso:l.Pairwise (· < ·))(x:Nat):CallsIn Fence.wide n prog 209 #[.pointer (some ⟨q.m,0,none⟩),.int .i64 c,.int .i64 x] w fun e w'=>e= .returned (.tuple #[.bool (wth x 0 l).1,.int .i64 (wth x 0 l).2])∧IsT w' q t∧Fr q.blocks w w':=by
 have h1:1≤n:=by omega
 refine callsIn_of_wp_marks func209 rfl trivial ?_ rfl
 simp only[ntmps209,List.size_toArray,List.length_cons,List.length_nil,Nat.reduceAdd,Nat.reduceSub,Array.replicate_succ,Array.replicate_zero,List.push_toArray,List.append_toArray,List.nil_append,List.cons_append]
 gi_wp2
 refine zlv ?_
 gi_wp2
 refine wpIn_label ?_
 gi_wp2_with (first|(refine⟨trivial,?_⟩;gi_at_call 268;refine(zrd _ _ _ _).mono ?_;rintro e w' ⟨rfl,rfl⟩))
 obtain⟨W0,hW0⟩: ∃W0,(((((w.alloc (.cells #[.int .i64 x] 3)).alloc (.cells #[.int .i64 0] 3)).alloc (.cells #[.bool false] 4)).alloc (.cells #[.pointer (some ⟨q.m,0,none⟩)] 26)).alloc (.cells #[.int .i64 c] 3))=W0:=⟨_,rfl⟩
 have bX:Blk W0 w.heap.size 3 #[.int .i64 x] :=by rw[←hW0];exact((((Blk.new w _ _).alloc _).alloc _).alloc _).alloc _
 have bP:Blk W0 (w.heap.size+1) 3 #[.int .i64 (0:Nat)] :=by
  rw[←hW0]
  have:=((((Blk.new (w.alloc (.cells #[.int .i64 x] 3)) 3 #[.int .i64 0]).alloc (.cells #[.bool false] 4)).alloc (.cells #[.pointer (some ⟨q.m,0,none⟩)] 26)).alloc (.cells #[.int .i64 c] 3))
  rwa[World.size_alloc]at this
 have bI:Blk W0 (w.heap.size+1+1) 4 #[.bool false] :=by
  rw[←hW0]
  have:=(((Blk.new ((w.alloc (.cells #[.int .i64 x] 3)).alloc (.cells #[.int .i64 0] 3)) 4 #[.bool false]).alloc (.cells #[.pointer (some ⟨q.m,0,none⟩)] 26)).alloc (.cells #[.int .i64 c] 3))
  rwa[World.size_alloc,World.size_alloc]at this
 have bM:Blk W0 (w.heap.size+1+1+1) 26 #[.pointer (some ⟨q.m,0,none⟩)] :=by
  rw[←hW0]
  have:=((Blk.new (((w.alloc (.cells #[.int .i64 x] 3)).alloc (.cells #[.int .i64 0] 3)).alloc (.cells #[.bool false] 4)) 26 #[.pointer (some ⟨q.m,0,none⟩)]).alloc (.cells #[.int .i64 c] 3))
  rwa[World.size_alloc,World.size_alloc,World.size_alloc]at this
 have bC:Blk W0 (w.heap.size+1+1+1+1) 3 #[.int .i64 c] :=by
  rw[←hW0]
  have:=Blk.new ((((w.alloc (.cells #[.int .i64 x] 3)).alloc (.cells #[.int .i64 0] 3)).alloc (.cells #[.bool false] 4)).alloc (.cells #[.pointer (some ⟨q.m,0,none⟩)] 26)) 3 #[.int .i64 c]
  rwa[World.size_alloc,World.size_alloc,World.size_alloc,World.size_alloc]at this
 have fr0:Fr q.blocks w W0:=by rw[←hW0];exact(((((Fr.refl _ w).alloc _).alloc _).alloc _).alloc _).alloc _
 have hT0:IsT W0 q t:=by rw[←hW0];exact((((h.alloc _).alloc _).alloc _).alloc _).alloc _
 have hz0:W0.heap.size=w.heap.size+5:=by rw[←hW0];simp
 have hlt:=h.lt
 rw[hW0]
 clear hW0
 have hq: ∀k,w.heap.size≤k→k∉q.blocks:=fun k hk hm=>by have:=hlt k hm;omega
 have hgx:=h.tab.size
 have hbook: ∀N,N≤W0.heap.size→ ∀k∈ [W0.heap.size,W0.heap.size+1],k∈q.blocks∨N≤k:=fun N hN k hk=>by simp at hk;exact .inr (by omega)
 have hnb: ∀k,k<W0.heap.size→k∉ [W0.heap.size,W0.heap.size+1] :=fun k hk hm=>by simp at hm;omega
 have hfrM: ∀A B,zjf A q t (w.heap.size+1+1+1) (w.heap.size+1+1+1+1) c→Fr [W0.heap.size,W0.heap.size+1] A B→zjf B q t (w.heap.size+1+1+1) (w.heap.size+1+1+1+1) c:=fun A B hM hf=>
  ⟨hM.m.fr hf (fun k hk=>hnb k (by have:=hlt k hk;omega)) (fun k hk=>hnb k (by omega)),hM.bm.fr hf (hnb _ (by omega)),hM.bc.fr hf (hnb _ (by omega))⟩
 have hset: ∀(g:Nat) (v:Value) (W:World),(g=w.heap.size+1∨g=w.heap.size+1+1)→zjf W q t (w.heap.size+1+1+1) (w.heap.size+1+1+1+1) c→zjf (W.setCell ⟨g,0,none⟩ v) q t (w.heap.size+1+1+1) (w.heap.size+1+1+1+1) c:=fun g v W hg hM=>by
  have hf:Fr [g] W (W.setCell ⟨g,0,none⟩ v):=(Fr.refl _ _).setCell (.inl (by simp)) _
  refine⟨hM.m.fr hf (fun k hk hm=> ?_) (fun k hk hm=> ?_),hM.bm.fr hf (by simp;omega),hM.bc.fr hf (by simp;omega)⟩
  ·simp at hm;subst hm;exact hq _ (by omega) hk
  ·simp at hm;omega
 have hkeep: ∀(g:Nat) (v:Value) (W:World),W0.heap.size+1<W.heap.size→(g=w.heap.size+1∨g=w.heap.size+1+1)→Keep2 W0.heap.size W (W.setCell ⟨g,0,none⟩ v):=fun g v W hW hg=>
  ((Fr.refl [g] W).setCell (p:=⟨g,0,none⟩) (.inl (by simp)) v).keep2 hW ⟨by simp;omega,by simp;omega⟩
 refine zkm rfl h1 (gf:=290) (lb:= #[.pointer (some ⟨w.heap.size+1+1+1,0,none⟩),.pointer (some ⟨w.heap.size+1+1+1+1,0,none⟩)]) rfl trivial (enters_of func290 (by kernel_rfl) rfl)
  (zzd (n-1) (by omega) q t (w.heap.size+1+1+1) (w.heap.size+1+1+1+1) c hc l hl hso (hq _ (by omega)) (hq _ (by omega))) (fun _=>rfl)
  (fun A B hA hM hs=>⟨hs.1.keep2 hA ⟨hq _ (by omega),hq _ (by omega)⟩,hs.1.size⟩)
  (fun pre W=>zjf W q t (w.heap.size+1+1+1) (w.heap.size+1+1+1+1) c∧Fr q.blocks w W∧(Blk W w.heap.size 3 #[.int .i64 x] ∧Blk W (w.heap.size+1) 3 #[.int .i64 (pv pre)] ∧Blk W (w.heap.size+1+1) 4 #[.bool false])∧ ∀y∈pre,y<x)
  (fun cd pre W=>zjf W q t (w.heap.size+1+1+1) (w.heap.size+1+1+1+1) c∧Fr q.blocks w W∧cd= .exit 0∧Blk W (w.heap.size+1) 3 #[.int .i64 (wth x 0 l).2] ∧Blk W (w.heap.size+1+1) 4 #[.bool (wth x 0 l).1])
  (fun s A hh=>hh.1) (fun cd s A hh=>hh.1)
  ?hI ?hIx ?hIs ?hXs ⟨⟨hT0,bM,bC⟩,fr0,⟨bX,bP,bI⟩,fun y hy=>by cases hy⟩
  (fun y a' W=>a'={tmps:= #[.pointer (some ⟨q.m,0,none⟩),.int .i64 c,.int .i64 x,undef,undef,.pointer (some ⟨w.heap.size,0,none⟩),.bool false,.int .i64 0,.pointer (some ⟨w.heap.size+1,0,none⟩),.pointer (some ⟨w.heap.size+1+1,0,none⟩),.int .i64 y,.pointer (some ⟨q.m,0,none⟩),.int .i64 c,.func (.func 290) #[] #[.pointer (some ⟨w.heap.size+1+1+1,0,none⟩),.pointer (some ⟨w.heap.size+1+1+1+1,0,none⟩)],.int .i64 y,undef,undef,undef,undef,undef,undef,undef,undef,undef,undef,undef,undef],defers:= []})
  (fun y a' A B hh _=>hh) ?assign ?body ?done ?stop
 case hI=>exact fun s A B ⟨hM,hF,⟨hX,hP,hB⟩,hp⟩ hf=>⟨hfrM A B hM hf,hF.step hf (hbook w.heap.size (by omega)),⟨hX.fr hf (hnb _ (by omega)),hP.fr hf (hnb _ (by omega)),hB.fr hf (hnb _ (by omega))⟩,hp⟩
 case hIx=>exact fun cd s A B ⟨hM,hF,hcd,hP,hB⟩ hf=>⟨hfrM A B hM hf,hF.step hf (hbook w.heap.size (by omega)),hcd,hP.fr hf (hnb _ (by omega)),hB.fr hf (hnb _ (by omega))⟩
 case hIs=>exact fun s A B ⟨hM,hF,⟨hX,hP,hB⟩,hp⟩ hs=>⟨⟨hs.2,hM.bm.fr hs.1 (hq _ (by omega)),hM.bc.fr hs.1 (hq _ (by omega))⟩,hF.trans hs.1,⟨hX.fr hs.1 (hq _ (by omega)),hP.fr hs.1 (hq _ (by omega)),hB.fr hs.1 (hq _ (by omega))⟩,hp⟩
 case hXs=>exact fun cd s A B ⟨hM,hF,hcd,hP,hB⟩ hs=>⟨⟨hs.2,hM.bm.fr hs.1 (hq _ (by omega)),hM.bc.fr hs.1 (hq _ (by omega))⟩,hF.trans hs.1,hcd,hP.fr hs.1 (hq _ (by omega)),hB.fr hs.1 (hq _ (by omega))⟩
 case assign=>
  rintro lo pre y W K hW hi hK
  gi_wp2
  exact hK _ _ (Keep2.refl _ _) hi rfl
 case body=>
  rintro lo pre y a' W hW ⟨rest,hpr⟩ ⟨hM,hF,⟨hX,hP,hB⟩,hpre⟩ rfl
  have hc1:=hX.cell 0
  have hc2:=hP.cell 0
  have hc3:=hB.cell 0
  have hf2:=hP.frozen 0
  have hf3:=hB.frozen 0
  simp at hc1 hc2 hc3
  have hwt:wth x 0 l=wth x (pv pre) (y::rest):=by
   rw[hpr,zj1 x pre (y::rest) 0 hpre]
   by_cases h0:pre= []
   ·rw[if_pos h0,h0];rfl
   ·rw[if_neg h0]
  rw[wth]at hwt
  have hya:y<t.a:=hl.lt y (by rw[hpr];simp)
  have ha64:=(zbf h.ok).1
  have HM:=hid hM
  have HF:=hid hF
  have HX:=hid hX
  have HP:=hid hP
  have HB:=hid hB
  have HPR:=hid hpre
  clear hM hF hX hP hB hpre hpr bX bP bI bM bC fr0 hT0 hfrM hbook hnb hl hso h
  have HSET:=hid hset
  have HKEEP:=hid hkeep
  clear hset hkeep
  by_cases hxy:x<y
  ·rw[if_pos hxy]at hwt
   have HWT:=hid hwt
   have b1':decide (x<y)=true:=by simp;omega
   clear hwt
   gi_wp2
   exact⟨Keep2.refl _ _,HM.out,HF.out,rfl,by rw[HWT.out];exact HP.out,by rw[HWT.out];exact HB.out⟩
  ·rw[if_neg hxy]at hwt
   have b1':decide (x<y)=false:=by simp;omega
   by_cases he:y=x
   ·rw[if_pos he]at hwt
    have HWT:=hid hwt
    have b2:((y:Int)==x)=true:=by simp;omega
    have b2':(y==x)=true:=by simp;omega
    clear hwt hxy
    gi_wp2
    refine⟨HKEEP.out _ _ _ hW (.inr rfl),HSET.out _ _ _ (.inr rfl) HM.out,HF.out.setCell (.inr (by simp;omega)) _,rfl,by rw[HWT.out];exact HP.out.far (p:=⟨w.heap.size+1+1,0,none⟩) (by simp) _,?_⟩
    rw[HWT.out]
    have:=HB.out.set 0 (.bool true)
    simpa using this
   ·have b2:((y:Int)==x)=false:=by simp;omega
    have b2':(y==x)=false:=by simp;omega
    have hyx:y<x:=by omega
    clear hwt hxy
    gi_wp2
    refine⟨HKEEP.out _ _ _ hW (.inl rfl),HSET.out _ _ _ (.inl rfl) HM.out,HF.out.setCell (.inr (by simp)) _,⟨HX.out.far (p:=⟨w.heap.size+1,0,none⟩) (by simp) _,?_,HB.out.far (p:=⟨w.heap.size+1,0,none⟩) (by simp) _⟩,fun z hz=> ?_⟩
    ·have:=HP.out.set 0 (.int .i64 ((y:Int)+1))
     rw[zbz,Int.natCast_add]
     simpa using this
    ·rcases List.mem_append.1 hz with hz|hz
     ·exact HPR.out z hz
     ·simp at hz;omega
 case done=>
  rintro D xs W hD hxs ⟨hM,hF,⟨hX,hP,hB⟩,hpre⟩ hK
  have hc2:=hP.cell 0
  have hc3:=hB.cell 0
  simp at hc2 hc3
  have hres:wth x 0 l=(false,pv xs):=by
   subst hxs
   have:=zj1 x xs [] 0 hpre
   rw[List.append_nil]at this
   rw[this,wth]
   by_cases h0:xs= []
   ·rw[if_pos h0,h0];rfl
   ·rw[if_neg h0]
  gi_wp2
  gi_quiet (fail)
  gi_wp2
  rename_i nq
  rw[Exit.noGoto_ret]
  refine⟨by simp,.inl ⟨_,_,rfl,run_takeDeferred (w:=W.drewN nq) hK,?_⟩⟩
  have hfp:Fr [D] W ((W.drewN nq).putObj D (.deferred none)):=((Fr.refl [D] W).drewN nq).trans (Fr.putObj _ _ (by simp))
  refine⟨_,results_tmp2 rfl _ _ _,?_,hM.m.fr hfp (fun k hk hm=> ?_) (fun k hk hm=> ?_),hF.step hfp (by simp;omega)⟩
  ·rw[hres];subst hxs;rfl
  ·simp at hm;subst hm;exact hq _ (by omega) hk
  ·simp at hm;omega
 case stop=>
  rintro D cd pre W hD _ ⟨hM,hF,rfl,hP,hB⟩ hK
  have hc2:=hP.cell 0
  have hc3:=hB.cell 0
  simp at hc2 hc3
  gi_wp2
  gi_quiet (fail)
  gi_wp2
  rename_i nq
  rw[Exit.noGoto_ret]
  refine⟨by simp,.inl ⟨_,_,rfl,run_takeDeferred (w:=W.drewN nq) hK,?_⟩⟩
  have hfp:Fr [D] W ((W.drewN nq).putObj D (.deferred none)):=((Fr.refl [D] W).drewN nq).trans (Fr.putObj _ _ (by simp))
  refine⟨_,results_tmp2 rfl _ _ _,?_,hM.m.fr hfp (fun k hk hm=> ?_) (fun k hk hm=> ?_),hF.step hfp (by simp;omega)⟩
  ·rfl
  ·simp at hm;subst hm;exact hq _ (by omega) hk
  ·simp at hm;omega
end
section
open Go.RowKit Go.Shelf
attribute [local go_sem] Oper.semAt_some
def ownS(v:Value):List Nat:=match v.ownBlock with|some g=> [g] |none=> []
theorem zbw{v:Value}{k:Nat}(h:k∈ownS v):v.ownBlock=some k:=by
 unfold ownS at h;rcases hv:v.ownBlock with _|g
 ·rw[hv]at h;cases h
 ·rw[hv]at h;simp at h;rw[h]
theorem zdm{W w1:World}{o:Obj}{v:Value}(h:(W.alloc o).grownBy w1 v.ownBlock):Fr (ownS v) W w1:=by
 have h0:Fr (ownS v) W (W.alloc o):=(Fr.refl _ _).alloc o;refine h0.trans ⟨h.os,h.tape,h.output,h.size,fun k hk hn=>h.block k hk (fun e=>hn ?_)⟩;unfold ownS;rw[←e];simp
theorem zf6(w:World)(a:Value)(t:TypeId):∀j u,[a][j]?=some u→(w.alloc (.cells #[a] t)).cell? ((⟨w.heap.size,0,none⟩:Addr).add j)=some u:=by
 intro j u hj;have h:=(Blk.new w t #[a]).cell j;have:(⟨w.heap.size,0,none⟩:Addr).add j=⟨w.heap.size,j,none⟩:=by unfold Addr.add;split<;>simp_all
 rw[this,h];simpa using hj
end
theorem zb9{w:World}{ops:Array Oper}{rest:List Oper}{o:Oper}{a:Act}{Q:Exit→Act→World→Prop}(hgd:o.guard=none)(s x:Operand)(ho:o.op= .call {callee:= .builtin .append,args:= #[s,x],argTypes:= #[30,30]})(hty:o.type=30)
  (base:Nat) (v:Value) (l:List Nat) (hs:a.eval s=v) (y:Nat) (W0:World) (hW:w=W0.alloc (.cells #[.int .i64 y] 3)) (hown:W0.ownsRow base 3 1 v l.length (intC l)) (hx:a.eval x= .slice (some ⟨W0.heap.size,0,none⟩) 1 1)
  (hl:l.length≤1048576) (hbase:base≤W0.heap.size)
  (h: ∀g cap w',w'.ownsRow base 3 1 (.slice (some ⟨g,0,none⟩) (l.length+1) cap) (l++ [y]).length (intC (l++ [y]))→Fr (ownS v) W0 w'→(v.ownBlock=some g∨g=W0.heap.size+1)→wpList prog ops Q rest (a.put o.dst (.slice (some ⟨g,0,none⟩) (l.length+1) cap)) w'):wpList prog ops Q (o::rest) a w:=by
 subst hW
 obtain⟨i0,hi,hz0,hz1,hz2⟩:=info_parts zg6
 refine wpList_plain hgd fun K hK=> ?_
 obtain⟨v',w',hrun,h2,h3,_,h5⟩:=run_append_own_at (P:=prog) (W0.alloc (.cells #[.int .i64 y] 3)) base 30 30 3 i0 (.int .i64 0) 1 8 underlying30 hi hz0 hz1 hz2 rfl (by decide) v l.length (intC l) (hown.alloc _) ⟨W0.heap.size,0,none⟩ 1 1 [.int .i64 y] (by simp) (zf6 _ _ _) (by simp[Value.oneCell']) (by unfold maxLen;omega) (by omega) (by simp;omega)
 have h2':w'.ownsRow base 3 1 v' (l++ [y]).length (intC (l++ [y])):=by rw[List.length_append,List.length_singleton,show intC (l++ [y])=intC l++ [.int .i64 y]by simp[intC]];exact h2
 obtain⟨g,cap,rfl⟩:=ownsRow_succ h2
 have hK':=hK _ _ (h g cap w' h2' (zdm h3) (by
  rw[World.size_alloc]at h5
  rcases h5 with h5|h5
  ·exact .inl h5.symm
  ·exact .inr (Option.some.inj h5)))
 unfold Oper.wp execOp
 simp only[ho,hty,resolve,invoke,builtin,Sem.run_bind,Sem.run_pure,Result.andThen_ok,List.map_toArray,List.map_cons,List.map_nil,hs,hx,hrun]
 exact hK'
def hd1:List Nat→Nat
 | [] =>0
 |x::_=>x+1
def pvF(p:Nat)(l:List Nat):Nat:=if l= []then p else pv l
theorem zer(p y:Nat)(l:List Nat):pvF p (y::l)=pvF (y+1) l:=by
 unfold pvF;rw[if_neg (by simp)];by_cases h:l= []
 ·rw[if_pos h,h];rfl
 ·rw[if_neg h]
  unfold pv;obtain⟨z,l',e2⟩:∃z l',l=l'++ [z] :=⟨l.getLast h,l.dropLast,(List.dropLast_concat_getLast h).symm⟩;rw[e2,←List.cons_append,List.getLast?_append,List.getLast?_append];rfl
theorem Lk_iff{t:TM}:∀{l:List Nat} {p s:Nat},Lk t p s l↔s=hd1 l∧∀l1 y l2,l=l1++y::l2→y<t.a∧t.hd y 4=pvF p l1∧t.hd y 3=hd1 l2
 | [],p,s=>⟨fun h=>⟨h,fun l1 y l2 e=>by simp at e⟩,fun h=>h.1⟩
 |x::l,p,s=>by
  constructor
  ·rintro⟨h0,h1,h2,h3⟩
   obtain⟨e1,e2⟩:=Lk_iff.1 h3;refine⟨h0,fun l1 y l2 e=> ?_⟩;rcases l1 with _|⟨z,l1⟩
   ·simp at e
    obtain⟨rfl,rfl⟩:=e;exact⟨h1,by rw[h2];rfl,e1⟩
   ·simp at e
    obtain⟨rfl,rfl⟩:=e;obtain⟨a1,a2,a3⟩:=e2 l1 y l2 rfl;exact⟨a1,by rw[zer];exact a2,a3⟩
  ·rintro⟨h0,h⟩
   obtain⟨a1,a2,a3⟩:=h [] x l rfl;refine⟨h0,a1,a2,Lk_iff.2 ⟨a3,fun l1 y l2 e=> ?_⟩⟩;obtain⟨b1,b2,b3⟩:=h (x::l1) y l2 (by rw[e];rfl);exact⟨b1,by rw[zer]at b2;exact b2,b3⟩
theorem pvF0(l:List Nat):pvF 0 l=pv l:=by
 unfold pvF;split
 ·next h=>rw[h];rfl
 ·rfl
theorem zgm(l m:List Nat)(h:m≠ []):pv (l++m)=pv m:=by
 obtain⟨z,l',e2⟩:∃z l',m=l'++ [z] :=⟨m.getLast h,m.dropLast,(List.dropLast_concat_getLast h).symm⟩;rw[e2,←List.append_assoc,zbz,zbz]
theorem zx7{l1 l2 m1 m2:List Nat}{x y:Nat}(h:l1++x::l2=m1++y::m2):(l1=m1∧x=y∧l2=m2)∨(∃r,l1=m1++y::r∧m2=r++x::l2)∨(∃r,l2=r++y::m2∧m1=l1++x::r):=by
 rcases List.append_eq_append_iff.1 h with⟨a,h1,h2⟩|⟨a,h1,h2⟩
 ·rcases a with _|⟨z,a⟩
  ·simp at h1 h2;exact .inl ⟨h1.symm,h2.1,h2.2⟩
  ·simp at h2
   obtain⟨rfl,rfl⟩:=h2;exact .inr (.inr ⟨a,rfl,h1⟩)
 ·rcases a with _|⟨z,a⟩
  ·simp at h1 h2;exact .inl ⟨h1,h2.1.symm,h2.2.symm⟩
  ·simp at h2
   obtain⟨rfl,rfl⟩:=h2;exact .inr (.inl ⟨a,h1,rfl⟩)
theorem zym{l1 l2 m1 m2:List Nat}{y:Nat}(h:l1++l2=m1++y::m2):(∃r,l1=m1++y::r∧m2=r++l2)∨(∃r,l2=r++y::m2∧m1=l1++r):=by
 rcases List.append_eq_append_iff.1 h with⟨a,h1,h2⟩|⟨a,h1,h2⟩
 ·exact .inr ⟨a,h2,h1⟩
 ·rcases a with _|⟨z,a⟩
  ·simp at h1 h2;exact .inr ⟨[],by simp[h2],by simp[h1]⟩
  ·simp at h2
   obtain⟨rfl,rfl⟩:=h2;exact .inl ⟨a,h1,rfl⟩
def TM.after(t:TM)(c p n:Nat):TM:=if 0<p then t.setHd (p-1) 3 n else t.setRt (3+c) n
def TM.lnk(t:TM)(c x p n:Nat):TM:=
 let t2:=(t.setHd x 4 p).setHd x 3 n
 (if 0<n then t2.setHd (n-1) 4 (x+1)else t2).after c p (x+1)
def TM.unl(t:TM)(c x p n:Nat):TM:=
 let t2:=t.after c p n
 ((if 0<n then t2.setHd (n-1) 4 p else t2).setHd x 3 0).setHd x 4 0
theorem zkw(t:TM)(c p n f:Nat):(t.after c p n).rt f=if p=0∧f=3+c then n else t.rt f:=by
 unfold TM.after;by_cases h:0<p
 ·rw[if_pos h,if_neg (by omega)];rfl
 ·rw[if_neg h,TM.setRt_rt]
  by_cases h2:f=3+c
  ·rw[if_pos h2,if_pos ⟨by omega,h2⟩]
  ·rw[if_neg h2,if_neg (fun e=>h2 e.2)]
theorem zg8(t:TM)(c p n y r:Nat):(t.after c p n).hd y r=if 0<p∧y=p-1∧r=3 then n else t.hd y r:=by
 unfold TM.after;by_cases h:0<p
 ·rw[if_pos h,TM.setHd_hd]
  by_cases h2:y=p-1∧r=3
  ·rw[if_pos h2,if_pos ⟨h,h2⟩]
  ·rw[if_neg h2,if_neg (fun e=>h2 e.2)]
 ·rw[if_neg h,if_neg (fun e=>h e.1)];rfl
theorem zcy(t:TM)(c p n:Nat):(t.after c p n).a=t.a:=by unfold TM.after;split<;>rfl
theorem ztq(t:TM)(c x p n f:Nat):(t.lnk c x p n).rt f=if p=0∧f=3+c then x+1 else t.rt f:=by
 unfold TM.lnk;rw[zkw];congr 1;split<;>rfl
theorem zgk(t:TM)(c x p n y r:Nat):(t.lnk c x p n).hd y r=if 0<p∧y=p-1∧r=3 then x+1 else if 0<n∧y=n-1∧r=4 then x+1 else if y=x∧r=3 then n else if y=x∧r=4 then p else t.hd y r:=by
 unfold TM.lnk;rw[zg8];congr 1;by_cases h:0<n
 ·rw[if_pos h,TM.setHd_hd,TM.setHd_hd,TM.setHd_hd]
  by_cases h2:y=n-1∧r=4
  ·rw[if_pos h2,if_pos ⟨h,h2⟩]
  ·rw[if_neg h2,if_neg (show¬(0<n∧y=n-1∧r=4)from fun e=>h2 e.2)]
 ·rw[if_neg h,TM.setHd_hd,TM.setHd_hd,if_neg (show¬(0<n∧y=n-1∧r=4)from fun e=>h e.1)]
theorem zi1(t:TM)(c x p n:Nat):(t.lnk c x p n).a=t.a:=by
 unfold TM.lnk;rw[zcy];split<;>rfl
theorem zt1(t:TM)(c x p n f:Nat):(t.unl c x p n).rt f=if p=0∧f=3+c then n else t.rt f:=by
 unfold TM.unl;rw[←zkw];show(if 0<n then _ else _:TM).rt f=_;split<;>rfl
theorem zgj(t:TM)(c x p n y r:Nat):(t.unl c x p n).hd y r=if y=x∧(r=3∨r=4)then 0 else if 0<n∧y=n-1∧r=4 then p else if 0<p∧y=p-1∧r=3 then n else t.hd y r:=by
 unfold TM.unl;rw[TM.setHd_hd,TM.setHd_hd];by_cases h1:y=x∧r=4
 ·rw[if_pos h1,if_pos ⟨h1.1,.inr h1.2⟩]
 ·rw[if_neg h1]
  by_cases h2:y=x∧r=3
  ·rw[if_pos h2,if_pos ⟨h2.1,.inl h2.2⟩]
  ·rw[if_neg h2,if_neg (show¬(y=x∧(r=3∨r=4))from fun e=>e.2.elim (fun e3=>h2 ⟨e.1,e3⟩) (fun e4=>h1 ⟨e.1,e4⟩))]
   by_cases h:0<n
   ·rw[if_pos h,TM.setHd_hd,zg8]
    by_cases h3:y=n-1∧r=4
    ·rw[if_pos h3,if_pos ⟨h,h3⟩]
    ·rw[if_neg h3,if_neg (show¬(0<n∧y=n-1∧r=4)from fun e=>h3 e.2)]
   ·rw[if_neg h,zg8,if_neg (show¬(0<n∧y=n-1∧r=4)from fun e=>h e.1)]
theorem zmn(t:TM)(c x p n:Nat):(t.unl c x p n).a=t.a:=by
 unfold TM.unl;show(if 0<n then _ else _:TM).a=_;split
 ·exact zcy t c p n
 ·exact zcy t c p n
theorem zke{l:List Nat}(h:0<pv l):∃l' y,l=l'++ [y]∧pv l=y+1:=by
 have h0:l≠ [] :=fun e=>by rw[e]at h;exact absurd h (by decide)
 refine⟨l.dropLast,l.getLast h0,(List.dropLast_concat_getLast h0).symm,?_⟩;conv=>lhs;rw[←List.dropLast_concat_getLast h0]
 exact zbz _ _
theorem ziv{l:List Nat}(h:0<hd1 l):∃y l',l=y::l'∧hd1 l=y+1:=by
 rcases l with _|⟨y,l⟩
 ·exact absurd h (by decide)
 ·exact⟨y,l,rfl,rfl⟩
theorem zx5{t:TM}{c x:Nat}{l1 l2:List Nat}(h:Lk t 0 (t.rt (3+c)) (l1++l2))(hx:x<t.a)(h1:x∉l1)(h2:x∉l2)(hd:∀y∈l1,y∉l2)(hn1:l1.Nodup)(hn2:l2.Nodup):Lk (t.lnk c x (pv l1) (hd1 l2)) 0 ((t.lnk c x (pv l1) (hd1 l2)).rt (3+c)) (l1++x::l2):=by
 obtain⟨e0,e⟩:=Lk_iff.1 h;rw[Lk_iff]
 have k1:∀y,0<pv l1→y=pv l1-1→y∈l1:=fun y hp hy=>by
  obtain⟨l',z,e1,e2⟩:=zke hp;rw[hy,e2,e1];simp
 have k2:∀y,0<hd1 l2→y=hd1 l2-1→y∈l2:=fun y hp hy=>by
  obtain⟨z,l',e1,e2⟩:=ziv hp;rw[hy,e2,e1];simp
 constructor
 ·rw[ztq]
  rcases l1 with _|⟨z,l1⟩
  ·rw[if_pos ⟨rfl,rfl⟩];rfl
  ·rw[if_neg (by
    intro h;have:pv (z::l1)=0:=h.1;obtain⟨l',y,e1⟩:∃l' y,z::l1=l'++ [y] :=⟨(z::l1).dropLast,(z::l1).getLast (by simp),(List.dropLast_concat_getLast (by simp)).symm⟩;rw[e1,zbz]at this;omega),e0]
   rfl
 ·intro m1 y m2 em
  rw[zi1,pvF0];rw[zgk,zgk];rcases zx7 em with⟨rfl,rfl,rfl⟩|⟨r,rfl,rfl⟩|⟨r,rfl,rfl⟩
  ·refine⟨hx,?_,?_⟩
   ·rw[if_neg (by omega),if_neg (fun h=>h2 (k2 _ h.1 h.2.1)),if_neg (by omega),if_pos ⟨rfl,rfl⟩]
   ·rw[if_neg (fun h=>h1 (k1 _ h.1 h.2.1)),if_neg (by omega),if_pos ⟨rfl,rfl⟩]
  ·obtain⟨a1,a2,a3⟩:=e m1 y (r++l2) (by simp)
   have hyx:y≠x:=fun e=>h1 (by rw[←e];simp);have hy2:y∉l2:=hd y (by simp);refine⟨a1,?_,?_⟩
   ·rw[if_neg (by omega),if_neg (fun h=>hy2 (k2 _ h.1 h.2.1)),if_neg (fun h=>hyx h.1),if_neg (fun h=>hyx h.1),a2,pvF0]
   ·rcases r with _|⟨z,r⟩
    ·rw[if_pos ⟨by rw[zbz];omega,by rw[zbz];omega,rfl⟩]
     rfl
    ·rw[if_neg (fun h=> ?_),if_neg (by omega),if_neg (fun h=>hyx h.1),if_neg (fun h=>hyx h.1),a3]
     ·rfl
     ·have hl:pv (m1++y::z::r)=pv (z::r):=by
       rw[show m1++y::z::r=(m1++ [y])++(z::r)by simp];exact zgm _ _ (by simp)
      obtain⟨l',u,e1,e2⟩:=zke (l:=z::r) (by rw[←hl];exact h.1);have hyu:y=u:=by have:=h.2.1;rw[hl,e2]at this;omega
      have:y∈z::r:=by rw[e1,hyu];simp
      have hnd:=(List.nodup_append.1 hn1).2.1;exact(List.nodup_cons.1 hnd).1 this
  ·obtain⟨a1,a2,a3⟩:=e (l1++r) y m2 (by simp)
   have hyx:y≠x:=fun e=>h2 (by rw[←e];simp);have hy1:y∉l1:=fun hm=>hd y hm (by simp);refine⟨a1,?_,?_⟩
   ·rcases r with _|⟨z,r⟩
    ·rw[if_neg (by omega),if_pos ⟨by simp[hd1],by simp[hd1],rfl⟩,zbz]
    ·rw[if_neg (by omega),if_neg (fun hh=> ?_),if_neg (fun h=>hyx h.1),if_neg (fun h=>hyx h.1),a2,pvF0,show l1++x::z::r=(l1++ [x])++(z::r)by simp,zgm (l1++ [x]) (z::r) (by simp),zgm l1 (z::r) (by simp)]
     have hyz:y=z:=by have:=hh.2.1;simp[hd1]at this;omega
     subst hyz;rw[List.cons_append]at hn2;exact(List.nodup_cons.1 hn2).1 (by simp)
   ·rw[if_neg (fun h=>hy1 (k1 _ h.1 h.2.1)),if_neg (by omega),if_neg (fun h=>hyx h.1),if_neg (fun h=>hyx h.1),a3]
theorem zmy{l1 l2:List Nat}{x:Nat}(h:(l1++x::l2).Nodup):x∉l1∧x∉l2∧(∀y∈l1,y∉l2)∧l1.Nodup∧l2.Nodup:=by
 obtain⟨a,b,c⟩:=List.nodup_append.1 h;obtain⟨d,e⟩:=List.nodup_cons.1 b;exact⟨fun hm=>c x hm x (by simp) rfl,d,fun y hy hm=>c y hy y (by simp[hm]) rfl,a,e⟩
theorem zef{l:List Nat}{y:Nat}(h:0<pv l)(e:y=pv l-1):y∈l:=by
 obtain⟨l',z,e1,e2⟩:=zke h;rw[e,e2,e1];simp
theorem zdd{l:List Nat}{y:Nat}(h:0<hd1 l)(e:y=hd1 l-1):y∈l:=by
 obtain⟨z,l',e1,e2⟩:=ziv h;rw[e,e2,e1];simp
theorem zpg{l:List Nat}(h:l≠ []):0<pv l:=by
 obtain⟨z,l',e2⟩:∃z l',l=l'++ [z] :=⟨l.getLast h,l.dropLast,(List.dropLast_concat_getLast h).symm⟩;rw[e2,zbz];omega
theorem zyc{t:TM}{c x:Nat}{l1 l2:List Nat}(h:Lk t 0 (t.rt (3+c)) (l1++x::l2))(hnd:(l1++x::l2).Nodup):Lk (t.unl c x (pv l1) (hd1 l2)) 0 ((t.unl c x (pv l1) (hd1 l2)).rt (3+c)) (l1++l2):=by
 obtain⟨e0,e⟩:=Lk_iff.1 h;obtain⟨h1,h2,hd,hn1,hn2⟩:=zmy hnd;rw[Lk_iff];constructor
 ·rw[zt1]
  rcases l1 with _|⟨z,l1⟩
  ·rw[if_pos ⟨rfl,rfl⟩];rfl
  ·rw[if_neg (fun h=>by have:=zpg (l:=z::l1) (by simp);omega),e0]
   rfl
 ·intro m1 y m2 em
  rw[zmn,pvF0,zgj,zgj];rcases zym em with⟨r,rfl,rfl⟩|⟨r,rfl,rfl⟩
  ·obtain⟨a1,a2,a3⟩:=e m1 y (r++x::l2) (by simp)
   have hyx:y≠x:=fun e=>h1 (by rw[←e];simp);have hy2:y∉l2:=hd y (by simp);refine⟨a1,?_,?_⟩
   ·rw[if_neg (fun h=>hyx h.1),if_neg (fun h=>hy2 (zdd h.1 h.2.1)),if_neg (by omega),a2,pvF0]
   ·rw[if_neg (fun h=>hyx h.1),if_neg (by omega)]
    rcases r with _|⟨z,r⟩
    ·rw[if_pos ⟨by rw[zbz];omega,by rw[zbz];omega,rfl⟩]
     rfl
    ·rw[if_neg (fun h=> ?_),a3]
     ·rfl
     ·have hl:pv (m1++y::z::r)=pv (z::r):=by
       rw[show m1++y::z::r=(m1++ [y])++(z::r)by simp];exact zgm _ _ (by simp)
      have hy:y∈z::r:=zef (by rw[←hl];exact h.1) (by rw[←hl];exact h.2.1);have hnd:=(List.nodup_append.1 hn1).2.1;exact(List.nodup_cons.1 hnd).1 hy
  ·obtain⟨a1,a2,a3⟩:=e (l1++x::r) y m2 (by simp)
   have hyx:y≠x:=fun e=>h2 (by rw[←e];simp);have hy1:y∉l1:=fun hm=>hd y hm (by simp);refine⟨a1,?_,?_⟩
   ·rw[if_neg (fun h=>hyx h.1)]
    rcases r with _|⟨z,r⟩
    ·rw[if_pos ⟨by simp[hd1],by simp[hd1],rfl⟩,List.append_nil]
    ·rw[if_neg (fun hh=> ?_),if_neg (by omega),a2,pvF0,show l1++x::z::r=(l1++ [x])++(z::r)by simp,zgm (l1++ [x]) (z::r) (by simp),zgm l1 (z::r) (by simp)]
     have hyz:y=z:=by have:=hh.2.1;simp[hd1]at this;omega
     subst hyz;rw[List.cons_append]at hn2;exact(List.nodup_cons.1 hn2).1 (by simp)
   ·rw[if_neg (fun h=>hyx h.1),if_neg (by omega),if_neg (fun h=>hy1 (zef h.1 h.2.1)),a3]
def lst(a:Nat)(inn:Nat→Int)(c:Nat):List Nat:=(List.range a).filter fun x=>decide (inn x=(c:Int))
def loL(inn:Nat→Int)(x c:Nat):List Nat:=(List.range x).filter fun y=>decide (inn y=(c:Int))
def hiL(a:Nat)(inn:Nat→Int)(x c:Nat):List Nat:=(List.range' (x+1) (a-(x+1))).filter fun y=>decide (inn y=(c:Int))
theorem zol(a x:Nat)(h:x<a):List.range a=List.range x++x::List.range' (x+1) (a-(x+1)):=by
 rw[List.range_eq_range',List.range_eq_range',←List.range'_succ];have:=List.range'_append_1 (s:=0) (m:=x) (n:=a-x);rw[Nat.zero_add]at this;rw[show a-(x+1)+1=a-x by omega,this];congr 1;omega
theorem zb3(a:Nat)(inn:Nat→Int)(x c:Nat)(h:x<a):lst a inn c=if inn x=(c:Int)then loL inn x c++x::hiL a inn x c else loL inn x c++hiL a inn x c:=by
 unfold lst loL hiL;rw[zol a x h,List.filter_append,List.filter_cons];by_cases e:inn x=(c:Int)
 ·rw[if_pos (by simpa using e),if_pos e]
 ·rw[if_neg (by simpa using e),if_neg e]
theorem zhw{a:Nat}{inn:Nat→Int}{c y:Nat}(h:y∈lst a inn c):y<a∧inn y=(c:Int):=by
 unfold lst at h;rw[List.mem_filter]at h;exact⟨List.mem_range.1 h.1,by simpa using h.2⟩
theorem zeb(a:Nat)(inn:Nat→Int)(c:Nat):(lst a inn c).Pairwise (·<·):=List.Pairwise.filter _ List.pairwise_lt_range
theorem zfm{l:List Nat}(h:l.Pairwise (·<·)):l.Nodup:=h.imp (fun h=>Nat.ne_of_lt h)
theorem zc9{inn:Nat→Int}{x c y:Nat}(h:y∈loL inn x c):y<x∧inn y=(c:Int):=zhw (a:=x) h
theorem zdk{a:Nat}{inn:Nat→Int}{x c y:Nat}(h:y∈hiL a inn x c):x<y∧y<a∧inn y=(c:Int):=by
 unfold hiL at h;rw[List.mem_filter,List.mem_range'_1]at h;exact⟨by omega,by omega,by simpa using h.2⟩
theorem zkh(inn:Nat→Int)(x c:Nat)(v:Int):loL (up inn x v) x c=loL inn x c:=by
 unfold loL;refine List.filter_congr fun y hy=> ?_;rw[zac _ _ (by have:=List.mem_range.1 hy;omega)]
theorem zk9(a:Nat)(inn:Nat→Int)(x c:Nat)(v:Int):hiL a (up inn x v) x c=hiL a inn x c:=by
 unfold hiL;refine List.filter_congr fun y hy=> ?_;rw[zac _ _ (by have:=(List.mem_range'_1.1 hy).1;omega)]
theorem zh8(x:Nat):∀(l1 l2:List Nat) (p:Nat),(∀y∈l1,y<x)→(∀y∈l2,x<y)→wth x p (l1++l2)=(false,pvF p l1)
 | [],[],p,_,_=>rfl
 | [],y::l,p,_,h=>by
  have:=h y (by simp);show wth x p (y::l)=_;rw[wth,if_pos this];rfl
 |y::l,l2,p,h1,h2=>by
  have:=h1 y (by simp);rw[List.cons_append,wth,if_neg (by omega),if_neg (by omega),zh8 x l l2 (y+1) (fun z hz=>h1 z (by simp[hz])) h2,zer]
theorem zqa(x:Nat):∀(l1 l2:List Nat) (p:Nat),(∀y∈l1,y<x)→wth x p (l1++x::l2)=(true,pvF p l1)
 | [],l,p,_=>by
  show wth x p (x::l)=_;rw[wth,if_neg (by omega),if_pos rfl];rfl
 |y::l,l2,p,h1=>by
  have:=h1 y (by simp);rw[List.cons_append,wth,if_neg (by omega),if_neg (by omega),zqa x l l2 (y+1) (fun z hz=>h1 z (by simp[hz])),zer]
theorem zum(a:Nat)(inn:Nat→Int)(x c:Nat)(h:x<a):wth x 0 (lst a inn c)=(decide (inn x=(c:Int)),pv (loL inn x c)):=by
 rw[zb3 a inn x c h];by_cases e:inn x=(c:Int)
 ·rw[if_pos e,zqa x _ _ 0 (fun y hy=>(zc9 hy).1),decide_eq_true e,pvF0]
 ·rw[if_neg e,zh8 x _ _ 0 (fun y hy=>(zc9 hy).1) (fun y hy=>(zdk hy).1),decide_eq_false e,pvF0]
structure LS(t:TM)(inn:Nat→Int):Prop where
 ln: ∀c,c≤9→Lk t 0 (t.rt (3+c)) (lst t.a inn c)
 out: ∀x,x<t.a→inn x<0→t.hd x 3=0∧t.hd x 4=0
 le: ∀x,x<t.a→ -1≤inn x∧inn x≤9
theorem LS.ins{t:TM}{inn:Nat→Int}(h:LS t inn){c x:Nat}(hc:c≤9)(hx:x<t.a)(hn:inn x<0):LS (t.lnk c x (pv (loL inn x c)) (hd1 (hiL t.a inn x c))) (up inn x c):=by
 have hcut:=zb3 t.a inn x c hx;rw[if_neg (by omega)]at hcut;have hl:=h.ln c hc;have hso:=zeb t.a inn c;rw[hcut]at hl hso;have hnd:=zfm hso;obtain⟨n1,n2,n3⟩:=List.nodup_append.1 hnd;refine⟨fun d hd=> ?_,fun y hy hyn=> ?_,fun y hy=> ?_⟩
 ·rw[zi1]
  by_cases e:d=c
  ·subst e
   rw[zb3 t.a _ x d hx,if_pos (zaa _ _ _),zkh,zk9];exact zx5 hl hx (fun hm=>by have:=(zc9 hm).1;omega) (fun hm=>by have:=(zdk hm).1;omega) (fun y h1 h2=>by have:=(zc9 h1).1;have:=(zdk h2).1;omega) n1 n2
  ·have e1:lst t.a (up inn x c) d=lst t.a inn d:=by
    rw[zb3 t.a _ x d hx,zb3 t.a inn x d hx,zaa,if_neg (by omega),if_neg (by omega),zkh,zk9]
   rw[e1,ztq,if_neg (by omega)];refine(h.ln d hd).same (zi1 _ _ _ _ _) (fun y hy=> ?_);have hyd:=(zhw hy).2;rw[zgk,zgk];have hyx:y≠x:=fun e=>by subst e;omega
   have k1:∀(h0:0<pv (loL inn x c)),y≠pv (loL inn x c)-1:=fun h0 e2=>by have:=(zc9 (zef h0 e2)).2;omega
   have k2:∀(h0:0<hd1 (hiL t.a inn x c)),y≠hd1 (hiL t.a inn x c)-1:=fun h0 e2=>by have:=(zdk (zdd h0 e2)).2.2;omega
   exact⟨by rw[if_neg (fun h=>k1 h.1 h.2.1),if_neg (by omega),if_neg (fun h=>hyx h.1),if_neg (fun h=>hyx h.1)],by rw[if_neg (by omega),if_neg (fun h=>k2 h.1 h.2.1),if_neg (fun h=>hyx h.1),if_neg (fun h=>hyx h.1)]⟩
 ·rw[zi1]at hy
  have hyx:y≠x:=fun e=>by subst e;rw[zaa]at hyn;omega
  rw[zac _ _ hyx]at hyn;have k1:∀(h0:0<pv (loL inn x c)),y≠pv (loL inn x c)-1:=fun h0 e2=>by have:=(zc9 (zef h0 e2)).2;omega
  have k2:∀(h0:0<hd1 (hiL t.a inn x c)),y≠hd1 (hiL t.a inn x c)-1:=fun h0 e2=>by have:=(zdk (zdd h0 e2)).2.2;omega
  rw[zgk,zgk];rw[if_neg (fun h=>k1 h.1 h.2.1),if_neg (by omega),if_neg (fun h=>hyx h.1),if_neg (fun h=>hyx h.1),if_neg (by omega),if_neg (fun h=>k2 h.1 h.2.1),if_neg (fun h=>hyx h.1),if_neg (fun h=>hyx h.1)];exact h.out y hy hyn
 ·rw[zi1]at hy
  by_cases e:y=x
  ·rw[e,zaa];omega
  ·rw[zac _ _ e];exact h.le y hy
theorem LS.del{t:TM}{inn:Nat→Int}(h:LS t inn){c x:Nat}(hc:c≤9)(hx:x<t.a)(hn:inn x=(c:Int)):LS (t.unl c x (pv (loL inn x c)) (hd1 (hiL t.a inn x c))) (up inn x (-1)):=by
 have hcut:=zb3 t.a inn x c hx;rw[if_pos hn]at hcut;have hl:=h.ln c hc;have hso:=zeb t.a inn c;rw[hcut]at hl hso;have hnd:=zfm hso;refine⟨fun d hd=> ?_,fun y hy hyn=> ?_,fun y hy=> ?_⟩
 ·rw[zmn]
  by_cases e:d=c
  ·subst e
   rw[zb3 t.a _ x d hx,zaa,if_neg (by omega),zkh,zk9];exact zyc hl hnd
  ·have e1:lst t.a (up inn x (-1)) d=lst t.a inn d:=by
    rw[zb3 t.a _ x d hx,zb3 t.a inn x d hx,zaa,if_neg (by omega),if_neg (by omega),zkh,zk9]
   rw[e1,zt1,if_neg (by omega)];refine(h.ln d hd).same (zmn _ _ _ _ _) (fun y hy=> ?_);have hyd:=(zhw hy).2;rw[zgj,zgj];have hyx:y≠x:=fun e=>by subst e;omega
   have k1:∀(h0:0<pv (loL inn x c)),y≠pv (loL inn x c)-1:=fun h0 e2=>by have:=(zc9 (zef h0 e2)).2;omega
   have k2:∀(h0:0<hd1 (hiL t.a inn x c)),y≠hd1 (hiL t.a inn x c)-1:=fun h0 e2=>by have:=(zdk (zdd h0 e2)).2.2;omega
   exact⟨by rw[if_neg (fun h=>hyx h.1),if_neg (by omega),if_neg (fun h=>k1 h.1 h.2.1)],by rw[if_neg (fun h=>hyx h.1),if_neg (fun h=>k2 h.1 h.2.1),if_neg (by omega)]⟩
 ·rw[zmn]at hy
  rw[zgj,zgj];by_cases hyx:y=x
  ·rw[if_pos ⟨hyx,.inl rfl⟩,if_pos ⟨hyx,.inr rfl⟩];exact⟨rfl,rfl⟩
  ·rw[zac _ _ hyx]at hyn
   have k1:∀(h0:0<pv (loL inn x c)),y≠pv (loL inn x c)-1:=fun h0 e2=>by have:=(zc9 (zef h0 e2)).2;omega
   have k2:∀(h0:0<hd1 (hiL t.a inn x c)),y≠hd1 (hiL t.a inn x c)-1:=fun h0 e2=>by have:=(zdk (zdd h0 e2)).2.2;omega
   rw[if_neg (fun h=>hyx h.1),if_neg (by omega),if_neg (fun h=>k1 h.1 h.2.1),if_neg (fun h=>hyx h.1),if_neg (fun h=>k2 h.1 h.2.1),if_neg (by omega)];exact h.out y hy hyn
 ·rw[zmn]at hy
  by_cases e:y=x
  ·rw[e,zaa];omega
  ·rw[zac _ _ e];exact h.le y hy
theorem LS.next{t:TM}{inn:Nat→Int}(h:LS t inn){c:Nat}(hc:c≤9){l1 l2:List Nat}{y:Nat}(e:lst t.a inn c=l1++y::l2):t.hd y 3=hd1 l2∧t.hd y 4=pv l1:=by
 obtain⟨_,h2⟩:=Lk_iff.1 (h.ln c hc);obtain⟨_,b,d⟩:=h2 l1 y l2 e;exact⟨d,by rw[b,pvF0]⟩
theorem LS.root{t:TM}{inn:Nat→Int}(h:LS t inn){c:Nat}(hc:c≤9):t.rt (3+c)=hd1 (lst t.a inn c):=(Lk_iff.1 (h.ln c hc)).1
theorem LS.behind{t:TM}{inn:Nat→Int}(h:LS t inn){c x:Nat}(hc:c≤9)(hx:x<t.a)(hn:inn x≠(c:Int)):(if 0<pv (loL inn x c)then t.hd (pv (loL inn x c)-1) 3 else t.rt (3+c))=hd1 (hiL t.a inn x c):=by
 have hcut:=zb3 t.a inn x c hx;rw[if_neg hn]at hcut;by_cases h0:loL inn x c= []
 ·rw[if_neg (by rw[h0];decide),h.root hc,hcut,h0];rfl
 ·rw[if_pos (zpg h0)]
  obtain⟨l',z,e1,e2⟩:=zke (zpg h0);rw[e2,Nat.add_sub_cancel];exact(h.next hc (l1:=l') (by rw[hcut,e1];simp)).1
section
section
variable {w : World} {q : MH} {t : TM}
theorem zjp(h:IsT w q t)(c p n:Nat)(hc:c≤9)(hp:p≤t.a)(hn:n<4294967296):Calls prog 244 #[.pointer (some ⟨q.m,0,none⟩),.int .i64 c,.int .i64 p,.int .i64 n] w fun e w'=>e= .returned (.tuple #[])∧IsT w' q (t.after c p n)∧Fr q.blocks w w':=by
 have ha:=(zbf h.ok).1;have u1:=za3 n (by omega);by_cases h0:0<p
 ·have b1:decide ((0:Int)<p)=true:=by simp;omega
  have b1':decide (0<p)=true:=by simp;omega
  have w1:=i64_in ((p:Int)-1) (by omega);have hput:=zfh h (p-1) 3 n (by omega) (by decide) hn 8 4 n rfl rfl rfl ((p:Int)-1) (by omega);have e:t.after c p n=t.setHd (p-1) 3 n:=by unfold TM.after;rw[if_pos h0]
  rw[e];generalize t.setHd (p-1) 3 n=t' at*;clear h e hp hn ha h0;go_enter func244,ntmps244;go_wp2_with fail;with_reducible refine hput.mono ?_
  rintro e w1 ⟨rfl,h1,f1⟩;have H1:=hid h1;clear h1 hput;go_wp2_with fail;refine bodyPost_ret (results_none rfl _ _ _) rfl ?_;exact⟨rfl,H1.out,f1⟩
 ·have b1:decide ((0:Int)<p)=false:=by simp;omega
  have b1':decide (0<p)=false:=by simp;omega
  have w1:=i64_in (3+(c:Int)) (by omega);have hput:=zcg h (3+c) (by omega) n (by unfold fldW;rw[if_neg (by omega)];exact hn) (3+(c:Int)) (by omega) n rfl;have e:t.after c p n=t.setRt (3+c) n:=by unfold TM.after;rw[if_neg h0]
  rw[e];generalize t.setRt (3+c) n=t' at*;clear h e hp hn ha h0;go_enter func244,ntmps244;go_wp2_with fail;with_reducible refine hput.mono ?_
  rintro e w1 ⟨rfl,h1,f1⟩;have H1:=hid h1;clear h1 hput;go_wp2_with fail;go_end0;exact⟨rfl,H1.out,f1⟩
theorem ztz(h:IsT w q t)(c x p n:Nat)(hc:c≤9)(hx:x<t.a)(hp:p≤t.a)(hn:n≤t.a):Calls prog 165 #[.pointer (some ⟨q.m,0,none⟩),.int .i64 c,.int .i64 x,.int .i64 p,.int .i64 n] w fun e w'=>e= .returned (.tuple #[])∧IsT w' q (t.lnk c x p n)∧Fr q.blocks w w':=by
 have ha:=(zbf h.ok).1;have u1:=za3 n (by omega);have u2:=za3 p (by omega);have u3:IntKind.u64.wrap ((x:Int)+1)=(x:Int)+1:=za3 (x+1) (by omega);have w2:=i64_in ((x:Int)+1) (by omega);have hput1:=zfh h x 4 p hx (by decide) (show p<4294967296 by omega) 12 4 p rfl rfl rfl x rfl;have hput2:=hid (fun W hW=>zfh (w:=W) (q:=q) (t:=t.setHd x 4 p) hW x 3 n hx (by decide) (show n<4294967296 by omega) 8 4 n rfl rfl rfl x rfl);have hx1:((x:Int)+1)=((x+1:Nat):Int):=rfl;by_cases h0:0<n
 ·have b1:decide ((0:Int)<n)=true:=by simp;omega
  have b1':decide (0<n)=true:=by simp;omega
  have w1:=i64_in ((n:Int)-1) (by omega);have hput3:=hid (fun W hW=>zfh (w:=W) (q:=q) (t:=(t.setHd x 4 p).setHd x 3 n) hW (n-1) 4 (x+1) (show n-1<t.a by omega) (by decide) (show x+1<4294967296 by omega) 12 4 ((x:Int)+1) rfl rfl rfl ((n:Int)-1) (by omega));have hput4:=hid (fun W hW=>zjp (w:=W) (q:=q) (t:=((t.setHd x 4 p).setHd x 3 n).setHd (n-1) 4 (x+1)) hW c p (x+1) hc (show p≤t.a from hp) (by omega));have e:t.lnk c x p n=(((t.setHd x 4 p).setHd x 3 n).setHd (n-1) 4 (x+1)).after c p (x+1):=by unfold TM.lnk;dsimp only;rw[if_pos h0]
  rw[e];rw[←hx1]at hput4;generalize(((t.setHd x 4 p).setHd x 3 n).setHd (n-1) 4 (x+1)).after c p (x+1)=t4 at*;generalize((t.setHd x 4 p).setHd x 3 n).setHd (n-1) 4 (x+1)=t3 at*;generalize(t.setHd x 4 p).setHd x 3 n=t2 at*;generalize t.setHd x 4 p=t1 at*;clear h e hp hn ha h0 hx1 hx;go_enter func165,ntmps165;go_wp2_with fail;with_reducible refine hput1.mono ?_
  rintro e w1 ⟨rfl,h1,f1⟩;clear hput1;go_wp2_with fail;with_reducible refine(hput2.out _ h1).mono ?_
  rintro e w2 ⟨rfl,h2,f2⟩;have F2:=hid (f1.trans f2);clear hput2 h1 f1 f2;go_wp2_with fail;with_reducible refine(hput3.out _ h2).mono ?_
  rintro e w3 ⟨rfl,h3,f3⟩;have F3:=hid (F2.out.trans f3);clear hput3 h2 f3;go_wp2_with fail;with_reducible refine(hput4.out _ h3).mono ?_
  rintro e w4 ⟨rfl,h4,f4⟩;have H4:=hid h4;have F4:=hid (F3.out.trans f4);clear hput4 h3 f4 h4;go_wp2_with fail;go_end0;exact⟨rfl,H4.out,F4.out⟩
 ·have b1:decide ((0:Int)<n)=false:=by simp;omega
  have b1':decide (0<n)=false:=by simp;omega
  have hput4:=hid (fun W hW=>zjp (w:=W) (q:=q) (t:=((t.setHd x 4 p).setHd x 3 n)) hW c p (x+1) hc (show p≤t.a from hp) (by omega));have e:t.lnk c x p n=(((t.setHd x 4 p).setHd x 3 n)).after c p (x+1):=by unfold TM.lnk;dsimp only;rw[if_neg h0]
  rw[e];rw[←hx1]at hput4;generalize(((t.setHd x 4 p).setHd x 3 n)).after c p (x+1)=t4 at*;generalize(t.setHd x 4 p).setHd x 3 n=t2 at*;generalize t.setHd x 4 p=t1 at*;clear h e hp hn ha h0 hx1 hx;go_enter func165,ntmps165;go_wp2_with fail;with_reducible refine hput1.mono ?_
  rintro e w1 ⟨rfl,h1,f1⟩;clear hput1;go_wp2_with fail;with_reducible refine(hput2.out _ h1).mono ?_
  rintro e w2 ⟨rfl,h2,f2⟩;have F2:=hid (f1.trans f2);clear hput2 h1 f1 f2;go_wp2_with fail;with_reducible refine(hput4.out _ h2).mono ?_
  rintro e w4 ⟨rfl,h4,f4⟩;have H4:=hid h4;have F4:=hid (F2.out.trans f4);clear hput4 h2 f4 h4;go_wp2_with fail;go_end0;exact⟨rfl,H4.out,F4.out⟩
def zba(a:Nat)(c x:Int):Nat:=if¬(0≤c∧c≤9)then 2 else if¬(0≤x∧x<a)then 6 else 0
theorem zd2(h:IsT w q t)(c x:Int):Calls prog 208 #[.pointer (some ⟨q.m,0,none⟩),.int .i64 c,.int .i64 x] w fun e w'=>e= .returned (.int .i64 (zba t.a c x))∧Fr [] w w':=by
 have hma:=zhu h;have hi:=fun W=>liis W c;have HT:=hid h;have hh:=fun W hW=>zwt (w:=W) (q:=q) (t:=t) hW x;unfold zba;by_cases h1:0≤c∧c≤9
 ·rw[decide_eq_true h1]at hi
  rw[if_neg (fun h=>h h1)];by_cases h2:0≤x∧x<(t.a:Int)
  ·rw[decide_eq_true h2]at hh
   rw[if_neg (fun h=>h h2)];generalize t.a=a at*;clear h h1 h2;go_enter func208,ntmps208;go_wp2_with fail;with_reducible refine hma.mono ?_
   rintro e w1 ⟨rfl,f1⟩;have H1:=hid (HT.out.fr0 f1);clear hma;go_wp2_with fail;with_reducible refine(hi _).mono ?_
   rintro e w2 ⟨rfl,rfl⟩;go_wp2_with fail;with_reducible refine(hh _ H1.out).mono ?_
   rintro e w3 ⟨rfl,f3⟩;have F3:=hid (f1.trans f3);clear f1 f3;go_wp2_with fail;go_ret;exact⟨rfl,F3.out⟩
  ·rw[decide_eq_false h2]at hh
   rw[if_pos h2];generalize t.a=a at*;clear h h1 h2;go_enter func208,ntmps208;go_wp2_with fail;with_reducible refine hma.mono ?_
   rintro e w1 ⟨rfl,f1⟩;have H1:=hid (HT.out.fr0 f1);clear hma;go_wp2_with fail;with_reducible refine(hi _).mono ?_
   rintro e w2 ⟨rfl,rfl⟩;go_wp2_with fail;with_reducible refine(hh _ H1.out).mono ?_
   rintro e w3 ⟨rfl,f3⟩;have F3:=hid (f1.trans f3);clear f1 f3;go_wp2_with fail;go_ret;exact⟨rfl,F3.out⟩
 ·rw[decide_eq_false h1]at hi
  rw[if_pos h1];clear h h1 hh HT;go_enter func208,ntmps208;go_wp2_with fail;with_reducible refine hma.mono ?_
  rintro e w1 ⟨rfl,f1⟩;clear hma;go_wp2_with fail;with_reducible refine(hi _).mono ?_
  rintro e w2 ⟨rfl,rfl⟩;go_wp2_with fail;go_ret;exact⟨rfl,f1⟩
end
variable {w : World} {q : MH} {t : TM} {inn : Nat → Int}
theorem zel(h:IsT w q t)(hl:LS t inn)(c x:Nat)(hc:c≤9)(hx:x<t.a):Calls prog 209 #[.pointer (some ⟨q.m,0,none⟩),.int .i64 c,.int .i64 x] w fun e w'=>e= .returned (.tuple #[.bool (decide (inn x=(c:Int))),.int .i64 (pv (loL inn x c))])∧IsT w' q t∧Fr q.blocks w w':=by
 have:=callsIn_wide.1 (zni 4 (Nat.le_refl 4) w q t h c hc (lst t.a inn c) (hl.ln c hc) (zeb t.a inn c) x);rw[zum t.a inn x c hx]at this;exact this
def zm8(t:TM)(inn:Nat→Int)(c:Int):Int:=if 0≤c∧c≤9 then(hd1 (lst t.a inn c.toNat):Int)-1 else-1
theorem zta(a:Nat)(inn:Nat→Int)(c:Nat):hd1 (lst a inn c)≤a:=by
 rcases h:lst a inn c with _|⟨x,l⟩
 ·exact Nat.zero_le _
 ·have:=(zhw (a:=a) (inn:=inn) (c:=c) (y:=x) (by rw[h];simp)).1
  exact this
theorem z0o(h:IsT w q t)(hl:LS t inn)(c:Int):Calls prog 100 #[.pointer (some ⟨q.m,0,none⟩),.int .i64 c] w fun e w'=>e= .returned (.int .i64 (zm8 t inn c))∧IsT w' q t∧Fr q.blocks w w':=by
 have hma:=zhu h;have HT:=hid h;have hi:=fun W=>liis W c;unfold zm8;by_cases h1:0≤c∧c≤9
 ·rw[decide_eq_true h1]at hi
  rw[if_pos h1];have hf:=fun W hW=>zhf (w:=W) (q:=q) (t:=t) hW c.toNat (by omega) c (by omega);rw[hl.root (by omega:c.toNat≤9)]at hf;have hb:=zta t.a inn c.toNat;have ha:=(zbf h.ok).1;generalize hd1 (lst t.a inn c.toNat)=v at*;have w1:=i64_in ((v:Int)-1) (by omega);clear h h1 hl hb ha;go_enter func100,ntmps100;go_wp2_with fail;with_reducible refine hma.mono ?_
  rintro e w1 ⟨rfl,f1⟩;have H1:=hid (HT.out.fr0 f1);clear hma;go_wp2_with fail;with_reducible refine(hi _).mono ?_
  rintro e w2 ⟨rfl,rfl⟩;go_wp2_with fail;with_reducible refine(hf _ H1.out).mono ?_
  rintro e w3 ⟨rfl,h3,f3⟩;have H3:=hid h3;have F3:=hid (f1.nil.trans f3);clear f1 f3 h3;go_wp2_with fail;go_ret;exact⟨rfl,H3.out,F3.out⟩
 ·rw[decide_eq_false h1]at hi
  rw[if_neg h1];clear h h1 hl;go_enter func100,ntmps100;go_wp2_with fail;with_reducible refine hma.mono ?_
  rintro e w1 ⟨rfl,f1⟩;clear hma;go_wp2_with fail;with_reducible refine(hi _).mono ?_
  rintro e w2 ⟨rfl,rfl⟩;go_wp2_with fail;go_ret;exact⟨rfl,HT.out.fr0 f1,f1.nil⟩
end
section
variable {w : World} {q : MH} {t : TM} {inn : Nat → Int}
theorem zrq(h:IsT w q t)(c x:Int)(hr:zba t.a c x≠0):Calls prog 111 #[.pointer (some ⟨q.m,0,none⟩),.int .i64 c,.int .i64 x] w fun e w'=>e= .returned (.int .i64 (zba t.a c x))∧Fr [] w w':=by
 have hR:=zd2 h c x;generalize zba t.a c x=r at*;have b1:((r:Int)==0)=false:=by simp;omega
 have b2:((r:Int) !=0)=true:=by simp;omega
 clear h hr;go_enter func111,ntmps111;go_wp2_with fail;with_reducible refine hR.mono ?_
 rintro e w1 ⟨rfl,f1⟩;clear hR;go_wp2_with fail;go_ret;exact⟨rfl,f1⟩
theorem zry(h:IsT w q t)(c x:Int)(hr:zba t.a c x≠0):Calls prog 201 #[.pointer (some ⟨q.m,0,none⟩),.int .i64 c,.int .i64 x] w fun e w'=>e= .returned (.int .i64 (zba t.a c x))∧Fr [] w w':=by
 have hR:=zd2 h c x;generalize zba t.a c x=r at*;have b1:((r:Int)==0)=false:=by simp;omega
 have b2:((r:Int) !=0)=true:=by simp;omega
 clear h hr;go_enter func201,ntmps201;go_wp2_with fail;with_reducible refine hR.mono ?_
 rintro e w1 ⟨rfl,f1⟩;clear hR;go_wp2_with fail;go_ret;exact⟨rfl,f1⟩
theorem za8{a c x:Nat}(hc:c≤9)(hx:x<a):zba a c x=0:=by
 unfold zba;rw[if_neg (by omega),if_neg (by omega)]
theorem zsw(h:IsT w q t)(hl:LS t inn)(c x:Nat)(hc:c≤9)(hx:x<t.a)(hn:0≤inn x):Calls prog 111 #[.pointer (some ⟨q.m,0,none⟩),.int .i64 c,.int .i64 x] w fun e w'=>e= .returned (.int .i64 8)∧IsT w' q t∧Fr q.blocks w w':=by
 have hR:=zd2 h c x;rw[za8 hc hx]at hR;have HW:=hid (fun W hW d hd=>zel (w:=W) (q:=q) (t:=t) (inn:=inn) hW hl d x hd hx);obtain⟨k,hk,hkk⟩:∃k:Nat,k≤9∧inn x=(k:Int):=⟨(inn x).toNat,by have:=hl.le x hx;omega,by omega⟩;have HT:=hid h;clear h hc hn hl hx;go_enter func111,ntmps111;go_wp2_with fail;with_reducible refine hR.mono ?_
 rintro e w1 ⟨rfl,f1⟩;have H1:=hid (HT.out.fr0 f1);have F1:=hid (f1.nil (S:=q.blocks));clear hR f1;go_wp2_with fail;go_loopw [21] (fun v W=>∃j:Nat,j≤k∧v= .int .i64 j∧IsT W q t∧Fr q.blocks w W) (fun v _=>10-(intOf v).toNat);case atStart=>exact⟨0,by omega,rfl,H1.out,F1.out⟩
 case round=>
  obtain⟨j,hj,rfl,hI,hF⟩:=hrel;have hw:=HW.out _ hI j (by omega);have HF:=hid hF;have b0:decide ((j:Int)<10)=true:=by simp;omega
  have b0':decide (j<10)=true:=by simp;omega
  clear hI hF;generalize pv (loL inn x j)=p at*;by_cases e:j=k
  ·rw[decide_eq_true (show inn x=(j:Int)by rw[hkk,e])]at hw
   clear e hj hkk;go_wp2_with fail;with_reducible refine hw.mono ?_
   rintro e w2 ⟨rfl,h2,f2⟩;have H2:=hid h2;have F2:=hid (HF.out.trans f2);clear h2 f2 hw;go_wp2_with fail;go_ret;exact⟨rfl,H2.out,F2.out⟩
  ·rw[decide_eq_false (show¬inn x=(j:Int)by rw[hkk];omega)]at hw
   have w1:=i64_in ((j:Int)+1) (by omega);clear hkk;go_wp2_with fail;with_reducible refine hw.mono ?_
   rintro e w2 ⟨rfl,h2,f2⟩;have H2:=hid h2;have F2:=hid (HF.out.trans f2);clear h2 f2 hw;go_wp2_with fail;exact⟨⟨j+1,by omega,by go_num,H2.out,F2.out⟩,by simp[intOf];omega⟩
theorem zqc(h:IsT w q t)(hl:LS t inn)(c x:Nat)(hc:c≤9)(hx:x<t.a)(hn:inn x<0):Calls prog 111 #[.pointer (some ⟨q.m,0,none⟩),.int .i64 c,.int .i64 x] w fun e w'=>e= .returned (.int .i64 0)∧IsT w' q (t.lnk c x (pv (loL inn x c)) (hd1 (hiL t.a inn x c)))∧Fr q.blocks w w':=by
 have hR:=zd2 h c x;rw[za8 hc hx]at hR
 have HW:=hid (fun W hW d hd=>by
  have:=zel (w:=W) (q:=q) (t:=t) (inn:=inn) hW hl d x hd hx;rw[decide_eq_false (by omega)]at this;exact this)
 have HF1:=hid (fun W hW=>zhf (w:=W) (q:=q) (t:=t) hW c hc c rfl);have hb:=hl.behind hc hx (c:=c) (by omega)
 have hpa:pv (loL inn x c)≤t.a:=by
  by_cases h0:loL inn x c= []
  ·rw[h0];exact Nat.zero_le _
  ·have:=zef (zpg h0) rfl
   have:=(zc9 this).1;omega
 have hna:hd1 (hiL t.a inn x c)≤t.a:=by
  by_cases h0:0<hd1 (hiL t.a inn x c)
  ·have:=(zdk (zdd h0 rfl)).2.1
   omega
  ·omega
 have HL:=hid (fun W hW=>ztz (w:=W) (q:=q) (t:=t) hW c x (pv (loL inn x c)) (hd1 (hiL t.a inn x c)) hc hx hpa hna);have HP:=hid (fun W hW (h0:0<pv (loL inn x c))=>zeh (w:=W) (q:=q) (t:=t) hW (pv (loL inn x c)-1) 3 (by omega) (by decide) 8 4 rfl rfl);have HT:=hid h;have ha64:=(zbf h.ok).1;have hpp:pv (loL inn x c)=pv (loL inn x c):=rfl;generalize t.lnk c x (pv (loL inn x c)) (hd1 (hiL t.a inn x c))=t' at*;generalize hpe:pv (loL inn x c)=p at*;generalize hd1 (hiL t.a inn x c)=n at*;clear h hn hl hpp hna;go_enter func111,ntmps111;go_wp2_with fail;with_reducible refine hR.mono ?_
 rintro e w1 ⟨rfl,f1⟩;have H1:=hid (HT.out.fr0 f1);have F1:=hid (f1.nil (S:=q.blocks));clear hR f1;go_wp2_with fail;go_loopw [21] (fun v W=>∃j:Nat,j≤10∧v= .int .i64 j∧IsT W q t∧Fr q.blocks w W) (fun v _=>10-(intOf v).toNat);case atStart=>exact⟨0,by omega,rfl,H1.out,F1.out⟩
 case round=>
  obtain⟨j,hj,rfl,hI,hF⟩:=hrel;have HF:=hid hF;by_cases e:j<10
  ·have hw:=HW.out _ hI j (by omega)
   have b0:decide ((j:Int)<10)=true:=by simp;omega
   have b0':decide (j<10)=true:=by simp;omega
   have w1:=i64_in ((j:Int)+1) (by omega);clear hI hF hb;generalize pv (loL inn x j)=pj at*;go_wp2_with fail;with_reducible refine hw.mono ?_
   rintro e w2 ⟨rfl,h2,f2⟩;have H2:=hid h2;have F2:=hid (HF.out.trans f2);clear h2 f2 hw;go_wp2_with fail;exact⟨⟨j+1,by omega,by go_num,H2.out,F2.out⟩,by simp[intOf];omega⟩
  ·obtain rfl:j=10:=by omega
   have hw:=HW.out _ hI c hc;rw[hpe]at hw;clear hI hF hj e;by_cases h0:0<p
   ·have b1:decide ((0:Int)<p)=true:=by simp;omega
    have b1':decide (0<p)=true:=by simp;omega
    rw[if_pos h0]at hb;have e1:(((p-1:Nat):Int))=(p:Int)-1:=by omega
    have w1:=i64_in ((p:Int)-1) (by omega);have hp3:=hid (fun W hW=>by have:=HP.out W hW h0;rw[hb,e1]at this;exact this);clear hb hx hc h0 hpa;go_wp2_with fail;with_reducible refine hw.mono ?_
    rintro e w2 ⟨rfl,h2,f2⟩;have H2:=hid h2;have F2:=hid (HF.out.trans f2);clear h2 f2 hw;go_wp2_with fail;with_reducible refine(HF1.out _ H2.out).mono ?_
    rintro e w3 ⟨rfl,h3,f3⟩;have F3:=hid (F2.out.trans f3);clear f3;go_wp2_with fail;with_reducible refine(hp3.out _ h3).mono ?_
    rintro e w4 ⟨rfl,h4,f4⟩;have F4:=hid (F3.out.trans f4);clear f4 h3;go_wp2_with fail;with_reducible refine(HL.out _ h4).mono ?_
    rintro e w5 ⟨rfl,h5,f5⟩;have H5:=hid h5;have F5:=hid (F4.out.trans f5);clear f5 h4 h5;go_wp2_with fail;go_ret;exact⟨rfl,H5.out,F5.out⟩
   ·have b1:decide ((0:Int)<p)=false:=by simp;omega
    have b1':decide (0<p)=false:=by simp;omega
    rw[if_neg h0]at hb;have hf1:=hid (fun W hW=>by have:=HF1.out W hW;rw[hb]at this;exact this);clear hb hx hc h0 hpa HF1;go_wp2_with fail;with_reducible refine hw.mono ?_
    rintro e w2 ⟨rfl,h2,f2⟩;have H2:=hid h2;have F2:=hid (HF.out.trans f2);clear h2 f2 hw;go_wp2_with fail;with_reducible refine(hf1.out _ H2.out).mono ?_
    rintro e w3 ⟨rfl,h3,f3⟩;have F3:=hid (F2.out.trans f3);clear f3;go_wp2_with fail;with_reducible refine(HL.out _ h3).mono ?_
    rintro e w5 ⟨rfl,h5,f5⟩;have H5:=hid h5;have F5:=hid (F3.out.trans f5);clear f5 h3 h5;go_wp2_with fail;go_ret;exact⟨rfl,H5.out,F5.out⟩
theorem zl4(h:IsT w q t)(hl:LS t inn)(c x:Nat)(hc:c≤9)(hx:x<t.a)(hn:inn x≠(c:Int)):Calls prog 201 #[.pointer (some ⟨q.m,0,none⟩),.int .i64 c,.int .i64 x] w fun e w'=>e= .returned (.int .i64 7)∧IsT w' q t∧Fr q.blocks w w':=by
 have hR:=zd2 h c x;rw[za8 hc hx]at hR
 have HW:=hid (fun W hW=>by
  have:=zel (w:=W) (q:=q) (t:=t) (inn:=inn) hW hl c x hc hx;rw[decide_eq_false hn]at this;exact this)
 have HT:=hid h;generalize pv (loL inn x c)=p at*;clear h hn hl;go_enter func201,ntmps201;go_wp2_with fail;with_reducible refine hR.mono ?_
 rintro e w1 ⟨rfl,f1⟩;have H1:=hid (HT.out.fr0 f1);have F1:=hid (f1.nil (S:=q.blocks));clear hR f1;go_wp2_with fail;with_reducible refine(HW.out _ H1.out).mono ?_
 rintro e w2 ⟨rfl,h2,f2⟩;have H2:=hid h2;have F2:=hid (F1.out.trans f2);clear f2 h2;go_wp2_with fail;go_ret;exact⟨rfl,H2.out,F2.out⟩
theorem zoz(h:IsT w q t)(hl:LS t inn)(c x:Nat)(hc:c≤9)(hx:x<t.a)(hn:inn x=(c:Int)):Calls prog 201 #[.pointer (some ⟨q.m,0,none⟩),.int .i64 c,.int .i64 x] w fun e w'=>e= .returned (.int .i64 0)∧IsT w' q (t.unl c x (pv (loL inn x c)) (hd1 (hiL t.a inn x c)))∧Fr q.blocks w w':=by
 have hR:=zd2 h c x;rw[za8 hc hx]at hR
 have HW:=hid (fun W hW=>by
  have:=zel (w:=W) (q:=q) (t:=t) (inn:=inn) hW hl c x hc hx;rw[decide_eq_true hn]at this;exact this)
 have hcut:=zb3 t.a inn x c hx;rw[if_pos hn]at hcut;have hb:=(hl.next hc hcut).1
 have hpa:pv (loL inn x c)≤t.a:=by
  by_cases h0:loL inn x c= []
  ·rw[h0];exact Nat.zero_le _
  ·have:=zef (zpg h0) rfl
   have:=(zc9 this).1;omega
 have hna:hd1 (hiL t.a inn x c)≤t.a:=by
  by_cases h0:0<hd1 (hiL t.a inn x c)
  ·have:=(zdk (zdd h0 rfl)).2.1
   omega
  ·omega
 have ha64:=(zbf h.ok).1
 have HP:=hid (fun W hW=>by
  have:=zeh (w:=W) (q:=q) (t:=t) hW x 3 hx (by decide) 8 4 rfl rfl;rw[hb]at this;exact this)
 have HT:=hid h;generalize hpe:pv (loL inn x c)=p at*;generalize hne:hd1 (hiL t.a inn x c)=n at*;have HA:=hid (fun W hW=>zjp (w:=W) (q:=q) (t:=t) hW c p n hc hpa (by omega));have u1:=za3 p (by omega);by_cases h0:0<n
 ·have b1:decide ((0:Int)<n)=true:=by simp;omega
  have b1':decide (0<n)=true:=by simp;omega
  have w1:=i64_in ((n:Int)-1) (by omega);have hput3:=hid (fun W hW=>zfh (w:=W) (q:=q) (t:=t.after c p n) hW (n-1) 4 p (by rw[zcy];omega) (by decide) (show p<4294967296 by omega) 12 4 p rfl rfl rfl ((n:Int)-1) (by omega));have hput4:=hid (fun W hW=>zfh (w:=W) (q:=q) (t:=(t.after c p n).setHd (n-1) 4 p) hW x 3 0 (show x<(t.after c p n).a by rw[zcy];exact hx) (by decide) (by decide) 8 4 0 rfl rfl rfl x rfl);have hput5:=hid (fun W hW=>zfh (w:=W) (q:=q) (t:=((t.after c p n).setHd (n-1) 4 p).setHd x 3 0) hW x 4 0 (show x<(t.after c p n).a by rw[zcy];exact hx) (by decide) (by decide) 12 4 0 rfl rfl rfl x rfl);have e:t.unl c x p n=(((t.after c p n).setHd (n-1) 4 p).setHd x 3 0).setHd x 4 0:=by unfold TM.unl;dsimp only;rw[if_pos h0]
  rw[e];generalize(((t.after c p n).setHd (n-1) 4 p).setHd x 3 0).setHd x 4 0=t4 at*;generalize((t.after c p n).setHd (n-1) 4 p).setHd x 3 0=t3 at*;generalize(t.after c p n).setHd (n-1) 4 p=t2 at*;generalize t.after c p n=t1 at*;clear h hn hl hcut hb hpa hna e hx h0 hc;go_enter func201,ntmps201;go_wp2_with fail;with_reducible refine hR.mono ?_
  rintro e w1 ⟨rfl,f1⟩;have H1:=hid (HT.out.fr0 f1);have F1:=hid (f1.nil (S:=q.blocks));clear hR f1;go_wp2_with fail;with_reducible refine(HW.out _ H1.out).mono ?_
  rintro e w2 ⟨rfl,h2,f2⟩;have H2:=hid h2;have F2:=hid (F1.out.trans f2);clear f2 h2;go_wp2_with fail;with_reducible refine(HP.out _ H2.out).mono ?_
  rintro e w3 ⟨rfl,h3,f3⟩;have F3:=hid (F2.out.trans f3);clear f3;go_wp2_with fail;with_reducible refine(HA.out _ h3).mono ?_
  rintro e w4 ⟨rfl,h4,f4⟩;have F4:=hid (F3.out.trans f4);clear f4 h3;go_wp2_with fail;with_reducible refine(hput3.out _ h4).mono ?_
  rintro e w5 ⟨rfl,h5,f5⟩;have F5:=hid (F4.out.trans f5);clear f5 h4;go_wp2_with fail;with_reducible refine(hput4.out _ h5).mono ?_
  rintro e w6 ⟨rfl,h6,f6⟩;have F6:=hid (F5.out.trans f6);clear f6 h5;go_wp2_with fail;with_reducible refine(hput5.out _ h6).mono ?_
  rintro e w7 ⟨rfl,h7,f7⟩;have H7:=hid h7;have F7:=hid (F6.out.trans f7);clear f7 h6 h7;go_wp2_with fail;go_ret;exact⟨rfl,H7.out,F7.out⟩
 ·have b1:decide ((0:Int)<n)=false:=by simp;omega
  have b1':decide (0<n)=false:=by simp;omega
  have hput4:=hid (fun W hW=>zfh (w:=W) (q:=q) (t:=(t.after c p n)) hW x 3 0 (show x<(t.after c p n).a by rw[zcy];exact hx) (by decide) (by decide) 8 4 0 rfl rfl rfl x rfl);have hput5:=hid (fun W hW=>zfh (w:=W) (q:=q) (t:=((t.after c p n)).setHd x 3 0) hW x 4 0 (show x<(t.after c p n).a by rw[zcy];exact hx) (by decide) (by decide) 12 4 0 rfl rfl rfl x rfl);have e:t.unl c x p n=(((t.after c p n)).setHd x 3 0).setHd x 4 0:=by unfold TM.unl;dsimp only;rw[if_neg h0]
  rw[e];generalize(((t.after c p n)).setHd x 3 0).setHd x 4 0=t4 at*;generalize((t.after c p n)).setHd x 3 0=t3 at*;generalize t.after c p n=t1 at*;clear h hn hl hcut hb hpa hna e hx h0 hc;go_enter func201,ntmps201;go_wp2_with fail;with_reducible refine hR.mono ?_
  rintro e w1 ⟨rfl,f1⟩;have H1:=hid (HT.out.fr0 f1);have F1:=hid (f1.nil (S:=q.blocks));clear hR f1;go_wp2_with fail;with_reducible refine(HW.out _ H1.out).mono ?_
  rintro e w2 ⟨rfl,h2,f2⟩;have H2:=hid h2;have F2:=hid (F1.out.trans f2);clear f2 h2;go_wp2_with fail;with_reducible refine(HP.out _ H2.out).mono ?_
  rintro e w3 ⟨rfl,h3,f3⟩;have F3:=hid (F2.out.trans f3);clear f3;go_wp2_with fail;with_reducible refine(HA.out _ h3).mono ?_
  rintro e w4 ⟨rfl,h4,f4⟩;have F4:=hid (F3.out.trans f4);clear f4 h3;go_wp2_with fail;with_reducible refine(hput4.out _ h4).mono ?_
  rintro e w6 ⟨rfl,h6,f6⟩;have F6:=hid (F4.out.trans f6);clear f6 h4;go_wp2_with fail;with_reducible refine(hput5.out _ h6).mono ?_
  rintro e w7 ⟨rfl,h7,f7⟩;have H7:=hid h7;have F7:=hid (F6.out.trans f7);clear f7 h6 h7;go_wp2_with fail;go_ret;exact⟨rfl,H7.out,F7.out⟩
end
def TM.zHd(t:TM):TM:={t with hd:=fun i p=>if i<t.a then 0 else t.hd i p}
theorem zyb{t:TM}(h:t.Ok):t.zHd.Ok:=⟨h.cfg,h.rt,fun i p=>by
 show(if i<t.a then 0 else t.hd i p)<_;split
 ·exact Nat.pow_pos (by decide)
 ·exact h.hd i p,h.sl,h.bt,h.kd⟩
theorem zrc{t:TM}(h:t.Ok)(i:Nat):zah t.zHd i=if 128≤i∧i<128+16*t.a then 0 else zah t i:=by
 have hz:=zak h.cfg;by_cases h1:i<128
 ·rw[if_neg (by omega)]
  unfold zah;rw[if_pos h1,if_pos h1];rfl
 ·by_cases h2:i<zaf t.a
  ·rw[if_pos (by omega)]
   unfold zah;rw[if_neg h1,if_pos (show i<zaf t.zHd.a from h2)];unfold ziu;show nb (if(i-128)/16<t.a then 0 else _) _=0;rw[if_pos (by omega),nb_0]
  ·rw[if_neg (by omega)]
   unfold zah;rw[if_neg h1,if_neg h1,if_neg h2,if_neg (show¬i<zaf t.zHd.a from h2)];rfl
theorem z0a{t:TM}(h:t.Ok)(i:Nat)(hi:i<16*t.a):mayL t.ms.ks ((128+i:Nat):Int) 1 ((3:Nat):Int)=true:=by
 have hz:=zak h.cfg;have h4:=zcn t.a t.s;refine zh3 _ (128+i) 1 3 (.inl rfl) (Nat.mod_one _) (by decide) (by show _≤4*t.kinds.length;rw[TM.kinds_len];omega) (fun g h1 h2=> ?_);refine(TM.kinds_get t g (by omega)).trans ?_;unfold zan;rw[if_neg (by omega),if_neg (by omega),if_pos (by omega)]
theorem zqv{w:World}{q:MH}{t:TM}(h:IsT w q t)(n:Int)(hn:n=((16*t.a:Nat):Int)):Calls prog 79 #[.pointer (some ⟨q.m,0,none⟩),.int .i64 128,.int .i64 n,.int .i64 3] w fun e w'=>e= .returned (.bool true)∧IsT w' q t.zHd∧Fr q.blocks w w':=by
 subst hn;have hz:=zak h.ok.cfg;have hl:t.ms.l.length=zae t.a t.s:=TM.bytes_len t;have hE:128+16*t.a≤t.ms.l.length:=by rw[hl];omega
 have:=ze9 w q t.ms h.m 128 (16*t.a) 3 hE (fun i hi=>z0a h.ok i hi);refine this.mono fun e w' ⟨he,hm,hf⟩=>⟨he,⟨zyb h.ok,?_,h.tab.fr hf.pwga h.hi,h.hi⟩,hf.pwga⟩
 have e1:spl t.ms.l 128 (List.replicate (16*t.a) 0)=t.zHd.bytes:=by
  apply List.ext_getElem?;intro i;have hle:(spl t.ms.l 128 (List.replicate (16*t.a) 0)).length=t.ms.l.length:=zb2 _ _ _ (by rw[List.length_replicate];exact hE);have hle2:t.zHd.bytes.length=zae t.a t.s:=TM.bytes_len _;rcases Nat.lt_or_ge i (zae t.a t.s)with hi|hi
  ·have g1:=zhg t.ms.l 128 (List.replicate (16*t.a) 0) (by rw[List.length_replicate];exact hE) i
   have g2:t.zHd.bytes[i]?.getD 0=zah t.zHd i:=TM.bytes_get t.zHd i hi;have g3:t.ms.l[i]?.getD 0=zah t i:=TM.bytes_get t i hi;rw[zrc h.ok]at g2;rw[g3,List.length_replicate]at g1;have h1:i<(spl t.ms.l 128 (List.replicate (16*t.a) 0)).length:=by rw[hle,hl];exact hi
   have h2:i<t.zHd.bytes.length:=by rw[hle2];exact hi
   have g4:(spl t.ms.l 128 (List.replicate (16*t.a) 0))[i]?.getD 0=t.zHd.bytes[i]?.getD 0:=by
    rw[g1,g2];by_cases hh:128≤i∧i<128+16*t.a
    ·rw[if_pos hh,if_pos hh,List.getElem?_replicate,if_pos (by omega)];rfl
    ·rw[if_neg hh,if_neg hh]
   rw[List.getElem?_eq_getElem h1,List.getElem?_eq_getElem h2]at g4⊢;simpa using g4
  ·rw[List.getElem?_eq_none (by rw[hle,hl];exact hi),List.getElem?_eq_none (by rw[hle2];exact hi)]
 rw[e1]at hm;exact hm
def TM.zRt(t:TM)(k:Nat):TM:={t with rt:=fun f=>if 3≤f∧f<3+k then 0 else t.rt f}
theorem z1w(t:TM):t.zRt 0=t:=by
 unfold TM.zRt;have:(fun f=>if 3≤f∧f<3+0 then 0 else t.rt f)=t.rt:=funext fun f=>if_neg (by omega);rw[this]
theorem zqx(t:TM)(k:Nat):(t.zRt k).setRt (3+k) 0=t.zRt (k+1):=by
 have:(up (t.zRt k).rt (3+k) 0)=(t.zRt (k+1)).rt:=funext fun f=>by
  show up (fun f=>if 3≤f∧f<3+k then 0 else t.rt f) (3+k) 0 f=if 3≤f∧f<3+(k+1)then 0 else t.rt f;by_cases e:f=3+k
  ·rw[e,zaa,if_pos (by omega)]
  ·rw[zac _ _ e]
   by_cases h:3≤f∧f<3+k
   ·rw[if_pos h,if_pos (by omega)]
   ·rw[if_neg h,if_neg (by omega)]
 unfold TM.setRt;rw[this];rfl
def TM.beg(t:TM):Nat→TM
 |0=>t.zHd.zRt 10
 |k+1=>(t.beg k).lnk 0 (t.a-1-k) 0 ((t.beg k).rt 3)
theorem zmk(t:TM):∀k,(t.beg k).a=t.a
 |0=>rfl
 |k+1=>by rw[TM.beg,zi1];exact zmk t k
def innB(a k:Nat)(x:Nat):Int:=if a-k≤x then 0 else-1
theorem LS.congr{t:TM}{i j:Nat→Int}(h:LS t i)(e:∀x,x<t.a→j x=i x):LS t j:=by
 have e1:∀c,lst t.a j c=lst t.a i c:=fun c=>by
  unfold lst;exact List.filter_congr fun x hx=>by rw[e x (List.mem_range.1 hx)]
 exact⟨fun c hc=>by rw[e1];exact h.ln c hc,fun x hx hn=>h.out x hx (by rw[←e x hx];exact hn),fun x hx=>by rw[e x hx];exact h.le x hx⟩
theorem zpj(t:TM):∀k,k≤t.a→LS (t.beg k) (innB t.a k)
 |0,_=>by
  have e:∀c,lst t.a (innB t.a 0) c= [] :=fun c=>by
   unfold lst;rw[List.filter_eq_nil_iff];intro x hx;have:=List.mem_range.1 hx;unfold innB;rw[if_neg (by omega)];simp
  refine⟨fun c hc=> ?_,fun x hx _=> ?_,fun x hx=> ?_⟩
  ·show Lk _ 0 _ (lst t.a (innB t.a 0) c)
   rw[e];show(if 3≤3+c∧3+c<3+10 then 0 else _)=0;rw[if_pos (by omega)]
  ·have hx':x<t.a:=hx
   show(if x<t.a then 0 else _)=0∧(if x<t.a then 0 else _)=0;rw[if_pos hx',if_pos hx'];exact⟨rfl,rfl⟩
  ·unfold innB;split<;>omega
 |k+1,hk=>by
  have ih:=zpj t k (by omega);have ha:=zmk t k;have hx:t.a-1-k<(t.beg k).a:=by rw[ha];omega
  have hn:innB t.a k (t.a-1-k)<0:=by unfold innB;rw[if_neg (by omega)];omega
  have hlo:loL (innB t.a k) (t.a-1-k) 0= [] :=by
   unfold loL;rw[List.filter_eq_nil_iff];intro x hx;have:=List.mem_range.1 hx;unfold innB;rw[if_neg (by omega)];simp
  have h1:=ih.ins (c:=0) (by decide) hx hn;have h2:=ih.behind (c:=0) (by decide) hx (by omega);rw[hlo,if_neg (by decide)]at h2;rw[hlo,←h2]at h1;rw[TM.beg];refine h1.congr fun x hx'=> ?_;have hx2:x<t.a:=by rw[zi1,ha]at hx';exact hx'
  unfold innB;by_cases e:x=t.a-1-k
  ·rw[e,zaa,if_pos (by omega)];rfl
  ·rw[zac _ _ e]
   by_cases h:t.a-k≤x
   ·rw[if_pos h,if_pos (by omega)]
   ·rw[if_neg h,if_neg (by omega)]
structure Lis(t u:TM):Prop where
 a:u.a=t.a
 s:u.s=t.s
 sl:u.sl=t.sl
 bt:u.bt=t.bt
 kd:u.kd=t.kd
 ft:u.ft=t.ft
 hd: ∀y r,r≠3→r≠4→u.hd y r=t.hd y r
 rt: ∀f,f<3∨12<f→u.rt f=t.rt f
theorem Lis.refl(t:TM):Lis t t:=⟨rfl,rfl,rfl,rfl,rfl,rfl,fun _ _ _ _=>rfl,fun _ _=>rfl⟩
theorem Lis.trans{t u v:TM}(h:Lis t u)(k:Lis u v):Lis t v:=
 ⟨k.a.trans h.a,k.s.trans h.s,k.sl.trans h.sl,k.bt.trans h.bt,k.kd.trans h.kd,k.ft.trans h.ft,fun y r h1 h2=>(k.hd y r h1 h2).trans (h.hd y r h1 h2),fun f hf=>(k.rt f hf).trans (h.rt f hf)⟩
theorem zfv(t:TM)(x r v:Nat)(h:r=3∨r=4):Lis t (t.setHd x r v):=⟨rfl,rfl,rfl,rfl,rfl,rfl,fun y s h1 h2=>by rw[TM.setHd_hd,if_neg (by omega)],fun _ _=>rfl⟩
theorem zxb(t:TM)(f v:Nat)(h:3≤f∧f≤12):Lis t (t.setRt f v):=⟨rfl,rfl,rfl,rfl,rfl,rfl,fun _ _ _ _=>rfl,fun g hg=>by rw[TM.setRt_rt,if_neg (by omega)]⟩
theorem ze7(t:TM)(c p n:Nat)(hc:c≤9):Lis t (t.after c p n):=by
 unfold TM.after;split
 ·exact zfv _ _ _ _ (.inl rfl)
 ·exact zxb _ _ _ (by omega)
theorem zqe(t:TM)(c x p n:Nat)(hc:c≤9):Lis t (t.lnk c x p n):=by
 unfold TM.lnk;dsimp only;refine Lis.trans ?_ (ze7 _ c p _ hc);have h1:=(zfv t x 4 p (.inr rfl)).trans (zfv _ x 3 n (.inl rfl));split
 ·exact h1.trans (zfv _ _ 4 _ (.inr rfl))
 ·exact h1
theorem zws(t:TM)(c x p n:Nat)(hc:c≤9):Lis t (t.unl c x p n):=by
 unfold TM.unl;dsimp only;refine Lis.trans (Lis.trans ?_ (zfv _ x 3 0 (.inl rfl))) (zfv _ x 4 0 (.inr rfl));split
 ·exact(ze7 t c p n hc).trans (zfv _ _ 4 _ (.inr rfl))
 ·exact ze7 t c p n hc
theorem znd(t:TM):∀k,Lis t.zHd (t.beg k)
 |0=>⟨rfl,rfl,rfl,rfl,rfl,rfl,fun _ _ _ _=>rfl,fun f hf=>by
   show(if 3≤f∧f<3+10 then 0 else t.rt f)=t.rt f;rw[if_neg (by omega)]⟩
 |k+1=>by
  rw[TM.beg];exact(znd t k).trans (zqe _ _ _ _ _ (by decide))
theorem zq4(a:Nat)(h:a≤64):IntKind.i64.wrap ((a:Int)*16)=(a:Int)*16:=i64_in _ (by omega)
theorem zvd{w:World}{q:MH}{t:TM}(h:IsT w q t):Calls prog 77 #[.pointer (some ⟨q.m,0,none⟩)] w fun e w'=>e= .returned (.int .i64 0)∧IsT w' q (t.beg t.a)∧Fr q.blocks w w':=by
 have hma:=zhu h;have HC:=hid (fun W hW=>tcfg (w:=W) (q:=q) (t:=t) hW);have hfd:=zi0 t.a t.s;have ha:=(zbf h.ok).1;have w0:=zq4 t.a ha;have HZ:=hid (fun W hW=>zqv (w:=W) (q:=q) (t:=t) hW ((t.a:Int)*16) (by omega))
 have HS:=hid (fun W (k:Nat) (hk:k<10) (hW:IsT W q (t.zHd.zRt k))=>by
  have:=zcg hW (3+k) (by omega) 0 (by unfold fldW;rw[if_neg (by omega)];decide) ((3:Int)+k) (by omega) 0 rfl;rw[zqx]at this;exact this)
 have HF:=hid (fun W (k:Nat) (hW:IsT W q (t.beg k))=>zhf hW 0 (by decide) 0 rfl)
 have HL:=hid (fun W (k:Nat) (hk:k<t.a) (hW:IsT W q (t.beg k))=>by
  have ha':=zmk t k
  have hrt:(t.beg k).rt 3≤(t.beg k).a:=by
   have:=(zpj t k (by omega)).root (c:=0) (by decide);rw[show(t.beg k).rt 3=_ from this];exact zta _ _ _
  have:=ztz hW 0 (t.a-1-k) 0 ((t.beg k).rt 3) (by decide) (by rw[ha'];omega) (Nat.zero_le _) hrt;rw[show((t.a-1-k:Nat):Int)=(t.a:Int)-1-k by omega,show((0:Nat):Int)=0 from rfl]at this;exact this)
 have HB0:=hid (show t.beg 0=t.zHd.zRt 10 from rfl);have HB1:=hid (show∀k,t.beg (k+1)=(t.beg k).lnk 0 (t.a-1-k) 0 ((t.beg k).rt 3)from fun k=>rfl);have HZ0:=hid (z1w t.zHd);have HT:=hid h;have w1:=i64_in ((t.a:Int)-1) (by omega);generalize hbe:t.beg=be at*;generalize t.zHd=tz at*;clear hbe;generalize t.a=a at*;generalize t.s=s at*;clear h;go_enter func77,ntmps77;go_wp2_with fail;with_reducible refine hma.mono ?_
 rintro e w1 ⟨rfl,f1⟩;have H1:=hid (HT.out.fr0 f1);clear hma;go_wp2_with fail;with_reducible refine(HC.out _ H1.out).mono ?_
 rintro e w2 ⟨rfl,f2⟩;have H2:=hid (H1.out.fr0 f2);have F2:=hid ((f1.trans f2).nil (S:=q.blocks));clear f1 f2;go_wp2_with fail;with_reducible refine(HZ.out _ H2.out).mono ?_
 rintro e w3 ⟨rfl,h3,f3⟩;have H3:=hid h3;have F3:=hid (F2.out.trans f3);clear h3 f3;go_wp2_with fail;go_loopw [16] (fun v W=>∃j:Nat,j≤10∧v= .int .i64 j∧IsT W q (tz.zRt j)∧Fr q.blocks w W) (fun v _=>10-(intOf v).toNat);case atStart=>exact⟨0,by omega,rfl,by rw[HZ0.out];exact H3.out,F3.out⟩
 case round=>
  obtain⟨j,hj,rfl,hI,hF⟩:=hrel;have HFr:=hid hF;by_cases e:j<10
  ·have hs:=HS.out _ j e hI
   have b0:decide ((j:Int)<10)=true:=by simp;omega
   have b0':decide (j<10)=true:=by simp;omega
   have w4:=i64_in ((j:Int)+1) (by omega);have w5:=i64_in ((3:Int)+j) (by omega);clear hI hF;go_wp2_with fail;with_reducible refine hs.mono ?_
   rintro e w2 ⟨rfl,h2,f2⟩;have H2:=hid h2;have F2:=hid (HFr.out.trans f2);clear h2 f2 hs;go_wp2_with fail;exact⟨⟨j+1,by omega,by go_num,H2.out,F2.out⟩,by simp[intOf];omega⟩
  ·have e10:j=10:=by omega
   rw[e10,←HB0.out]at hI;have HI:=hid hI;have b0:decide ((j:Int)<10)=false:=by simp;omega
   have b0':decide (j<10)=false:=by simp;omega
   clear hI hF e hj H3 F3 e10;go_wp2_with fail;go_loopw [25] (fun v W=>∃j:Nat,j≤a∧v= .int .i64 j∧IsT W q (be j)∧Fr q.blocks w W) (fun v _=>a-(intOf v).toNat);case atStart=>exact⟨0,by omega,rfl,HI.out,HFr.out⟩
   case round=>
    clear HI HFr;obtain⟨j,hj,rfl,hI,hF⟩:=hrel;have HFr:=hid hF;by_cases e:j<a
    ·have hf:=HF.out _ j hI
     have hl:=hid (fun W hW=>HL.out W j e hW);rw[←HB1.out j]at hl;have b0':decide (j<a)=true:=by simp;omega
     have w4:=i64_in ((j:Int)+1) (by omega);have w5:=i64_in ((a:Int)-1-j) (by omega);clear hI hF;go_wp2_with fail;with_reducible refine hf.mono ?_
     rintro e w2 ⟨rfl,h2,f2⟩;have F2:=hid (HFr.out.trans f2);clear f2 hf;go_wp2_with fail;with_reducible refine(hl.out _ h2).mono ?_
     rintro e w3 ⟨rfl,h3,f3⟩;have H3:=hid h3;have F3:=hid (F2.out.trans f3);clear h2 f3 h3 hl;go_wp2_with fail;exact⟨⟨j+1,by omega,by go_num,H3.out,F3.out⟩,by simp[intOf];omega⟩
    ·obtain rfl:j=a:=by omega
     have HI:=hid hI;clear hI hF;go_wp2_with fail;go_ret;exact⟨rfl,HI.out,HFr.out⟩
section
def zwb(c l f n p:Int):Value:= .agg #[.int .i64 c,.int .i64 l,.int .u32 f,.int .i64 n,.int .i64 p]
theorem gen5{w w0:World}{g:Nat}{t:TypeId}{cs:Array Value}{S:List Nat}{v0 v1 v2 v3 v4:Value}(C:World→Prop)(h:Blk w g t cs)(hs:cs.size=5)(hf:Fr S w0 w)(hg:g∈S∨w0.heap.size≤g)
  (K:∀w9,Blk w9 g t #[v0,v1,v2,v3,v4]→Fr S w0 w9→C w9):C (((((w.setCell ⟨g,0,none⟩ v0).setCell ⟨g,1,none⟩ v1).setCell ⟨g,2,none⟩ v2).setCell ⟨g,3,none⟩ v3).setCell ⟨g,4,none⟩ v4):=by
 have:=K (w.setCells g 0 [v0,v1,v2,v3,v4]) (by
  have:=h.setCells [v0,v1,v2,v3,v4] 0;rw[zdi _ _ (by rw[hs];rfl)]at this;exact this) (hf.setCells hg _ _)
 exact this
variable {w : World} {q : MH} {t : TM}
theorem zf0(h:IsT w q t)(x:Nat)(hx:x<t.a):Calls prog 175 #[.pointer (some ⟨q.m,0,none⟩),.int .i64 x] w fun e w'=>e= .returned (.tuple #[zwb (t.hd x 0) (t.hd x 1) (t.hd x 2) (t.hd x 3) (t.hd x 4),.int .i64 0])∧IsT w' q t∧Fr q.blocks w w':=by
 have HM:=hid (fun W hW=>zhu (w:=W) (q:=q) (t:=t) hW)
 have HH:=hid (fun W hW=>by
  have:=zwt (w:=W) (q:=q) (t:=t) hW x;rw[decide_eq_true (show 0≤(x:Int)∧(x:Int)<t.a by omega)]at this;exact this)
 have HP0:=hid (fun W hW=>zeh (w:=W) (q:=q) (t:=t) hW x 0 hx (by decide) 0 2 rfl rfl);have HP1:=hid (fun W hW=>zeh (w:=W) (q:=q) (t:=t) hW x 1 hx (by decide) 2 2 rfl rfl);have HP2:=hid (fun W hW=>zeh (w:=W) (q:=q) (t:=t) hW x 2 hx (by decide) 4 4 rfl rfl);have HP3:=hid (fun W hW=>zeh (w:=W) (q:=q) (t:=t) hW x 3 hx (by decide) 8 4 rfl rfl);have HP4:=hid (fun W hW=>zeh (w:=W) (q:=q) (t:=t) hW x 4 hx (by decide) 12 4 rfl rfl);have hv2:t.hd x 2<4294967296:=h.ok.hd x 2
 have u2:IntKind.u32.wrap (t.hd x 2:Int)=(t.hd x 2:Int):=by
  have:IntKind.u32.wrap (t.hd x 2:Int)=(t.hd x 2:Int) %4294967296:=rfl;omega
 have HT:=hid h;have hlt:=h.lt;have hts:=h.tab.size;unfold zwb;generalize t.hd x 0=v0 at*;generalize t.hd x 1=v1 at*;generalize t.hd x 2=v2 at*;generalize t.hd x 3=v3 at*;generalize t.hd x 4=v4 at*;clear h hx hv2;go_enter func175,ntmps175;go_wp2_with fail;with_reducible refine(HM.out _ (HT.out.alloc _)).mono ?_
 rintro e w1 ⟨rfl,f1⟩;have H1:=hid ((HT.out.alloc (.cells #[.int .i64 0,.int .i64 0,.int .u32 0,.int .i64 0,.int .i64 0] 161)).fr0 f1);have F1:=hid (((Fr.refl [] w).alloc _).trans f1);have B1:=hid ((Blk.new w 161 #[.int .i64 0,.int .i64 0,.int .u32 0,.int .i64 0,.int .i64 0]).fr f1 (by simp));clear f1 HM;go_wp2_with fail;with_reducible refine(HH.out _ H1.out).mono ?_
 rintro e w2 ⟨rfl,f2⟩;have H2:=hid (H1.out.fr0 f2);have F2:=hid ((F1.out.trans f2).nil (S:=q.blocks));have B2:=hid (B1.out.fr f2 (by simp));have hbq:w.heap.size∉q.blocks:=fun hm=>by have:=hlt _ hm;omega
 clear f2 HH B1 H1 F1;go_wp2_with fail;with_reducible refine(HP0.out _ H2.out).mono ?_
 rintro e w3 ⟨rfl,h3,f3⟩;have H3:=hid h3;have F3:=hid (F2.out.trans f3);have B3:=hid (B2.out.fr f3 hbq);clear h3 f3 HP0 H2 F2 B2;go_wp2_with fail;with_reducible refine(HP1.out _ H3.out).mono ?_
 rintro e w4 ⟨rfl,h4,f4⟩;have H4:=hid h4;have F4:=hid (F3.out.trans f4);have B4:=hid (B3.out.fr f4 hbq);clear h4 f4 HP1 H3 F3 B3;go_wp2_with fail;with_reducible refine(HP2.out _ H4.out).mono ?_
 rintro e w5 ⟨rfl,h5,f5⟩;have H5:=hid h5;have F5:=hid (F4.out.trans f5);have B5:=hid (B4.out.fr f5 hbq);clear h5 f5 HP2 H4 F4 B4;go_wp2_with fail;with_reducible refine(HP3.out _ H5.out).mono ?_
 rintro e w6 ⟨rfl,h6,f6⟩;have H6:=hid h6;have F6:=hid (F5.out.trans f6);have B6:=hid (B5.out.fr f6 hbq);clear h6 f6 HP3 H5 F5 B5;go_wp2_with fail;with_reducible refine(HP4.out _ H6.out).mono ?_
 rintro e w7 ⟨rfl,h7,f7⟩;have H7:=hid h7;have F7:=hid (F6.out.trans f7);have B7:=hid (B6.out.fr f7 hbq);clear h7 f7 HP4 H6 F6 B6;have d0:=B7.out.cell 0;have z0:=B7.out.frozen 0;have d1:=B7.out.cell 1;have z1:=B7.out.frozen 1;have d2:=B7.out.cell 2;have z2:=B7.out.frozen 2;have d3:=B7.out.cell 3;have z3:=B7.out.frozen 3;have d4:=B7.out.cell 4;have z4:=B7.out.frozen 4;simp at d0 d1 d2 d3 d4;go_wp2_with fail;refine gen5 (fun w9=>bodyPost _ _ _ _ _ w9) B7.out rfl (Fr.refl [w.heap.size] w7) (.inl (by simp)) ?_;intro w9 hn9 hf9;have q0:=hn9.cell 0;have q1:=hn9.cell 1;have q2:=hn9.cell 2;have q3:=hn9.cell 3;have q4:=hn9.cell 4;simp at q0 q1 q2 q3 q4;refine bodyPost_ret (by simp[results,results175,go_sem,q0,q1,q2,q3,q4];try rfl) rfl ⟨rfl,H7.out.fr hf9 (fun k hk hm=> ?_) (fun k hk hm=> ?_),F7.out.step hf9 (by simp)⟩
 ·simp at hm;subst hm;exact hbq hk
 ·simp at hm;subst hm;omega
end
section
variable {w : World} {q : MH} {t : TM}
theorem zxf(h:IsT w q t)(x p v Bm Bs:Nat)(hx:x<t.a)(hp:p<2)(hv:v<65536)(bm:Blk w Bm 26 #[.pointer (some ⟨q.m,0,none⟩)])(bs:Blk w Bs 3 #[.int .i64 x])(z:Int)(hz:z=hdA p):Calls prog 270 #[.int .i64 z,.int .u64 v,.pointer (some ⟨Bm,0,none⟩),.pointer (some ⟨Bs,0,none⟩)] w fun e w'=>e= .returned (.tuple #[])∧IsT w' q (t.setHd x p v)∧Fr q.blocks w w':=by
 have e:hdW p=2:=by unfold hdW;rw[if_pos hp]
 have hput:=zfh h x p v hx (by omega) (by rw[e];exact hv) z 2 v hz (by rw[e];rfl) rfl x rfl;have c0:=bm.cell 0;have c1:=bs.cell 0;simp at c0 c1;generalize t.setHd x p v=t' at*;clear h bm bs hx hp hv e hz;go_enter func270,ntmps270;go_wp2_with fail;with_reducible refine hput.mono ?_
 rintro e w1 ⟨rfl,h1,f1⟩;have H1:=hid h1;clear h1 hput;go_wp2_with fail;go_end0;exact⟨rfl,H1.out,f1⟩
theorem z08(h:IsT w q t)(x p v Bm Bs:Nat)(hx:x<t.a)(hp:p<5)(hp2:2≤p)(hv:v<4294967296)(bm:Blk w Bm 26 #[.pointer (some ⟨q.m,0,none⟩)])(bs:Blk w Bs 3 #[.int .i64 x])(z:Int)(hz:z=hdA p):Calls prog 271 #[.int .i64 z,.int .u64 v,.pointer (some ⟨Bm,0,none⟩),.pointer (some ⟨Bs,0,none⟩)] w fun e w'=>e= .returned (.tuple #[])∧IsT w' q (t.setHd x p v)∧Fr q.blocks w w':=by
 have e:hdW p=4:=by unfold hdW;rw[if_neg (by omega)]
 have hput:=zfh h x p v hx (by omega) (by rw[e];exact hv) z 4 v hz (by rw[e];rfl) rfl x rfl;have c0:=bm.cell 0;have c1:=bs.cell 0;simp at c0 c1;generalize t.setHd x p v=t' at*;clear h bm bs hx hp hv e hz;go_enter func271,ntmps271;go_wp2_with fail;with_reducible refine hput.mono ?_
 rintro e w1 ⟨rfl,h1,f1⟩;have H1:=hid h1;clear h1 hput;go_wp2_with fail;go_end0;exact⟨rfl,H1.out,f1⟩
def TM.setL(t:TM)(x c l f:Nat):TM:=((t.setHd x 0 c).setHd x 1 l).setHd x 2 f
def TM.setLk(t:TM)(x c l f k:Nat):TM:=if k=0 then t else if k=1 then t.setHd x 0 c else if k=2 then(t.setHd x 0 c).setHd x 1 l else t.setL x c l f
theorem zo5(h:IsT w q t)(x c l f:Nat)(hx:x<t.a)(hc:c≤9)(hl:l≤65535)(hf:f<4294967296):Calls prog 211 #[.pointer (some ⟨q.m,0,none⟩),.int .i64 x,.int .i64 c,.int .i64 l,.int .u32 f] w fun e w'=>e= .returned (.int .i64 0)∧IsT w' q (t.setL x c l f)∧Fr q.blocks w w':=by
 have HM:=hid (fun W hW=>zhu (w:=W) (q:=q) (t:=t) hW)
 have HH:=hid (fun W hW=>by
  have:=zwt (w:=W) (q:=q) (t:=t) hW x;rw[decide_eq_true (show 0≤(x:Int)∧(x:Int)<t.a by omega)]at this;exact this)
 have HT:=hid h;have hlt:=h.lt;have hts:=h.tab.size;have hi:=fun W=>liis W c;rw[decide_eq_true (show 0≤(c:Int)∧(c:Int)≤9 by omega)]at hi;have b1:decide ((l:Int)<0)=false:=by simp
 have b2:decide ((65535:Int)<l)=false:=by simp;omega
 have b2':decide (65535<l)=false:=by simp;omega
 have u1:=za3 c (by omega);have u2:=za3 l (by omega);have u3:=za3 f (by omega);have HP0:=hid (fun W Bm Bs (hW:IsT W q (t.setLk x c l f 0)) bm bs=>(show Calls prog 270 #[.int .i64 0,.int .u64 c,.pointer (some ⟨Bm,0,none⟩),.pointer (some ⟨Bs,0,none⟩)] W fun e w'=>e= .returned (.tuple #[])∧IsT w' q (t.setLk x c l f 1)∧Fr q.blocks W w' from zxf hW x 0 c Bm Bs hx (by decide) (by omega) bm bs 0 rfl));have HP1:=hid (fun W Bm Bs (hW:IsT W q (t.setLk x c l f 1)) bm bs=>(show Calls prog 270 #[.int .i64 2,.int .u64 l,.pointer (some ⟨Bm,0,none⟩),.pointer (some ⟨Bs,0,none⟩)] W fun e w'=>e= .returned (.tuple #[])∧IsT w' q (t.setLk x c l f 2)∧Fr q.blocks W w' from zxf hW x 1 l Bm Bs hx (by decide) (by omega) bm bs 2 rfl));have HP2:=hid (fun W Bm Bs (hW:IsT W q (t.setLk x c l f 2)) bm bs=>(show Calls prog 271 #[.int .i64 4,.int .u64 f,.pointer (some ⟨Bm,0,none⟩),.pointer (some ⟨Bs,0,none⟩)] W fun e w'=>e= .returned (.tuple #[])∧IsT w' q (t.setLk x c l f 3)∧Fr q.blocks W w' from z08 hW x 2 f Bm Bs hx (by decide) (by decide) hf bm bs 4 rfl));have HE0:=hid (show t.setLk x c l f 0=t from rfl);have HE3:=hid (show t.setLk x c l f 3=t.setL x c l f from rfl);rw[←HE3.out];rw[←HE0.out]at HT HM HH;clear HE3 HE0 h hx hc hl hf;generalize t.setLk x c l f=tk at*;have hbq:∀k,w.heap.size≤k→k∉q.blocks:=fun k hk hm=>by have:=hlt _ hm;omega
 go_enter func211,ntmps211;go_wp2_with fail;with_reducible refine(HM.out _ ((HT.out.alloc _).alloc _)).mono ?_
 rintro e w1 ⟨rfl,f1⟩;have F1:=hid ((((Fr.refl [] w).alloc (.cells #[.pointer (some ⟨q.m,0,none⟩)] 26)).alloc (.cells #[.int .i64 x] 3)).trans f1);have B0:=hid (((Blk.new w 26 #[.pointer (some ⟨q.m,0,none⟩)]).alloc (.cells #[.int .i64 x] 3)).fr f1 (by simp))
 have B1:Blk w1 (w.heap.size+1) 3 #[.int .i64 x] :=by
  have:=(Blk.new (w.alloc (.cells #[.pointer (some ⟨q.m,0,none⟩)] 26)) 3 #[.int .i64 x]).fr f1 (by simp);rwa[World.size_alloc]at this
 have c0:=B0.out.cell 0;have c1:=B1.cell 0;simp at c0 c1;have HB1:=hid B1;clear f1 HM B1;go_wp2_with fail;with_reducible refine(HH.out _ (HT.out.fr0 F1.out)).mono ?_
 rintro e w2 ⟨rfl,f2⟩;have F2:=hid (F1.out.trans f2);have B02:=hid (B0.out.fr f2 (by simp));have B12:=hid (HB1.out.fr f2 (by simp));clear f2 HH c0 c1 B0 HB1 F1;go_wp2_with fail;with_reducible refine(hi _).mono ?_
 rintro e w3 ⟨rfl,rfl⟩;go_wp2_with fail;obtain⟨W4,hW4⟩:∃W4,(w3.alloc (.cells #[(.func (.func 270) #[] #[.pointer (some ⟨w.heap.size,0,none⟩),.pointer (some ⟨w.heap.size+1,0,none⟩)]),.int .i64 0,.int .u64 c,(.func (.func 270) #[] #[.pointer (some ⟨w.heap.size,0,none⟩),.pointer (some ⟨w.heap.size+1,0,none⟩)]),.int .i64 2,.int .u64 l,(.func (.func 271) #[] #[.pointer (some ⟨w.heap.size,0,none⟩),.pointer (some ⟨w.heap.size+1,0,none⟩)]),.int .i64 4,.int .u64 f] 294))=W4:=⟨_,rfl⟩;have BG:Blk W4 w3.heap.size 294 #[(.func (.func 270) #[] #[.pointer (some ⟨w.heap.size,0,none⟩),.pointer (some ⟨w.heap.size+1,0,none⟩)]),.int .i64 0,.int .u64 c,(.func (.func 270) #[] #[.pointer (some ⟨w.heap.size,0,none⟩),.pointer (some ⟨w.heap.size+1,0,none⟩)]),.int .i64 2,.int .u64 l,(.func (.func 271) #[] #[.pointer (some ⟨w.heap.size,0,none⟩),.pointer (some ⟨w.heap.size+1,0,none⟩)]),.int .i64 4,.int .u64 f] :=by rw[←hW4];exact Blk.new _ _ _
 have F4:=hid (show Fr q.blocks w W4 from by rw[←hW4];exact(F2.out.nil (S:=q.blocks)).alloc _);have B04:=hid (show Blk W4 w.heap.size 26 #[.pointer (some ⟨q.m,0,none⟩)]from by rw[←hW4];exact B02.out.alloc _);have B14:=hid (show Blk W4 (w.heap.size+1) 3 #[.int .i64 x]from by rw[←hW4];exact B12.out.alloc _);have H4:=hid (show IsT W4 q (tk 0)from HT.out.fr (S:= []) (by rw[←hW4];exact F2.out.alloc _) (by simp) (by simp));have hg:=F2.out.size;rw[hW4];clear hW4 F2 B02 B12;generalize w3.heap.size=g at*;have HBG:=hid BG;have hgq:g∉q.blocks:=hbq g hg;have h0q:w.heap.size∉q.blocks:=hbq _ (Nat.le_refl _);have h1q:w.heap.size+1∉q.blocks:=hbq _ (by omega);clear BG hi hbq hlt;go_loopw [52] (fun v W=>∃j:Nat,j≤3∧v= .int .i64 j∧IsT W q (tk j)∧Fr q.blocks w W∧Blk W w.heap.size 26 #[.pointer (some ⟨q.m,0,none⟩)]∧Blk W (w.heap.size+1) 3 #[.int .i64 x]∧Blk W g 294 #[(.func (.func 270) #[] #[.pointer (some ⟨w.heap.size,0,none⟩),.pointer (some ⟨w.heap.size+1,0,none⟩)]),.int .i64 0,.int .u64 c,(.func (.func 270) #[] #[.pointer (some ⟨w.heap.size,0,none⟩),.pointer (some ⟨w.heap.size+1,0,none⟩)]),.int .i64 2,.int .u64 l,(.func (.func 271) #[] #[.pointer (some ⟨w.heap.size,0,none⟩),.pointer (some ⟨w.heap.size+1,0,none⟩)]),.int .i64 4,.int .u64 f]) (fun v _=>3-(intOf v).toNat);case atStart=>exact⟨0,by omega,rfl,H4.out,F4.out,B04.out,B14.out,HBG.out⟩
 case round=>
  clear HBG B04 B14 F4 H4;obtain⟨j,hj,rfl,hI,hF,hb0,hb1,hbg⟩:=hrel;have HI:=hid hI;have HF:=hid hF;have HB0:=hid hb0;have HB1:=hid hb1;have HBG:=hid hbg;have c0:=hbg.cell 0;have c1:=hbg.cell 1;have c2:=hbg.cell 2;have c3:=hbg.cell 3;have c4:=hbg.cell 4;have c5:=hbg.cell 5;have c6:=hbg.cell 6;have c7:=hbg.cell 7;have c8:=hbg.cell 8;simp at c0 c1 c2 c3 c4 c5 c6 c7 c8;clear hI hF hb0 hb1 hbg;have BN:=hid (Blk.new wr 294 #[.nilFunc,.int .i64 0,.int .u64 0]);have n0:=BN.out.cell 0;have y0:=BN.out.frozen 0;have n1:=BN.out.cell 1;have y1:=BN.out.frozen 1;have n2:=BN.out.cell 2;have y2:=BN.out.frozen 2;simp only[List.getElem?_toArray,List.getElem?_cons_zero,List.getElem?_cons_succ]at n0 n1 n2;have hs1:=fun(a:Addr) (c:Array Value) (w:World)=>run_store prog w a (.func (.func 270) #[] c) .plain rfl;have hs2:=fun(a:Addr) (c:Array Value) (w:World)=>run_store prog w a (.func (.func 271) #[] c) .plain rfl;have hjj:j=0∨j=1∨j=2∨j=3:=by omega
  rcases hjj with rfl|rfl|rfl|rfl
  ·go_wp2_with fail
   with_reducible refine(HP0.out _ _ _ (HI.out.alloc _) (HB0.out.alloc _) (HB1.out.alloc _)).mono ?_
   rintro e w5 ⟨rfl,h5,f5⟩;have H5:=hid h5;have F5:=hid ((HF.out.alloc _).trans f5);clear h5;go_wp2_with fail;exact⟨⟨1,by omega,by go_num,H5.out,F5.out,(HB0.out.alloc _).fr f5 h0q,(HB1.out.alloc _).fr f5 h1q,(HBG.out.alloc _).fr f5 hgq⟩,by simp[intOf]⟩
  ·go_wp2_with fail
   with_reducible refine(HP1.out _ _ _ (HI.out.alloc _) (HB0.out.alloc _) (HB1.out.alloc _)).mono ?_
   rintro e w5 ⟨rfl,h5,f5⟩;have H5:=hid h5;have F5:=hid ((HF.out.alloc _).trans f5);clear h5;go_wp2_with fail;exact⟨⟨2,by omega,by go_num,H5.out,F5.out,(HB0.out.alloc _).fr f5 h0q,(HB1.out.alloc _).fr f5 h1q,(HBG.out.alloc _).fr f5 hgq⟩,by simp[intOf]⟩
  ·go_wp2_with fail
   with_reducible refine(HP2.out _ _ _ (HI.out.alloc _) (HB0.out.alloc _) (HB1.out.alloc _)).mono ?_
   rintro e w5 ⟨rfl,h5,f5⟩;have H5:=hid h5;have F5:=hid ((HF.out.alloc _).trans f5);clear h5;go_wp2_with fail;exact⟨⟨3,by omega,by go_num,H5.out,F5.out,(HB0.out.alloc _).fr f5 h0q,(HB1.out.alloc _).fr f5 h1q,(HBG.out.alloc _).fr f5 hgq⟩,by simp[intOf]⟩
  ·go_wp2_with fail
   go_ret;exact⟨rfl,HI.out,HF.out⟩
theorem zhh(t:TM)(x c l f y r:Nat)(h:r=3∨r=4):(t.setL x c l f).hd y r=t.hd y r:=by
 unfold TM.setL;rw[TM.setHd_hd,if_neg (by omega),TM.setHd_hd,if_neg (by omega),TM.setHd_hd,if_neg (by omega)]
end
section
variable {w : World} {q : MH} {t : TM} {inn : Nat → Int}
def insE(a:Nat)(inn:Nat→Int)(c x:Int):Nat:=if zba a c x≠0 then zba a c x else if 0≤inn x.toNat then 8 else 0
def insI(a:Nat)(inn:Nat→Int)(c x:Int):Nat→Int:=if insE a inn c x=0 then up inn x.toNat c else inn
def remE(a:Nat)(inn:Nat→Int)(c x:Int):Nat:=if zba a c x≠0 then zba a c x else if inn x.toNat≠c then 7 else 0
def remI(a:Nat)(inn:Nat→Int)(c x:Int):Nat→Int:=if remE a inn c x=0 then up inn x.toNat (-1)else inn
def LisP(q:MH)(t:TM)(inn:Nat→Int)(S:List Nat)(w:World)(r:Int)(e:Ending)(w':World):Prop:=e= .returned (.int .i64 r)∧ ∃t',IsT w' q t'∧LS t' inn∧Lis t t'∧Fr S w w'
theorem zib{a:Nat}{c x:Int}(h:zba a c x=0):∃c' x':Nat,c=c'∧x=x'∧c'≤9∧x'<a:=by
 unfold zba at h;by_cases h1:0≤c∧c≤9
 ·rw[if_neg (fun k=>k h1)]at h
  by_cases h2:0≤x∧x<(a:Int)
  ·exact⟨c.toNat,x.toNat,by omega,by omega,by omega,by omega⟩
  ·rw[if_pos h2]at h;cases h
 ·rw[if_pos h1]at h;cases h
theorem z1o(h:IsT w q t)(hl:LS t inn)(c x:Int):Calls prog 111 #[.pointer (some ⟨q.m,0,none⟩),.int .i64 c,.int .i64 x] w (LisP q t (insI t.a inn c x) q.blocks w (insE t.a inn c x)):=by
 by_cases hr:zba t.a c x=0
 ·obtain⟨c,x,rfl,rfl,hc,hx⟩:=zib hr
  by_cases hn:0≤inn x
  ·have hE:insE t.a inn c x=8:=by unfold insE;rw[if_neg (fun k=>k hr),Int.toNat_natCast,if_pos hn]
   unfold insI;rw[hE,if_neg (by decide)];exact(zsw h hl c x hc hx hn).mono fun e w' ⟨he,hi,hf⟩=>⟨he,t,hi,hl,Lis.refl t,hf⟩
  ·have hE:insE t.a inn c x=0:=by unfold insE;rw[if_neg (fun k=>k hr),Int.toNat_natCast,if_neg hn]
   unfold insI;rw[hE,if_pos rfl,Int.toNat_natCast];exact(zqc h hl c x hc hx (by omega)).mono fun e w' ⟨he,hi,hf⟩=>⟨he,_,hi,hl.ins hc hx (by omega),zqe _ _ _ _ _ hc,hf⟩
 ·have hE:insE t.a inn c x=zba t.a c x:=by unfold insE;rw[if_pos hr]
  unfold insI;rw[hE,if_neg hr];exact(zrq h c x hr).mono fun e w' ⟨he,hf⟩=>⟨he,t,h.fr0 hf,hl,Lis.refl t,hf.nil⟩
theorem z0e(h:IsT w q t)(hl:LS t inn)(c x:Int):Calls prog 201 #[.pointer (some ⟨q.m,0,none⟩),.int .i64 c,.int .i64 x] w (LisP q t (remI t.a inn c x) q.blocks w (remE t.a inn c x)):=by
 by_cases hr:zba t.a c x=0
 ·obtain⟨c,x,rfl,rfl,hc,hx⟩:=zib hr
  by_cases hn:inn x=(c:Int)
  ·have hE:remE t.a inn c x=0:=by unfold remE;rw[if_neg (fun k=>k hr),Int.toNat_natCast,if_neg (fun k=>k hn)]
   unfold remI;rw[hE,if_pos rfl,Int.toNat_natCast];exact(zoz h hl c x hc hx hn).mono fun e w' ⟨he,hi,hf⟩=>⟨he,_,hi,hl.del hc hx hn,zws _ _ _ _ _ hc,hf⟩
  ·have hE:remE t.a inn c x=7:=by unfold remE;rw[if_neg (fun k=>k hr),Int.toNat_natCast,if_pos hn]
   unfold remI;rw[hE,if_neg (by decide)];exact(zl4 h hl c x hc hx hn).mono fun e w' ⟨he,hi,hf⟩=>⟨he,t,hi,hl,Lis.refl t,hf⟩
 ·have hE:remE t.a inn c x=zba t.a c x:=by unfold remE;rw[if_pos hr]
  unfold remI;rw[hE,if_neg hr];exact(zry h c x hr).mono fun e w' ⟨he,hf⟩=>⟨he,t,h.fr0 hf,hl,Lis.refl t,hf.nil⟩
theorem cfg7:Cfg 7 224:=⟨by decide,by decide,by decide,by decide,by decide⟩
end
theorem zk0(w:World)(base:Nat)(v:Value)(l:List Nat)(h:w.ownsRow base 3 1 v l.length (intC l))(A:Option Addr)(c:Nat)(m:List Nat)(hm:∀j (hj:j<m.length),∃g o,A=some ⟨g,o,none⟩∧w.cell? ⟨g,o+j,none⟩=some (.int .i64 (m[j] :Nat)))(hl:l.length+m.length≤1048576)(hbase:base≤w.heap.size):∃v' w',(Builtin.append_ #[30,30] 30 #[v,.slice A m.length c]).run prog w= .ok v' w'∧w'.ownsRow base 3 1 v' (l++m).length (intC (l++m))∧w.grownBy w' v.ownBlock:=by
 obtain⟨i,hi,hz,hs,hb⟩:=info_parts zg6;rcases A with _|ad
 ·have hm0:m= [] :=by
   rcases m with _|⟨x,m⟩
   ·rfl
   ·obtain⟨g,o,e,_⟩:=hm 0 (by simp)
    cases e
  subst hm0;refine⟨v,w,?_,by simpa using h,World.grownBy.refl w _⟩;obtain⟨h1,⟨rfl,h2⟩|⟨g,cap,cur,rfl,hg,hh,hc,_⟩⟩:=h
  ·have:l= [] :=List.eq_nil_of_length_eq_zero h2
   subst this;simp[Builtin.append_,run_underlying underlying30,sizeOf,typeInfo,hi,Builtin.lenOf,Builtin.firstCells]
  ·simp[Builtin.append_,run_underlying underlying30,sizeOf,typeInfo,hi,Builtin.lenOf,Builtin.firstCells,hc,storeCells]
 ·have hcells:∀j u,(intC m)[j]?=some u→w.cell? (ad.add j)=some u:=by
   intro j u hu
   have hj:j<m.length:=by
    have:=(List.getElem?_eq_some_iff.1 hu).1;simpa[intC]using this
   obtain⟨g,o,e,hc⟩:=hm j hj;injection e with e;subst e;have hadd:(⟨g,o,none⟩:Addr).add j=⟨g,o+j,none⟩:=by unfold Addr.add;split<;>simp_all
   rw[hadd,hc];rw[intC,List.getElem?_map,List.getElem?_eq_getElem hj]at hu;exact hu
  obtain⟨v',w',hrun,h2,h3,_,_⟩:=run_append_own_at (P:=prog) w base 30 30 3 i (.int .i64 0) 1 8 underlying30 hi hz hs hb rfl (by decide) v l.length (intC l) h ad m.length c (intC m) (by simp[intC]) hcells (fun u hu=>by
   obtain⟨k,_,rfl⟩:=List.mem_map.1 hu;rfl) (by unfold maxLen;omega) (by omega) hbase
  refine⟨v',w',hrun,?_,h3⟩;rw[List.length_append,intC,List.map_append];exact h2
theorem z1l(w:World):(w.alloc (.cells #[] 3)).ownsRow w.heap.size 3 1 (.slice (some ⟨w.heap.size,0,none⟩) 0 0) ([] :List Nat).length (intC []):=
 ⟨rfl,.inr ⟨_,0,#[],rfl,Nat.le_refl _,Blk.new _ _ _,Nat.le_refl _,by unfold maxLen;omega,rfl,rfl⟩⟩
theorem zvg{w W W':World}{base:Nat}{v:Value}{l:List Nat}(h:W.ownsRow base 3 1 v l.length (intC l))(hg:W.grownBy W' v.ownBlock)(hf:Fr [] w W)(hb:w.heap.size≤base):Fr [] w W':=
 ⟨hg.os.trans hf.os,hg.tape.trans hf.tape,hg.output.trans hf.output,Nat.le_trans hf.size hg.size,fun k hk hn=>(hg.block k (Nat.lt_of_lt_of_le hk hf.size) (fun e=>by
  have:=(h.lt k e.symm).1;omega)).trans (hf.block k hk hn)⟩
theorem zky{P:Program}{o:Oper}{a:Act}{w:World}{K:Act→World→Prop}{Q:Exit→Act→World→Prop}
  (s x:Operand) (t:TypeId) (hop:o.op=Op.call {callee:=Callee.builtin Builtin.append,args:= #[s,x],argTypes:= #[t,t]}) (hty:o.type=t)
  (vs vx v':Value) (w':World) (hs:a.eval s=vs) (hx:a.eval x=vx) (hrun:(Builtin.append_ #[t,t] t #[vs,vx]).run P w= .ok v' w')
  (hK:K (a.put o.dst v') w'):Oper.wp P o a w K Q:=by
 subst hty
 unfold Oper.wp
 simp[execOp,hop,resolve,invoke,builtin,hs,hx,hrun,Result.andThen]
 exact hK
end Go.Proofs.YtolhkhdbgnciiaaGreatDoor
