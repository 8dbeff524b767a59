/- Several texts in one. -/
import Derived.Deep.Light
import Derived.Lib.SlBytesConst
import Derived.Test.YtghllbkjghnmhaaGreatDoorGC
namespace Go.Proofs.YtghllbkjghnmhaaGreatDoor
open _root_.Go.Proofs.Tryz
open Go.Lib (hid)
open Go.IntWalk (i64_in)
set_option linter.unusedVariables false
set_option linter.unusedSimpArgs false
open Go.RowKit
set_option maxRecDepth 100000
set_option maxHeartbeats 8000000
def zj5:List (Nat×Nat):= [(0,1),(1,1),(2,1),(3,1),(4,4)]
def ownL:List (Nat×Nat):= [(8,4),(12,4),(16,8),(24,2),(26,2),(28,4)]
def wh(tag f:Nat):Nat×Nat:=
 if f<5 then zj5[f]?.getD (0,0)else if tag=1 then ownL[f-5]?.getD (0,0)else if tag=2∧f=11 then(8,4)else if tag=2∧f=10 then(12,4)else(0,0)
def whZ(tag f:Int):Nat×Nat:=if 0≤tag∧tag≤2∧0≤f∧f≤11 then wh tag.toNat f.toNat else(0,0)
def sz(tag:Nat):Nat:= [8,32,16][tag]?.getD 0
def szZ(tag:Int):Nat:=if 0≤tag∧tag≤2 then sz tag.toNat else 0
def zj6(l:List Int):Array Value:=(l.map (Value.int .i64)).toArray
def nowT:Array Value:=zj6 [0,0]
def comT:Array Value:=zj6 [0,1,1,1,2,1,3,1,4,4]
def ownT:Array Value:=zj6 [8,4,12,4,16,8,24,2,26,2,28,4]
structure Tabs(w:World):Prop where
 now: ∀i,w.cell? ⟨1,i,none⟩=nowT[i]?
 com: ∀i,w.cell? ⟨3,i,none⟩=comT[i]?
 own: ∀i,w.cell? ⟨4,i,none⟩=ownT[i]?
 size:5≤w.heap.size
theorem Tabs.of{w w':World}(h:Tabs w)(hs:w.heap.size≤w'.heap.size)(hc:∀p:Addr,p.block<5→w'.cell? p=w.cell? p):Tabs w':=
 ⟨fun i=>(hc ⟨1,i,none⟩ (by simp)).trans (h.now i),fun i=>(hc ⟨3,i,none⟩ (by simp)).trans (h.com i),fun i=>(hc ⟨4,i,none⟩ (by simp)).trans (h.own i),Nat.le_trans h.size hs⟩
theorem Tabs.below{w w':World}{B:Nat}(h:Tabs w)(hb:Below B w w')(hB:5≤B):Tabs w':=
 h.of hb.size fun p hp=>hb.cell (by omega)
theorem Tabs.fr{w w':World}{S:List Nat}(h:Tabs w)(hf:Fr S w w')(hS:∀k∈S,5≤k):Tabs w':=
 h.of hf.size fun p hp=>hf.cell (by have:=h.size;omega) (fun hm=>by have:=hS _ hm;omega)
theorem Tabs.alloc{w:World}(h:Tabs w)(o:Obj):Tabs (w.alloc o):=h.fr ((Fr.refl [] w).alloc o) (by simp)
theorem zj7(w:World)(tag:Int):Calls prog 244 #[tag] w (zE (.bool (decide (0≤tag)&&decide (tag<3))) w):=by
 by_cases h0:0≤tag
 ·have h1:decide (0≤tag)=true:=by simpa using h0
  rw[h1,Bool.true_and];go_in;go_wp2;go_ret;exact⟨rfl,rfl⟩
 ·have h1:decide (0≤tag)=false:=by simpa using h0
  rw[h1,Bool.false_and];go_in;go_wp2;go_ret;exact⟨rfl,rfl⟩
theorem zj8(tag f:Nat)(h:f<5):comT[f*2]?=some (.int .i64 (wh tag f).1)∧comT[f*2+1]?=some (.int .i64 (wh tag f).2):=by
 rcases f with _|_|_|_|_|f<;>first|exact⟨rfl,rfl⟩|omega
theorem zj9(k:Nat)(h:k<6):ownT[k*2]?=some (.int .i64 (wh 1 (k+5)).1)∧ownT[k*2+1]?=some (.int .i64 (wh 1 (k+5)).2):=by
 rcases k with _|_|_|_|_|_|f<;>first|exact⟨rfl,rfl⟩|omega
def rowV(x:Nat×Nat):Value:= .agg #[x.1,x.2]
theorem zka(w:World)(hT:Tabs w)(tag f:Int)(h:¬(0≤tag∧tag≤2∧0≤f∧f≤11)):Calls prog 184 #[tag,f] w (zN (rowV (0,0)) w):=by
 have hi:=fun w=>zj7 w tag;have n0:∀o,(w.alloc o).cell? ⟨1,0,none⟩=some (.int .i64 0):=fun o=>(hT.alloc o).now 0;have n1:∀o,(w.alloc o).cell? ⟨1,1,none⟩=some (.int .i64 0):=fun o=>(hT.alloc o).now 1;have hs:=hT.size;by_cases h0:0≤tag∧tag≤2
 ·have h1:(decide (0≤tag)&&decide (tag<3))=true:=by simp;omega
  rw[h1]at hi;by_cases h2:f<0
  ·go_in
   go_wp2_with (go_at_call 244;refine(hi _).mono ?_;rintro e w' ⟨rfl,rfl⟩);go_returns;exact⟨rfl,by repeat(first|exact Fr.refl _ _|apply Fr.alloc|apply Fr.drew|apply Fr.drewN|(refine Fr.setCell ?_ (Or.inr (by simp)) _))⟩
  ·have h3:decide (f<0)=false:=by simpa using h2
   have h4:=dT (12≤f);go_in;go_wp2_with (go_at_call 244;refine(hi _).mono ?_;rintro e w' ⟨rfl,rfl⟩);go_returns;exact⟨rfl,by repeat(first|exact Fr.refl _ _|apply Fr.alloc|apply Fr.drew|apply Fr.drewN|(refine Fr.setCell ?_ (Or.inr (by simp)) _))⟩
 ·have h1:(decide (0≤tag)&&decide (tag<3))=false:=by simp;omega
  rw[h1]at hi;go_in;go_wp2_with (go_at_call 244;refine(hi _).mono ?_;rintro e w' ⟨rfl,rfl⟩);go_returns;exact⟨rfl,by repeat(first|exact Fr.refl _ _|apply Fr.alloc|apply Fr.drew|apply Fr.drewN|(refine Fr.setCell ?_ (Or.inr (by simp)) _))⟩
theorem zkb(w:World)(hT:Tabs w)(tag f:Nat)(ht:tag≤2)(hf:f<5):Calls prog 184 #[tag,f] w (zN (rowV (wh tag f)) w):=by
 have hi:=fun w=>zj7 w tag;have h1:(decide (0≤(tag:Int))&&decide ((tag:Int)<3))=true:=by simp;omega
 rw[h1]at hi;have n0:∀o,(w.alloc o).cell? ⟨3,f*2,none⟩=some (.int .i64 (wh tag f).1):=fun o=>((hT.alloc o).com _).trans (zj8 tag f hf).1;have n1:∀o,(w.alloc o).cell? ⟨3,f*2+1,none⟩=some (.int .i64 (wh tag f).2):=fun o=>((hT.alloc o).com _).trans (zj8 tag f hf).2;have h2:(0:Int)≤f:=by omega
 have h3:=dF (12≤(f:Int));have h4:(f:Int)<5:=by omega
 go_in;go_wp2_with (go_at_call 244;refine(hi _).mono ?_;rintro e w' ⟨rfl,rfl⟩);go_returns;exact⟨rfl,by repeat(first|exact Fr.refl _ _|apply Fr.alloc|apply Fr.drew|apply Fr.drewN|(refine Fr.setCell ?_ (Or.inr (by simp)) _))⟩
theorem zkc(w:World)(hT:Tabs w)(k:Nat)(hk:k<6):Calls prog 184 #[(1:Int),((k:Int)+5:)] w (zR (rowV (wh 1 (k+5))) fun w'=>Fr [] w w'):=by
 have hi:=fun w=>zj7 w 1;rw[show(decide (0≤(1:Int))&&decide ((1:Int)<3))=true from rfl]at hi;have n0:∀o,(w.alloc o).cell? ⟨4,k*2,none⟩=some (.int .i64 (wh 1 (k+5)).1):=fun o=>((hT.alloc o).own _).trans (zj9 k hk).1;have n1:∀o,(w.alloc o).cell? ⟨4,k*2+1,none⟩=some (.int .i64 (wh 1 (k+5)).2):=fun o=>((hT.alloc o).own _).trans (zj9 k hk).2;have h0:(0:Int)≤k:=by omega
 have h4:(k:Int)<6:=by omega
 obtain⟨f,hf⟩:∃f:Int,f=k+5:=⟨_,rfl⟩;rw[←hf];have h2:=dF (f<0);have h3:=dF (12≤f);have h5:=dF (f<5);have h6:IntKind.i64.wrap (f-5)=k:=(i6 _).trans (by omega);go_in;go_wp2_with (go_at_call 244;refine(hi _).mono ?_;rintro e w' ⟨rfl,rfl⟩);go_returns;exact⟨rfl,by repeat(first|exact Fr.refl _ _|apply Fr.alloc|apply Fr.drew|apply Fr.drewN|(refine Fr.setCell ?_ (Or.inr (by simp)) _))⟩
theorem zkd(w:World):Calls prog 184 #[(2:Int),(11:Int)] w (zN (rowV (8,4)) w):=by
 have hi:=fun w=>zj7 w 2;rw[show(decide (0≤(2:Int))&&decide ((2:Int)<3))=true from rfl]at hi;go_in;go_wp2_with (go_at_call 244;refine(hi _).mono ?_;rintro e w' ⟨rfl,rfl⟩);go_returns;exact⟨rfl,by repeat(first|exact Fr.refl _ _|apply Fr.alloc|apply Fr.drew|apply Fr.drewN|(refine Fr.setCell ?_ (Or.inr (by simp)) _))⟩
theorem zke(w:World):Calls prog 184 #[(2:Int),(10:Int)] w (zN (rowV (12,4)) w):=by
 have hi:=fun w=>zj7 w 2;rw[show(decide (0≤(2:Int))&&decide ((2:Int)<3))=true from rfl]at hi;go_in;go_wp2_with (go_at_call 244;refine(hi _).mono ?_;rintro e w' ⟨rfl,rfl⟩);go_returns;exact⟨rfl,by repeat(first|exact Fr.refl _ _|apply Fr.alloc|apply Fr.drew|apply Fr.drewN|(refine Fr.setCell ?_ (Or.inr (by simp)) _))⟩
theorem zkf(w:World)(hT:Tabs w)(tag f:Int)(h:5≤f∧f≤11∧(tag=0∨tag=1∧f=11∨tag=2∧f≤9)):Calls prog 184 #[tag,f] w (zN (rowV (0,0)) w):=by
 have hi:=fun w=>zj7 w tag;have n0:∀o,(w.alloc o).cell? ⟨1,0,none⟩=some (.int .i64 0):=fun o=>(hT.alloc o).now 0;have n1:∀o,(w.alloc o).cell? ⟨1,1,none⟩=some (.int .i64 0):=fun o=>(hT.alloc o).now 1;have h1:(decide (0≤tag)&&decide (tag<3))=true:=by simp;omega
 rw[h1]at hi;have h2:=dF (f<0);have h3:=dF (12≤f);have h5:=dF (f<5);obtain⟨hf1,hf2,h⟩:=h;rcases h with rfl|⟨rfl,rfl⟩|⟨rfl,h⟩
 ·go_in
  go_wp2_with (go_at_call 244;refine(hi _).mono ?_;rintro e w' ⟨rfl,rfl⟩);go_returns;exact⟨rfl,by repeat(first|exact Fr.refl _ _|apply Fr.alloc|apply Fr.drew|apply Fr.drewN|(refine Fr.setCell ?_ (Or.inr (by simp)) _))⟩
 ·go_in
  go_wp2_with (go_at_call 244;refine(hi _).mono ?_;rintro e w' ⟨rfl,rfl⟩);go_returns;exact⟨rfl,by repeat(first|exact Fr.refl _ _|apply Fr.alloc|apply Fr.drew|apply Fr.drewN|(refine Fr.setCell ?_ (Or.inr (by simp)) _))⟩
 ·have h7:(f==11)=false:=by simp;omega
  have h8:(f==10)=false:=by simp;omega
  go_in;go_wp2_with (go_at_call 244;refine(hi _).mono ?_;rintro e w' ⟨rfl,rfl⟩);go_returns;exact⟨rfl,by repeat(first|exact Fr.refl _ _|apply Fr.alloc|apply Fr.drew|apply Fr.drewN|(refine Fr.setCell ?_ (Or.inr (by simp)) _))⟩
theorem zkg(w:World)(hT:Tabs w)(tag f:Int):Calls prog 184 #[tag,f] w (zN (rowV (whZ tag f)) w):=by
 unfold whZ;by_cases h:0≤tag∧tag≤2∧0≤f∧f≤11
 ·rw[if_pos h]
  obtain⟨t,rfl⟩:∃t:Nat,tag=t:=⟨tag.toNat,by omega⟩;obtain⟨k,rfl⟩:∃k:Nat,f=k:=⟨f.toNat,by omega⟩;rw[Int.toNat_natCast,Int.toNat_natCast];by_cases h5:k<5
  ·exact zkb w hT t k (by omega) h5
  ·by_cases h1:t=1∧k≤10
   ·obtain⟨rfl,h1⟩:=h1
    obtain⟨j,rfl⟩:∃j,k=j+5:=⟨k-5,by omega⟩;exact zkc w hT j (by omega)
   ·by_cases h2:t=2∧10≤k
    ·obtain⟨rfl,h2⟩:=h2
     have:k=10∨k=11:=by omega
     rcases this with rfl|rfl
     ·exact zke w
     ·exact zkd w
    ·have e:wh t k=(0,0):=by
      unfold wh;rw[if_neg h5];split
      ·have:k=11:=by omega
       subst this;rfl
      ·rw[if_neg (by omega),if_neg (by omega)]
     rw[e];exact zkf w hT t k (by omega)
 ·rw[if_neg h]
  exact zka w hT tag f h
structure HB where
 tag:Int
 cls:Int
 used:Bool
 label:Int
 name:Nat
 next:Nat
 prev:Nat
 refs:Nat
 expiry:Nat
 typ:Nat
 size:Int
 hash:Nat
structure HB.Ok(x:HB):Prop where
 tag: -9223372036854775808≤x.tag∧x.tag≤9223372036854775807
 cls: -9223372036854775808≤x.cls∧x.cls≤9223372036854775807
 label: -9223372036854775808≤x.label∧x.label≤9223372036854775807
 name:x.name<4294967296
 next:x.next<4294967296
 prev:x.prev<4294967296
 refs:x.refs<4294967296
 expiry:x.expiry<18446744073709551616
 typ:x.typ<65536
 size: -9223372036854775808≤x.size∧x.size≤9223372036854775807
 hash:x.hash<4294967296
def HB.cells(x:HB):Array Value:= #[.int .i64 x.tag,.int .i64 x.cls,.bool x.used,.int .i64 x.label,.int .u32 x.name,.int .u32 x.next,.int .u32 x.prev,.int .u32 x.refs,.int .u64 x.expiry,.int .u16 x.typ,.int .i64 x.size,.int .u32 x.hash]
def HB.val(x:HB):Value:= .agg x.cells
def HB.nums(x:HB):List Nat:= [w64 x.tag,w64 x.cls,if x.used then 1 else 0,w64 x.label,x.name,x.next,x.prev,x.expiry,x.typ,w64 x.size,x.hash,x.refs]
def zkh(l:List Nat):Value:= .agg ((l.map fun n:Nat=>Value.int .u64 (n:Int)).toArray)
theorem zki(w:World)(b:Bool):Calls prog 269 #[b] w (zE (.int .u64 ((if b then 1 else 0:Nat):Int)) w):=by
 cases b
 ·go_in
  go_wp2;go_returns;exact⟨rfl,rfl⟩
 ·go_in
  go_wp2;go_returns;exact⟨rfl,rfl⟩
theorem zkj(w:World)(x:HB)(hx:x.Ok):Calls prog 183 #[x.val] w (zN (zkh x.nums) w):=by
 obtain⟨tag,cls,used,label,name,next,prev,refs,expiry,typ,size,hash⟩:=x;obtain⟨h1,h2,h3,h4,h5,h6,h7,h8,h9,h10,h11⟩:=hx;simp only at h1 h2 h3 h4 h5 h6 h7 h8 h9 h10 h11;have e1:=zav tag;have e2:=zav cls;have e3:=zav label;have e4:=zav size;have ho:=fun w=>zki w used;have m0:=zaw name (by omega);have m1:=zaw next (by omega);have m2:=zaw prev (by omega);have m3:=zaw typ (by omega);have m4:=zaw hash (by omega);have m5:=zaw refs (by omega);simp only[HB.val,HB.cells,zkh,HB.nums,List.map_cons,List.map_nil];generalize(if used then 1 else 0:Nat)=u at*;generalize w64 tag=t at*;generalize w64 cls=c at*;generalize w64 label=l at*;generalize w64 size=s at*;go_in;go_wp2_with fail;generalize hw:(w.alloc (.cells #[tag,cls,used,label,.int .u32 name,.int .u32 next,.int .u32 prev,.int .u32 refs,.int .u64 expiry,.int .u16 typ,size,.int .u32 hash] 122)).alloc (.cells #[.int .u64 0,.int .u64 0,.int .u64 0,.int .u64 0,.int .u64 0,.int .u64 0,.int .u64 0,.int .u64 0,.int .u64 0,.int .u64 0,.int .u64 0,.int .u64 0] 231)=w1;refine wp_region_still_tail 36 (by kernel_rfl) (by kernel_rfl) ?_;simp only[List.take_succ_cons,List.take_zero,List.drop_succ_cons,List.drop_zero];have hb:Blk w1.drew w.heap.size 122 #[tag,cls,used,label,.int .u32 name,.int .u32 next,.int .u32 prev,.int .u32 refs,.int .u64 expiry,.int .u16 typ,size,.int .u32 hash] :=by rw[←hw];exact((Blk.new w _ _).alloc _).drew
 have hn:Blk w1.drew (w.heap.size+1) 231 #[.int .u64 0,.int .u64 0,.int .u64 0,.int .u64 0,.int .u64 0,.int .u64 0,.int .u64 0,.int .u64 0,.int .u64 0,.int .u64 0,.int .u64 0,.int .u64 0] :=by rw[←hw,show w.heap.size+1=(w.alloc (.cells #[tag,cls,used,label,.int .u32 name,.int .u32 next,.int .u32 prev,.int .u32 refs,.int .u64 expiry,.int .u16 typ,size,.int .u32 hash] 122)).heap.size by simp];exact(Blk.new _ _ _).drew
 have hf:Fr [] w w1.drew:=by rw[←hw];exact(((Fr.refl _ _).alloc _).alloc _).drew
 clear hw;change wpStill _ _ w1.drew (fun a'=>wpList _ _ _ _ a' w1.drew) _ _;generalize w1.drew=w2 at hb hn hf⊢;have c0:=hb.cell 0;have c1:=hb.cell 1;have c2:=hb.cell 2;have c3:=hb.cell 3;have c4:=hb.cell 4;have c5:=hb.cell 5;have c6:=hb.cell 6;have c7:=hb.cell 7;have c8:=hb.cell 8;have c9:=hb.cell 9;have c10:=hb.cell 10;have c11:=hb.cell 11;have d0:=hn.cell 0;have d1:=hn.cell 1;have d2:=hn.cell 2;have d3:=hn.cell 3;have d4:=hn.cell 4;have d5:=hn.cell 5;have d6:=hn.cell 6;have d7:=hn.cell 7;have d8:=hn.cell 8;have d9:=hn.cell 9;have d10:=hn.cell 10;have d11:=hn.cell 11;have z0:=hn.frozen 0;have z1:=hn.frozen 1;have z2:=hn.frozen 2;have z3:=hn.frozen 3;have z4:=hn.frozen 4;have z5:=hn.frozen 5;have z6:=hn.frozen 6;have z7:=hn.frozen 7;have z8:=hn.frozen 8;have z9:=hn.frozen 9;have z10:=hn.frozen 10;have z11:=hn.frozen 11;simp at c0 c1 c2 c3 c4 c5 c6 c7 c8 c9 c10 c11;simp at d0 d1 d2 d3 d4 d5 d6 d7 d8 d9 d10 d11;repeat still_step
 still_call (ho _);repeat still_step
 refine wpStill_nil ?_;go_wp2;have hn3:=((((((((((((hn.set 0 (.int .u64 (t:Int))).set 1 (.int .u64 (c:Int))).set 2 (.int .u64 (u:Int))).set 3 (.int .u64 (l:Int))).set 4 (.int .u64 (name:Int))).set 5 (.int .u64 (next:Int))).set 6 (.int .u64 (prev:Int))).set 7 (.int .u64 (expiry:Int))).set 8 (.int .u64 (typ:Int))).set 9 (.int .u64 (s:Int))).set 10 (.int .u64 (hash:Int))).set 11 (.int .u64 (refs:Int)));have hf3:=((((((((((((hf.setCell (p:=⟨w.heap.size+1,0,none⟩) (.inr (by simp)) (.int .u64 (t:Int))).setCell (p:=⟨w.heap.size+1,1,none⟩) (.inr (by simp)) (.int .u64 (c:Int))).setCell (p:=⟨w.heap.size+1,2,none⟩) (.inr (by simp)) (.int .u64 (u:Int))).setCell (p:=⟨w.heap.size+1,3,none⟩) (.inr (by simp)) (.int .u64 (l:Int))).setCell (p:=⟨w.heap.size+1,4,none⟩) (.inr (by simp)) (.int .u64 (name:Int))).setCell (p:=⟨w.heap.size+1,5,none⟩) (.inr (by simp)) (.int .u64 (next:Int))).setCell (p:=⟨w.heap.size+1,6,none⟩) (.inr (by simp)) (.int .u64 (prev:Int))).setCell (p:=⟨w.heap.size+1,7,none⟩) (.inr (by simp)) (.int .u64 (expiry:Int))).setCell (p:=⟨w.heap.size+1,8,none⟩) (.inr (by simp)) (.int .u64 (typ:Int))).setCell (p:=⟨w.heap.size+1,9,none⟩) (.inr (by simp)) (.int .u64 (s:Int))).setCell (p:=⟨w.heap.size+1,10,none⟩) (.inr (by simp)) (.int .u64 (hash:Int))).setCell (p:=⟨w.heap.size+1,11,none⟩) (.inr (by simp)) (.int .u64 (refs:Int)));generalize((((((((((((w2.setCell ⟨w.heap.size+1,0,none⟩ (.int .u64 (t:Int))).setCell ⟨w.heap.size+1,1,none⟩ (.int .u64 (c:Int))).setCell ⟨w.heap.size+1,2,none⟩ (.int .u64 (u:Int))).setCell ⟨w.heap.size+1,3,none⟩ (.int .u64 (l:Int))).setCell ⟨w.heap.size+1,4,none⟩ (.int .u64 (name:Int))).setCell ⟨w.heap.size+1,5,none⟩ (.int .u64 (next:Int))).setCell ⟨w.heap.size+1,6,none⟩ (.int .u64 (prev:Int))).setCell ⟨w.heap.size+1,7,none⟩ (.int .u64 (expiry:Int))).setCell ⟨w.heap.size+1,8,none⟩ (.int .u64 (typ:Int))).setCell ⟨w.heap.size+1,9,none⟩ (.int .u64 (s:Int))).setCell ⟨w.heap.size+1,10,none⟩ (.int .u64 (hash:Int))).setCell ⟨w.heap.size+1,11,none⟩ (.int .u64 (refs:Int)))=w3 at hn3 hf3⊢;have q0:=hn3.cell 0;have q1:=hn3.cell 1;have q2:=hn3.cell 2;have q3:=hn3.cell 3;have q4:=hn3.cell 4;have q5:=hn3.cell 5;have q6:=hn3.cell 6;have q7:=hn3.cell 7;have q8:=hn3.cell 8;have q9:=hn3.cell 9;have q10:=hn3.cell 10;have q11:=hn3.cell 11;simp at q0 q1 q2 q3 q4 q5 q6 q7 q8 q9 q10 q11;refine bodyPost_ret (by simp[results,results183,go_sem,q0,q1,q2,q3,q4,q5,q6,q7,q8,q9,q10,q11];try rfl) rfl ?_;exact⟨rfl,hf3⟩
def HB.num(x:HB)(f:Nat):Nat:=x.nums[f]?.getD 0
def HB.lackAt(x:HB)(f:Nat):Bool:=x.num f !=0&&(whZ x.tag f).2==0
def HB.lackTo(x:HB):Nat→Bool
 |0=>false
 |k+1=>x.lackTo k||x.lackAt k
theorem zkk(tag f:Int)(h:(whZ tag f).2=0):whZ tag f=(0,0):=by
 unfold whZ at h⊢;split at h
 ·rename_i hb
  rw[if_pos hb];generalize tag.toNat=t at*;generalize f.toNat=k at*;unfold wh at h⊢;split at h
  ·rename_i h5
   exfalso;revert h;rcases k with _|_|_|_|_|k<;>first|(simp[zj5];done)|omega
  ·rename_i h5
   rw[if_neg h5];split at h
   ·rename_i h1
    rw[if_pos h1];by_cases hk:k-5<6
    ·exfalso
     revert h hk;generalize k-5=j;rcases j with _|_|_|_|_|_|j<;>simp[ownL] <;>omega
    ·have:ownL[k-5]?=none:=List.getElem?_eq_none (by simp[ownL];omega)
     rw[this];rfl
   ·rename_i h1
    rw[if_neg h1];split at h
    ·simp at h
    ·rename_i h2
     rw[if_neg h2];split at h
     ·simp at h
     ·rename_i h3
      rw[if_neg h3]
 ·rename_i hb
  rw[if_neg hb]
theorem zkl(x:HB):∃arr:Array Value,zkh x.nums= .agg arr∧arr.size=12∧∀k,k<12→arr[k]?=some (.int .u64 (x.num k)):=by
 refine⟨_,rfl,rfl,fun k hk=> ?_⟩;rcases k with _|_|_|_|_|_|_|_|_|_|_|_|k<;>first|rfl|omega
theorem zkm(arr:Array Value)(k:Nat)(hk:k<12)(n:Nat)(h:arr[k]?=some (.int .u64 n))(w:World):(Instr.index 231 (.agg arr) (.int .i64 k)).run prog w= .ok (.int .u64 n) w:=by
 have h2:(0:Int)≤k∧(k:Int)<(12:Nat):=by omega
 have h0:(0:Int)≤k:=by omega
 have h3:(k:Int)<12:=by omega
 simp[Instr.index,run_underlying underlying231,asIntOf,go_sem,h2,h0,h];intro;omega
theorem zkn(a b c d:Int)(w:World):(Op.equalIn 10000 234 (.agg #[a,b]) (.agg #[c,d])).run prog w= .ok (a==c&&b==d) w:=by
 obtain⟨ti,hti⟩:∃i,prog.info? 3=some i:=Option.isSome_iff_exists.1 (by kernel_rfl);rw[show(10000:Nat)=9999+1 from rfl,run_equalIn_array _ 9999 (e:=3) (n:=2) _ _ (by kernel_rfl) hti,show List.range 2= [0,1]from rfl,show prog.cellsOf 3=1 by kernel_rfl]
 have hp:∀(xs:Array Value) (i:Nat) (z:Int) (w:World),xs[i]?=some (.int .i64 z)→(part 3 xs (i*1)).run prog w= .ok (.int .i64 z) w:=fun xs i z w h=>by
  simp[part,go_sem,h]
 have he:∀(x y:Int) (w:World),(Op.equalIn 9999 3 (.int .i64 x) (.int .i64 y)).run prog w= .ok (x==y) w:=fun x y w=>run_equalIn_int _ 9998 3 .i64 .i64 x y (by kernel_rfl);have h0:∀(x y:Int) (w:World),(part 3 #[.int .i64 x,.int .i64 y] 0).run prog w= .ok (.int .i64 x) w:=fun x y w=>hp #[.int .i64 x,.int .i64 y] 0 x w rfl;have h1:∀(x y:Int) (w:World),(part 3 #[.int .i64 x,.int .i64 y] 1).run prog w= .ok (.int .i64 y) w:=fun x y w=>hp #[.int .i64 x,.int .i64 y] 1 y w rfl;simp only[Op.eqItems,Sem.run_bind,Nat.zero_mul,Nat.one_mul,h0,he,Result.andThen_ok];by_cases p:a=c<;>by_cases q:b=d<;>simp[Sem.run_bind,h1,he,p,q]
def zko(w:World)(x:HB)(v:Value)(wr:World):Prop:= ∃k:Nat,k≤12∧v= .int .i64 k∧Fr [] w wr∧Tabs wr∧wr.cell? ⟨w.heap.size,0,none⟩=some (.int .i64 x.tag)∧x.lackTo k=false∧w.heap.size<wr.heap.size
theorem zkp(w:World)(hT:Tabs w)(x:HB)(hx:x.Ok):Calls prog 268 #[x.val] w (zN (.bool (x.lackTo 12)) w):=by
 obtain⟨arr,hA,_,hg⟩:=zkl x;have hn:=fun w=>zkj w x hx;rw[hA]at hn;have hval:x.val= .agg #[x.tag,x.cls,x.used,x.label,.int .u32 x.name,.int .u32 x.next,.int .u32 x.prev,.int .u32 x.refs,.int .u64 x.expiry,.int .u16 x.typ,x.size,.int .u32 x.hash] :=rfl;rw[hval];rw[hval]at hn;have HG:=hid hg;clear hg hA hval;go_in;go_wp2_with fail;refine(hn _).mono ?_;rintro e w1 ⟨rfl,f1⟩;have hT1:Tabs w1:=(hT.alloc _).fr f1 (by simp);have hF1:Fr [] w w1:=((Fr.refl [] w).alloc _).trans f1;have hc1:w1.cell? ⟨w.heap.size,0,none⟩=some (.int .i64 x.tag):=(f1.cell (p:=⟨w.heap.size,0,none⟩) (by simp) (by simp)).trans (by simp);have hlt1:w.heap.size<w1.heap.size:=Nat.lt_of_lt_of_le (by simp) f1.size;clear f1 hn;go_wp2;go_loopw [7] (fun v W=>zko w x v W) (fun v _=>12-(intOf v).toNat);case atStart=>exact⟨0,by omega,rfl,hF1,hT1,hc1,rfl,hlt1⟩
 case round=>
  clear hF1 hT1 hc1 hlt1;obtain⟨k,hk,rfl,hF,hT2,hc,hl,hlt2⟩:=hrel;by_cases hlt:k<12
  ·have hak:=HG.out k hlt
   have hk8:(k:Int)<12:=by omega
   have hix:=zkm arr k hlt (x.num k) hak;have hls:x.lackTo (k+1)=x.lackAt k:=by rw[HB.lackTo,hl,Bool.false_or]
   have hz:=zkk x.tag k;clear hak hl;by_cases h0:x.num k=0
   ·have hb:(((x.num k:Nat):Int) !=0)=false:=by simp[h0]
    have hnl:x.lackTo (k+1)=false:=by rw[hls];simp[HB.lackAt,h0]
    generalize x.num k=n at*;clear hz h0;go_wp2_with fail;go_quiet (fail);go_wp2;exact⟨⟨k+1,by omega,by go_num,hF.drewN _,hT2.fr ((Fr.refl [] wr).drewN _) (by simp),hc,hnl,hlt2⟩,by simp[intOf];omega⟩
   ·have hb:(((x.num k:Nat):Int) !=0)=true:=by simp;omega
    have n0:=hT2.now 0;have n1:=hT2.now 1;by_cases hw:(whZ x.tag k).2=0
    ·have hp:∀W,Tabs W→Calls prog 184 #[x.tag,k] W (zN (.agg #[(0:Int),(0:Int)]) W):=fun W h=>by
      have:=zkg W h x.tag k;rw[hz hw]at this;exact this
     have hnl:x.lackTo (k+1)=true:=by rw[hls];simp[HB.lackAt,h0,hw]
     have hend:x.lackTo 12=true:=by
      have:∀j,x.lackTo (k+1+j)=true:=fun j=>by
       induction j with
       |zero=>exact hnl
       |succ j ih=>rw[←Nat.add_assoc,HB.lackTo,ih,Bool.true_or]
      have:=this (12-(k+1));rwa[show k+1+(12-(k+1))=12 by omega]at this
     generalize x.num k=n at*;have hE:∀w,(Op.equalIn 10000 234 (.agg #[(0:Int),(0:Int)]) (.agg #[(0:Int),(0:Int)])).run prog w= .ok true w:=fun w=>zkn 0 0 0 0 w;clear hz h0 hls hnl;go_wp2_with fail
     go_region_held3 (fun w'=>w'.cell? ⟨w.heap.size,0,none⟩=some (.int .i64 x.tag)∧w'.cell? ⟨1,0,none⟩=some (.int .i64 0)∧w'.cell? ⟨1,1,none⟩=some (.int .i64 0)) (exact⟨hc,n0,n1⟩)
      (first|(go_at_call 184;refine(hp _ (hT2.fr (zak (S:= [])) (by simp))).mono ?_;rintro e W2 ⟨rfl,f2⟩;have hF2:=hF.trans ((zak (S:= [])).trans f2);have hT3:=hT2.fr ((zak (S:= [])).trans f2) (by simp);have hsz3:=f2.size;have hcK:=hc;have hc:=((((zak (S:= [])).trans f2)).cell (p:=⟨w.heap.size,0,none⟩) hlt2 (by simp)).trans hc;have n0:=hT3.now 0;have n1:=hT3.now 1))
     go_wp2;go_returns;exact⟨by rw[hend];rfl,hF2⟩
    ·have hp:∀W,Tabs W→Calls prog 184 #[x.tag,k] W (zN (.agg #[.int .i64 (whZ x.tag k).1,.int .i64 (whZ x.tag k).2]) W):=fun W h=>zkg W h x.tag k
     have hnl:x.lackTo (k+1)=false:=by rw[hls];simp[HB.lackAt,hw]
     generalize x.num k=n at*;generalize(whZ x.tag k).1=a at*;generalize(whZ x.tag k).2=b at*;have hbb:((b:Int)==0)=false:=by simp;omega
     have hE:∀w,(Op.equalIn 10000 234 (.agg #[a,b]) (.agg #[(0:Int),(0:Int)])).run prog w= .ok false w:=fun w=>by rw[zkn,hbb,Bool.and_false]
     clear hz h0 hls;go_wp2_with fail
     go_region_held3 (fun w'=>w'.cell? ⟨w.heap.size,0,none⟩=some (.int .i64 x.tag)∧w'.cell? ⟨1,0,none⟩=some (.int .i64 0)∧w'.cell? ⟨1,1,none⟩=some (.int .i64 0)) (exact⟨hc,n0,n1⟩)
      (first|(go_at_call 184;refine(hp _ (hT2.fr (zak (S:= [])) (by simp))).mono ?_;rintro e W2 ⟨rfl,f2⟩;have hF2:=hF.trans ((zak (S:= [])).trans f2);have hT3:=hT2.fr ((zak (S:= [])).trans f2) (by simp);have hsz3:=f2.size;have hcK:=hc;have hc:=((((zak (S:= [])).trans f2)).cell (p:=⟨w.heap.size,0,none⟩) hlt2 (by simp)).trans hc;have n0:=hT3.now 0;have n1:=hT3.now 1))
     go_wp2;exact⟨⟨k+1,by omega,by go_num,hF2,hT3,hc,hnl,Nat.lt_of_lt_of_le hlt2 (by have:=f2.size;simpa using this)⟩,by simp[intOf];omega⟩
  ·have hk12:k=12:=by omega
   subst hk12;go_wp2;go_returns;exact⟨by rw[hl];rfl,hF⟩
def zkq(tag cls label:Int)(used:Bool):Bool:=
 if tag=0 then decide (cls=0)&& !used&&decide (label=0)
  else decide (1≤cls∧cls≤9)&&if tag=1 then decide (label=0)else !used&&decide (1≤label∧label≤63)
def HB.right(x:HB):Bool:=
 decide (0≤x.tag∧x.tag≤2∧0≤x.size∧x.size≤480)&& !x.lackTo 12&&zkq x.tag x.cls x.label x.used
theorem zkr{a b:Bool}(h:a=b):Ending.returned a= .returned b:=by rw[h]
theorem zks(w:World)(tag cls size label:Int)(used:Bool)(name next prev refs expiry typ hash:Nat)(ht:tag=0∨tag=1∨tag=2)(h2:0≤size)(h3:size≤480)
  (hl:∀W,Tabs W→Calls prog 268 #[.agg #[tag,cls,used,label,.int .u32 name,.int .u32 next,.int .u32 prev,.int .u32 refs,.int .u64 expiry,.int .u16 typ,size,.int .u32 hash]] W (zN false W)) (hT:Tabs w):
  Calls prog 182 #[.agg #[tag,cls,used,label,.int .u32 name,.int .u32 next,.int .u32 prev,.int .u32 refs,.int .u64 expiry,.int .u16 typ,size,.int .u32 hash]] w (zN (.bool (zkq tag cls label used)) w):=by
 have hi:=fun w=>zj7 w tag;have hr:∃r,r=zkq tag cls label used:=⟨_,rfl⟩;obtain⟨r,hr⟩:=hr;rw[←hr];have HR:=hid hr;clear hr;have b2:=dF (size<0);have b3:=dF (480<size);rcases ht with rfl|rfl|rfl
 all_goals
  first|rw[show(decide (0≤(0:Int))&&decide ((0:Int)<3))=true from rfl]at hi|rw[show(decide (0≤(1:Int))&&decide ((1:Int)<3))=true from rfl]at hi|rw[show(decide (0≤(2:Int))&&decide ((2:Int)<3))=true from rfl]at hi
  go_in;go_wp2_with (go_at_call 244;refine(hi _).mono ?_;rintro e w' ⟨rfl,rfl⟩);go_call hl _ (hT.alloc _) as e w1 ⟨rfl,f1⟩;have c0:=f1.cell (p:=⟨w.heap.size,0,none⟩) (by simp) (by simp);have c1:=f1.cell (p:=⟨w.heap.size,1,none⟩) (by simp) (by simp);have c2:=f1.cell (p:=⟨w.heap.size,2,none⟩) (by simp) (by simp);have c3:=f1.cell (p:=⟨w.heap.size,3,none⟩) (by simp) (by simp);simp at c0 c1 c2 c3;have f2:Fr [] w w1:=((Fr.refl [] w).alloc _).trans f1;clear f1 hl hi;go_wp2_with fail
  all_goals
   go_returns;refine⟨zkr ?_,f2⟩;go_light;rw[HR.out,zkq];clear HR c0 c1 c2 c3 f2 hT;rw[Bool.eq_iff_iff];cases used<;>first|(simp_all;done)|(simp_all;omega)|(simp;omega)
theorem zkt(w:World)(hT:Tabs w)(x:HB)(hx:x.Ok):Calls prog 182 #[x.val] w (zN x.right w):=by
 have hi:=fun w=>zj7 w x.tag;have hl:∀W,Tabs W→Calls prog 268 #[x.val] W (zN (.bool (x.lackTo 12)) W):=fun W h=>zkp W h x hx;have hr:x.right=x.right:=rfl;conv at hr=>rhs;unfold HB.right
 generalize x.right=r at*;generalize x.lackTo 12=L at*;obtain⟨tag,cls,used,label,name,next,prev,refs,expiry,typ,size,hash⟩:=x;simp only[HB.val,HB.cells]at*;by_cases ht:0≤tag∧tag≤2
 ·have b1:(decide (0≤tag)&&decide (tag<3))=true:=by simp;omega
  by_cases h2:size<0
  ·have b2:decide (size<0)=true:=by simpa using h2
   have hr2:r=false:=by rw[hr];simp;omega
   rw[hr2];rw[b1]at hi;clear hr hr2 ht hl;go_in;go_wp2_with (go_at_call 244;refine(hi _).mono ?_;rintro e w' ⟨rfl,rfl⟩);go_returns;exact⟨rfl,by repeat(first|exact Fr.refl _ _|apply Fr.alloc|apply Fr.drew|apply Fr.drewN|(refine Fr.setCell ?_ (Or.inr (by simp)) _))⟩
  ·have b2:decide (size<0)=false:=by simpa using h2
   by_cases h3:480<size
   ·have b3:decide (480<size)=true:=by simpa using h3
    have hr2:r=false:=by rw[hr];simp;omega
    rw[hr2];rw[b1]at hi;clear hr hr2 ht hl;go_in;go_wp2_with (go_at_call 244;refine(hi _).mono ?_;rintro e w' ⟨rfl,rfl⟩);go_returns;exact⟨rfl,by repeat(first|exact Fr.refl _ _|apply Fr.alloc|apply Fr.drew|apply Fr.drewN|(refine Fr.setCell ?_ (Or.inr (by simp)) _))⟩
   ·cases L
    ·have:r=zkq tag cls label used:=by rw[hr];simp;omega
     rw[this];exact zks w tag cls size label used name next prev refs expiry typ hash (by omega) (by omega) (by omega) hl hT
    ·have b3:decide (480<size)=false:=by simpa using h3
     have hr2:r=false:=by rw[hr];simp
     rw[hr2];rw[b1]at hi;clear hr hr2 ht;go_in;go_wp2_with (go_at_call 244;refine(hi _).mono ?_;rintro e w' ⟨rfl,rfl⟩);go_call hl _ (hT.alloc _) as e w1 ⟨rfl,f1⟩;have f2:Fr [] w w1:=((Fr.refl [] w).alloc _).trans f1;clear f1 hl hi;go_wp2;go_returns;exact⟨rfl,f2⟩
 ·have b1:(decide (0≤tag)&&decide (tag<3))=false:=by simp;omega
  have hr2:r=false:=by rw[hr];simp;omega
  rw[hr2];rw[b1]at hi;clear hr hr2 ht hl;go_in;go_wp2_with (go_at_call 244;refine(hi _).mono ?_;rintro e w' ⟨rfl,rfl⟩);go_returns;exact⟨rfl,by repeat(first|exact Fr.refl _ _|apply Fr.alloc|apply Fr.drew|apply Fr.drewN|(refine Fr.setCell ?_ (Or.inr (by simp)) _))⟩
def HB.encTo(x:HB):Nat→List Nat
 |0=>List.replicate (szZ x.tag) 0
 |k+1=>zap (x.encTo k) (whZ x.tag k).1 (x.num k) (whZ x.tag k).2
def HB.enc(x:HB):List Nat:=x.encTo 12
def HB.ofNums(n:Nat→Nat):HB:={tag:=IntKind.i64.wrap (n 0),cls:=IntKind.i64.wrap (n 1),used:=n 2==1,label:=IntKind.i64.wrap (n 3),name:=n 4 %4294967296,next:=n 5 %4294967296,prev:=n 6 %4294967296,refs:=n 11 %4294967296,expiry:=n 7,typ:=n 8 %65536,size:=IntKind.i64.wrap (n 9),hash:=n 10 %4294967296}
theorem zku(w:World)(n:Int):Calls prog 299 #[.int .u64 n] w (zE (IntKind.i64.wrap n) w):=by
 go_in;go_wp2;go_ret;exact⟨zao (IntWalk.i64_left n).symm,rfl⟩
theorem zkv(w:World)(n:Nat):Calls prog 300 #[.int .u64 n] w (zE (.int .u32 ((n %4294967296:Nat):Int)) w):=by
 have hu:=zax n;generalize n %4294967296=m at*;go_in;go_wp2;go_ret;exact⟨rfl,rfl⟩
theorem zkw(w:World)(n:Nat):Calls prog 301 #[.int .u64 n] w (zE (.int .u16 ((n %65536:Nat):Int)) w):=by
 have hu:=zay n;generalize n %65536=m at*;go_in;go_wp2;go_ret;exact⟨rfl,rfl⟩
theorem zkx(w:World)(n0 n1 n2 n3 n4 n5 n6 n7 n8 n9 n10 n11:Nat):Calls prog 246 #[.agg #[.int .u64 (n0:Int),.int .u64 (n1:Int),.int .u64 (n2:Int),.int .u64 (n3:Int),.int .u64 (n4:Int),.int .u64 (n5:Int),.int .u64 (n6:Int),.int .u64 (n7:Int),.int .u64 (n8:Int),.int .u64 (n9:Int),.int .u64 (n10:Int),.int .u64 (n11:Int)]] w (zR (HB.ofNums fun i=> [n0,n1,n2,n3,n4,n5,n6,n7,n8,n9,n10,n11][i]?.getD 0).val fun w'=>Fr [] w w'):=by
 have a0:=fun w=>zku w n0;have a1:=fun w=>zku w n1;have a3:=fun w=>zku w n3;have a9:=fun w=>zku w n9;have e4:=fun w=>zkv w n4;have e5:=fun w=>zkv w n5;have e6:=fun w=>zkv w n6;have e10:=fun w=>zkv w n10;have e11:=fun w=>zkv w n11;have e8:=fun w=>zkw w n8;simp only[HB.ofNums,HB.val,HB.cells,List.getElem?_cons_zero,List.getElem?_cons_succ,Option.getD_some];generalize n4 %4294967296=m4 at*;generalize n5 %4294967296=m5 at*;generalize n6 %4294967296=m6 at*;generalize n10 %4294967296=m10 at*;generalize n11 %4294967296=m11 at*;generalize n8 %65536=m8 at*;generalize IntKind.i64.wrap (n0:Int)=s0 at*;generalize IntKind.i64.wrap (n1:Int)=s1 at*;generalize IntKind.i64.wrap (n3:Int)=s3 at*;generalize IntKind.i64.wrap (n9:Int)=s9 at*;have hb2:((n2:Int)==1)=(n2==1):=by rw[Bool.eq_iff_iff];simp;omega
 go_in;go_wp2_with fail;generalize hw:(w.alloc (.cells #[.int .u64 (n0:Int),.int .u64 (n1:Int),.int .u64 (n2:Int),.int .u64 (n3:Int),.int .u64 (n4:Int),.int .u64 (n5:Int),.int .u64 (n6:Int),.int .u64 (n7:Int),.int .u64 (n8:Int),.int .u64 (n9:Int),.int .u64 (n10:Int),.int .u64 (n11:Int)] 231)).alloc (.cells #[(0:Int),(0:Int),false,(0:Int),.int .u32 0,.int .u32 0,.int .u32 0,.int .u32 0,.int .u64 0,.int .u16 0,(0:Int),.int .u32 0] 122)=w1;refine wp_region_still_tail 36 (by kernel_rfl) (by kernel_rfl) ?_;simp only[List.take_succ_cons,List.take_zero,List.drop_succ_cons,List.drop_zero];have hb:Blk w1.drew w.heap.size 231 #[.int .u64 (n0:Int),.int .u64 (n1:Int),.int .u64 (n2:Int),.int .u64 (n3:Int),.int .u64 (n4:Int),.int .u64 (n5:Int),.int .u64 (n6:Int),.int .u64 (n7:Int),.int .u64 (n8:Int),.int .u64 (n9:Int),.int .u64 (n10:Int),.int .u64 (n11:Int)] :=by rw[←hw];exact((Blk.new w _ _).alloc _).drew
 have hn:Blk w1.drew (w.heap.size+1) 122 #[(0:Int),(0:Int),false,(0:Int),.int .u32 0,.int .u32 0,.int .u32 0,.int .u32 0,.int .u64 0,.int .u16 0,(0:Int),.int .u32 0] :=by rw[←hw,show w.heap.size+1=(w.alloc (.cells #[.int .u64 (n0:Int),.int .u64 (n1:Int),.int .u64 (n2:Int),.int .u64 (n3:Int),.int .u64 (n4:Int),.int .u64 (n5:Int),.int .u64 (n6:Int),.int .u64 (n7:Int),.int .u64 (n8:Int),.int .u64 (n9:Int),.int .u64 (n10:Int),.int .u64 (n11:Int)] 231)).heap.size by simp];exact(Blk.new _ _ _).drew
 have hf:Fr [] w w1.drew:=by rw[←hw];exact(((Fr.refl _ _).alloc _).alloc _).drew
 clear hw;change wpStill _ _ w1.drew (fun a'=>wpList _ _ _ _ a' w1.drew) _ _;generalize w1.drew=w2 at hb hn hf⊢;have c0:=hb.cell 0;have c1:=hb.cell 1;have c2:=hb.cell 2;have c3:=hb.cell 3;have c4:=hb.cell 4;have c5:=hb.cell 5;have c6:=hb.cell 6;have c7:=hb.cell 7;have c8:=hb.cell 8;have c9:=hb.cell 9;have c10:=hb.cell 10;have c11:=hb.cell 11;have d0:=hn.cell 0;have d1:=hn.cell 1;have d2:=hn.cell 2;have d3:=hn.cell 3;have d4:=hn.cell 4;have d5:=hn.cell 5;have d6:=hn.cell 6;have d7:=hn.cell 7;have d8:=hn.cell 8;have d9:=hn.cell 9;have d10:=hn.cell 10;have d11:=hn.cell 11;have z0:=hn.frozen 0;have z1:=hn.frozen 1;have z2:=hn.frozen 2;have z3:=hn.frozen 3;have z4:=hn.frozen 4;have z5:=hn.frozen 5;have z6:=hn.frozen 6;have z7:=hn.frozen 7;have z8:=hn.frozen 8;have z9:=hn.frozen 9;have z10:=hn.frozen 10;have z11:=hn.frozen 11;simp at c0 c1 c2 c3 c4 c5 c6 c7 c8 c9 c10 c11;simp at d0 d1 d2 d3 d4 d5 d6 d7 d8 d9 d10 d11;repeat still_step
 still_call (a0 _);repeat still_step
 still_call (a1 _);repeat still_step
 still_call (a3 _);repeat still_step
 still_call (e4 _);repeat still_step
 still_call (e5 _);repeat still_step
 still_call (e6 _);repeat still_step
 still_call (e8 _);repeat still_step
 still_call (a9 _);repeat still_step
 still_call (e10 _);repeat still_step
 still_call (e11 _);repeat still_step
 refine wpStill_nil ?_;go_wp2;have hn3:=((((((((((((hn.set 0 (.int .i64 s0)).set 1 (.int .i64 s1)).set 2 (.bool (n2==1))).set 3 (.int .i64 s3)).set 4 (.int .u32 m4)).set 5 (.int .u32 m5)).set 6 (.int .u32 m6)).set 7 (.int .u32 m11)).set 8 (.int .u64 n7)).set 9 (.int .u16 m8)).set 10 (.int .i64 s9)).set 11 (.int .u32 m10));have hf3:=((((((((((((hf.setCell (p:=⟨w.heap.size+1,0,none⟩) (.inr (by simp)) (.int .i64 s0)).setCell (p:=⟨w.heap.size+1,1,none⟩) (.inr (by simp)) (.int .i64 s1)).setCell (p:=⟨w.heap.size+1,2,none⟩) (.inr (by simp)) (.bool (n2==1))).setCell (p:=⟨w.heap.size+1,3,none⟩) (.inr (by simp)) (.int .i64 s3)).setCell (p:=⟨w.heap.size+1,4,none⟩) (.inr (by simp)) (.int .u32 m4)).setCell (p:=⟨w.heap.size+1,5,none⟩) (.inr (by simp)) (.int .u32 m5)).setCell (p:=⟨w.heap.size+1,6,none⟩) (.inr (by simp)) (.int .u32 m6)).setCell (p:=⟨w.heap.size+1,7,none⟩) (.inr (by simp)) (.int .u32 m11)).setCell (p:=⟨w.heap.size+1,8,none⟩) (.inr (by simp)) (.int .u64 n7)).setCell (p:=⟨w.heap.size+1,9,none⟩) (.inr (by simp)) (.int .u16 m8)).setCell (p:=⟨w.heap.size+1,10,none⟩) (.inr (by simp)) (.int .i64 s9)).setCell (p:=⟨w.heap.size+1,11,none⟩) (.inr (by simp)) (.int .u32 m10));generalize((((((((((((w2.setCell ⟨w.heap.size+1,0,none⟩ (.int .i64 s0)).setCell ⟨w.heap.size+1,1,none⟩ (.int .i64 s1)).setCell ⟨w.heap.size+1,2,none⟩ (.bool (n2==1))).setCell ⟨w.heap.size+1,3,none⟩ (.int .i64 s3)).setCell ⟨w.heap.size+1,4,none⟩ (.int .u32 m4)).setCell ⟨w.heap.size+1,5,none⟩ (.int .u32 m5)).setCell ⟨w.heap.size+1,6,none⟩ (.int .u32 m6)).setCell ⟨w.heap.size+1,7,none⟩ (.int .u32 m11)).setCell ⟨w.heap.size+1,8,none⟩ (.int .u64 n7)).setCell ⟨w.heap.size+1,9,none⟩ (.int .u16 m8)).setCell ⟨w.heap.size+1,10,none⟩ (.int .i64 s9)).setCell ⟨w.heap.size+1,11,none⟩ (.int .u32 m10))=w3 at hn3 hf3⊢;have q0:=hn3.cell 0;have q1:=hn3.cell 1;have q2:=hn3.cell 2;have q3:=hn3.cell 3;have q4:=hn3.cell 4;have q5:=hn3.cell 5;have q6:=hn3.cell 6;have q7:=hn3.cell 7;have q8:=hn3.cell 8;have q9:=hn3.cell 9;have q10:=hn3.cell 10;have q11:=hn3.cell 11;simp at q0 q1 q2 q3 q4 q5 q6 q7 q8 q9 q10 q11;refine bodyPost_ret (by simp[results,results246,go_sem,q0,q1,q2,q3,q4,q5,q6,q7,q8,q9,q10,q11];try rfl) rfl ?_;exact⟨rfl,hf3⟩
def HB.zero:HB:={tag:=0,cls:=0,used:=false,label:=0,name:=0,next:=0,prev:=0,refs:=0,expiry:=0,typ:=0,size:=0,hash:=0}
def zky:Array Value:= #[.int .i64 0,.int .i64 0,.bool false,.int .i64 0,.int .u32 0,.int .u32 0,.int .u32 0,.int .u32 0,.int .u64 0,.int .u16 0,.int .i64 0,.int .u32 0]
def zkz(n:Nat→Nat)(k:Nat):Array Value:=((List.range 12).map fun i=>Value.int .u64 ((if i<k then n i else 0:Nat):Int)).toArray
theorem zk0(n:Nat→Nat)(k i:Nat)(hi:i<12):(zkz n k)[i]?=some (.int .u64 ((if i<k then n i else 0:Nat):Int)):=by
 simp[zkz,hi]
theorem zk1(n:Nat→Nat)(k:Nat)(hk:k<12):(zkz n k).setIfInBounds k (.int .u64 (n k:Int))=zkz n (k+1):=by
 apply Array.ext_getElem?;intro i;rw[Array.getElem?_setIfInBounds];by_cases hi:i<12
 ·rw[zk0 n _ i hi,zk0 n _ i hi]
  by_cases e:k=i
  ·subst e
   rw[if_pos rfl,if_pos (by simp[zkz];omega),if_pos (by omega)]
  ·rw[if_neg e]
   by_cases c:i<k
   ·rw[if_pos c,if_pos (by omega)]
   ·rw[if_neg c,if_neg (by omega)]
 ·rw[if_neg (by omega),Array.getElem?_eq_none (by simp[zkz];omega),Array.getElem?_eq_none (by simp[zkz];omega)]
theorem zk2(n:Nat→Nat):zkz n 0= #[.int .u64 0,.int .u64 0,.int .u64 0,.int .u64 0,.int .u64 0,.int .u64 0,.int .u64 0,.int .u64 0,.int .u64 0,.int .u64 0,.int .u64 0,.int .u64 0] :=by
 simp[zkz,List.range,List.range.loop]
theorem zk3(n:Nat→Nat):zkz n 12= #[.int .u64 (n 0:Int),.int .u64 (n 1:Int),.int .u64 (n 2:Int),.int .u64 (n 3:Int),.int .u64 (n 4:Int),.int .u64 (n 5:Int),.int .u64 (n 6:Int),.int .u64 (n 7:Int),.int .u64 (n 8:Int),.int .u64 (n 9:Int),.int .u64 (n 10:Int),.int .u64 (n 11:Int)] :=by
 simp[zkz,List.range,List.range.loop]
theorem zk4(n:Nat→Nat):(HB.ofNums fun i=> [n 0,n 1,n 2,n 3,n 4,n 5,n 6,n 7,n 8,n 9,n 10,n 11][i]?.getD 0)=HB.ofNums n:=by
 simp[HB.ofNums]
theorem zk5(w:World)(n:Nat→Nat):Calls prog 246 #[.agg (zkz n 12)] w (zR (HB.ofNums n).val fun w'=>Fr [] w w'):=by
 rw[zk3,←zk4];exact zkx w _ _ _ _ _ _ _ _ _ _ _ _
theorem zk6{w w0:World}{g:Nat}{t:TypeId}{cs:Array Value}{S:List Nat}{v0 v1 v2 v3 v4 v5 v6 v7 v8 v9 v10 v11:Value}(C:World→Prop)(h:Blk w g t cs)(hs:cs.size=12)(hf:Fr S w0 w)(hg:g∈S∨w0.heap.size≤g)
  (K:∀w9,Blk w9 g t #[v0,v1,v2,v3,v4,v5,v6,v7,v8,v9,v10,v11]→Fr S w0 w9→C w9):C ((((((((((((w.setCell ⟨g,0,none⟩ v0).setCell ⟨g,1,none⟩ v1).setCell ⟨g,2,none⟩ v2).setCell ⟨g,3,none⟩ v3).setCell ⟨g,4,none⟩ v4).setCell ⟨g,5,none⟩ v5).setCell ⟨g,6,none⟩ v6).setCell ⟨g,7,none⟩ v7).setCell ⟨g,8,none⟩ v8).setCell ⟨g,9,none⟩ v9).setCell ⟨g,10,none⟩ v10).setCell ⟨g,11,none⟩ v11):=by
 have:=K (w.setCells g 0 [v0,v1,v2,v3,v4,v5,v6,v7,v8,v9,v10,v11]) (by
  have:=h.setCells [v0,v1,v2,v3,v4,v5,v6,v7,v8,v9,v10,v11] 0;rw[zai _ _ (by rw[hs];rfl)]at this;exact this) (hf.setCells hg _ _)
 exact this
theorem zk7(t k:Nat)(ht:t<3)(hk:k<12):whZ t k=wh t k:=by unfold whZ;rw[if_pos (by omega),Int.toNat_natCast,Int.toNat_natCast]
theorem zk8(z:Int)(h: -9223372036854775808≤z∧z≤9223372036854775807):IntKind.i64.wrap (w64 z:Int)=z:=by
 rw[IntKind.wrap_i64,w64];omega
theorem zk9(x:HB)(hx:x.Ok):HB.ofNums x.num=x:=by
 obtain⟨tag,cls,used,label,name,next,prev,refs,expiry,typ,size,hash⟩:=x;obtain⟨h1,h2,h3,h4,h5,h6,h7,h8,h9,h10,h11⟩:=hx;simp only at h1 h2 h3 h4 h5 h6 h7 h8 h9 h10 h11;simp only[HB.ofNums,HB.num,HB.nums,List.getElem?_cons_zero,List.getElem?_cons_succ,Option.getD_some,zk8 _ h1,zk8 _ h2,zk8 _ h3,zk8 _ h10,Nat.mod_eq_of_lt h4,Nat.mod_eq_of_lt h5,Nat.mod_eq_of_lt h6,Nat.mod_eq_of_lt h7,Nat.mod_eq_of_lt h9,Nat.mod_eq_of_lt h11];cases used<;>rfl
theorem zla(x:HB):∀k,x.lackTo k=false→∀f,f<k→(whZ x.tag f).2=0→x.num f=0
 |0,_,f,hf,_=>by omega
 |k+1,h,f,hf,hw=>by
  simp only[HB.lackTo,Bool.or_eq_false_iff]at h;by_cases e:f=k
  ·subst e
   have:=h.2;simp[HB.lackAt,hw]at this;exact this
  ·exact zla x k h.1 f (by omega) hw
theorem zlb(x:HB)(hx:x.Ok)(t:Nat)(ht:t<3)(htag:x.tag=t)(hr:x.right=true)(f:Nat)(hf:f<12)(hw:(wh t f).2≠0):x.num f<256^(wh t f).2:=by
 obtain⟨tag,cls,used,label,name,next,prev,refs,expiry,typ,size,hash⟩:=x;obtain⟨h1,h2,h3,h4,h5,h6,h7,h8,h9,h10,h11⟩:=hx;simp only at h1 h2 h3 h4 h5 h6 h7 h8 h9 h10 h11 htag;subst htag
 have hcl:0≤cls∧cls≤9∧0≤label∧label≤63∧0≤size∧size≤480:=by
  simp only[HB.right,zkq,Bool.and_eq_true,decide_eq_true_eq]at hr;obtain⟨⟨⟨_,_,hs⟩,_⟩,hr⟩:=hr;split at hr
  ·simp at hr;omega
  ·rw[Bool.and_eq_true]at hr
   obtain⟨hr1,hr⟩:=hr;split at hr<;>simp at hr hr1<;>omega
 have hv:∀z:Int,0≤z→z≤480→w64 z≤480:=fun z _ _=>by unfold w64;omega
 have hv2:∀z:Int,0≤z→z≤63→w64 z≤63:=fun z _ _=>by unfold w64;omega
 have c1:=hv2 cls (by omega) (by omega);have c2:=hv2 label (by omega) (by omega);have c3:=hv size (by omega) (by omega);have c4:=hv2 (t:Int) (by omega) (by omega);have c5:(if used=true then 1 else 0:Nat)≤1:=by split<;>omega
 revert hw;rcases t with _|_|_|t<;>try omega
 all_goals
  rcases f with _|_|_|_|_|_|_|_|_|_|_|_|f<;>try omega
  all_goals
   simp only[HB.num,HB.nums,List.getElem?_cons_zero,List.getElem?_cons_succ,Option.getD_some];simp[wh,zj5,ownL];try first|omega|decide
def TM.setB(t:TM)(x k v:Nat):TM:={t with bt:=fun i=>if x≤zdv t.a t.s+i∧zdv t.a t.s+i<x+k then nb v (zdv t.a t.s+i-x)else t.bt i}
def TM.setK(t:TM)(x n k:Nat):TM:={t with kd:=fun g=>if x/4≤zdv t.a t.s/4+g∧zdv t.a t.s/4+g<(x+n)/4 then k else t.kd g}
theorem zlc(v j:Nat):nb v j<256:=Nat.mod_lt _ (by decide)
theorem zld(t u:TM)(ha:u.a=t.a)(hs:u.s=t.s)(hr:u.rt=t.rt)(hh:u.hd=t.hd)(hl:u.sl=t.sl)(i:Nat)(hi:i<zdv t.a t.s)(h:t.Ok):zfz u i=zfz t i:=by
 unfold zfz;rw[ha,hs,hr,hh,hl];by_cases h1:i<128
 ·rw[if_pos h1,if_pos h1]
 ·rw[if_neg h1,if_neg h1]
  by_cases h2:i<zdu t.a
  ·rw[if_pos h2,if_pos h2]
  ·rw[if_neg h2,if_neg h2]
   by_cases h3:i<zdu t.a+4*t.s
   ·rw[if_pos h3,if_pos h3]
   ·rw[if_neg h3,if_neg h3,if_pos hi,if_pos hi]
theorem zle(t:TM)(i:Nat)(hi:zdv t.a t.s≤i)(h:t.Ok):zfz t i=t.bt (i-zdv t.a t.s):=by
 have hz:=zge h.cfg;unfold zfz;rw[if_neg (by omega),if_neg (by omega),if_neg (by omega),if_neg (by omega)]
theorem zlf{t:TM}(h:t.Ok)(x k v:Nat):(t.setB x k v).Ok:=
 ⟨h.cfg,h.rt,h.hd,h.sl,fun i=>by
  show(if _ then _ else _)<256;split
  ·exact zlc _ _
  ·exact h.bt i,h.kd⟩
theorem zlg{t:TM}(h:t.Ok)(x k v:Nat)(hx:zdv t.a t.s≤x)(i:Nat):zfz (t.setB x k v) i=if x≤i∧i<x+k then nb v (i-x)else zfz t i:=by
 by_cases hi:zdv t.a t.s≤i
 ·rw[zle (t.setB x k v) i hi (zlf h x k v),zle t i hi h]
  show(if x≤zdv t.a t.s+(i-zdv t.a t.s)∧zdv t.a t.s+(i-zdv t.a t.s)<x+k then nb v (zdv t.a t.s+(i-zdv t.a t.s)-x)else _)=_;rw[show zdv t.a t.s+(i-zdv t.a t.s)=i by omega];rfl
 ·rw[zld t (t.setB x k v) rfl rfl rfl rfl rfl i (by omega) h,if_neg (by omega)]
theorem zlh(t:TM)(x k v g:Nat):zf0 (t.setB x k v) g=zf0 t g:=rfl
theorem zli{t:TM}(h:t.Ok){x k kind v:Nat}(ha:At t x k kind v)(hx:zdv t.a t.s≤x)(v':Nat)(hv:v'<256^k):t.ms.sto x k kind v'=(t.setB x k v').ms:=
 ha.sto hv rfl rfl rfl rfl (zlg h x k v' hx)
theorem zlj{t:TM}(h:t.Ok)(x n k:Nat)(hk:k≤8):(t.setK x n k).Ok:=
 ⟨h.cfg,h.rt,h.hd,h.sl,h.bt,fun g=>by
  show(if _ then _ else _)≤8;split
  ·exact hk
  ·exact h.kd g⟩
theorem zlk(t:TM)(g:Nat)(hi:zdv t.a t.s≤4*g)(h:t.Ok):zf0 t g=t.kd (g-zdv t.a t.s/4):=by
 have hz:=zge h.cfg;unfold zf0;rw[if_neg (by omega),if_neg (by omega),if_neg (by omega),if_neg (by omega),if_neg (by omega)]
theorem zll(t u:TM)(ha:u.a=t.a)(hs:u.s=t.s)(g:Nat)(hi:4*g<zdv t.a t.s):zf0 u g=zf0 t g:=by
 unfold zf0;rw[ha,hs];by_cases h1:g<2
 ·rw[if_pos h1,if_pos h1]
 rw[if_neg h1,if_neg h1];by_cases h2:g<32
 ·rw[if_pos h2,if_pos h2]
 rw[if_neg h2,if_neg h2];by_cases h3:4*g<zdu t.a
 ·rw[if_pos h3,if_pos h3]
 rw[if_neg h3,if_neg h3];by_cases h4:4*g<zdu t.a+4*t.s
 ·rw[if_pos h4,if_pos h4]
 rw[if_neg h4,if_neg h4,if_pos hi,if_pos hi]
theorem zlm{t:TM}(h:t.Ok)(x n k:Nat)(hk:k≤8)(hx:zdv t.a t.s≤x)(g:Nat):zf0 (t.setK x n k) g=if x/4≤g∧g<(x+n)/4 then k else zf0 t g:=by
 have hz:=zge h.cfg;by_cases hi:zdv t.a t.s≤4*g
 ·rw[zlk (t.setK x n k) g hi (zlj h x n k hk),zlk t g hi h]
  show(if x/4≤zdv t.a t.s/4+(g-zdv t.a t.s/4)∧zdv t.a t.s/4+(g-zdv t.a t.s/4)<(x+n)/4 then k else _)=_;rw[show zdv t.a t.s/4+(g-zdv t.a t.s/4)=g by omega];rfl
 ·rw[zll t (t.setK x n k) rfl rfl g (by omega),if_neg (by omega)]
theorem zln(t:TM)(x n k i:Nat):zfz (t.setK x n k) i=zfz t i:=rfl
theorem zlo{t:TM}(h:t.Ok)(x n k:Nat)(hk:k≤8)(hx:zdv t.a t.s≤x):setR t.kinds (x/4) ((x+n)/4) k=(t.setK x n k).kinds:=by
 apply List.ext_getElem?;intro g;rcases Nat.lt_or_ge g (zdw t.a t.s/4)with hg|hg
 ·rw[zcd _ _ _ _ _ (by rw[TM.kinds_len];exact hg),TM.kinds_get t g hg]
  have e:=TM.kinds_get (t.setK x n k) g hg;have hl:g<(t.setK x n k).kinds.length:=by rw[TM.kinds_len];exact hg
  rw[List.getElem?_eq_getElem hl]at e⊢;rw[zlm h x n k hk hx]at e;simpa using e.symm
 ·rw[List.getElem?_eq_none (by rw[zcc,TM.kinds_len];exact hg),List.getElem?_eq_none (by rw[TM.kinds_len];exact hg)]
theorem zlp(w:World)(q:MH)(z:MS)(h:IsM w q z)(x y:Int)(i j k:Nat)(hij:i≤j)(hj:j≤z.ks.length)(hk:k≤8)(hx:x=4*i)(hy:y=4*j-4*i):Calls prog 132 #[q,x,y,k] w (zR (0:Int) fun w'=>IsM w' q {z with ks:=setR z.ks i j k}∧Fr [q.bw] w w'):=by
 have hn:=h.none;have c0:=h.st.cell 0;obtain⟨lk,hw⟩:=h.wt;have hm:=zcg w q.pw q.bw z.ks lk z.ft x y i j k hw hij hj hk hx hy
 have hP:=(show∀w',IsW w' q.pw q.bw (setR z.ks i j k) lk z.ft→Fr [q.bw] w w'→IsM w' q {z with ks:=setR z.ks i j k}from fun w' hw' hf=>by
  obtain⟨_,n2,_,_,_,_,_,n8,n9,_⟩:=h.nes;have e:z.l.length=4*(setR z.ks i j k).length:=by rw[zcc];exact h.grains
  exact⟨h.st.fr hf (by simpa using n2),⟨lk,hw'⟩,h.ar.fr hf (by simpa using n8.symm) (by simpa using n9.symm),h.ne,h.cfg,h.size,e⟩)
 simp at c0;generalize setR z.ks i j k=ks' at*;clear hw hx hy;go_in;go_wp2_with fail;go_call hn as e w' ⟨rfl,rfl⟩;go_wp2_with fail;go_call hm as e w1 ⟨rfl,h1,f1⟩;go_wp2;go_ret;exact⟨rfl,hP _ h1 f1,f1⟩
theorem Fr.bw{q:MH}{w w':World}(h:Fr [q.bw] w w'):Fr q.blocks w w':=h.mono (fun _ hm=>by simp at hm;simp[MH.blocks,hm])
theorem zlq{w:World}{q:MH}{t:TM}(h:IsT w q t)(x n k:Nat)(hx:zdv t.a t.s≤x)(h4:x %4=0)(hn:n %4=0)(hl:x+n≤zdw t.a t.s)(hk:k≤8)(x' n' k':Int)(ex:x'=x)(en:n'=n)(ek:k'=k):Calls prog 132 #[q,x',n',k'] w (zR (0:Int) fun w'=>IsT w' q (t.setK x n k)∧Fr q.blocks w w'):=by
 subst ek;have h4':=zf9 t.a t.s;refine(zlp w q t.ms h.m x' n' (x/4) ((x+n)/4) k (by omega) (by show _≤t.kinds.length;rw[TM.kinds_len];omega) hk (by omega) (by omega)).mono fun e w' ⟨he,hm,hf⟩=> ?_
 have e2:({t.ms with ks:=setR t.ms.ks (x/4) ((x+n)/4) k}:MS)=(t.setK x n k).ms:=by
  show({a:=t.a,s:=t.s,ks:=setR t.kinds (x/4) ((x+n)/4) k,l:=t.bytes,ft:=t.ft}:MS)=_;rw[zlo h.ok x n k hk hx];rfl
 rw[e2]at hm;exact⟨he,⟨zlj h.ok x n k hk,hm,h.tab.fr hf.bw h.hi,h.hi⟩,hf.bw⟩
theorem zlr(w:World)(q:MH)(z:MS)(h:IsM w q z)(x y:Int):Calls prog 34 #[q,x,y] w (zE (zck z.ks x y) w):=by
 have hn:=h.none;have c0:=h.st.cell 0;obtain⟨lk,hw⟩:=h.wt;have hm:=zcn w q.pw q.bw z.ks lk z.ft x y hw;simp at c0;generalize zck z.ks x y=k at*;clear h hw;go_in;go_wp2_with fail;go_call hn as e w' ⟨rfl,rfl⟩;go_wp2_with fail;go_call hm as e w1 ⟨rfl,rfl⟩;go_wp2;go_ret;exact⟨rfl,rfl⟩
theorem zls{w:World}{q:MH}{t:TM}(h:IsT w q t)(x:Nat)(h4:x %4=0)(hl:x+4≤zdw t.a t.s):Calls prog 34 #[q,x,(4:Int)] w (zE (.int .i64 (zf0 t (x/4))) w):=by
 have h4':=zf9 t.a t.s;have hlen:t.ms.ks.length=zdw t.a t.s/4:=TM.kinds_len t
 have e:zck t.ms.ks x 4=zf0 t (x/4):=by
  unfold zck
  rw[if_neg (by
   rw[hlen];rintro(h|h)
   ·omega
   ·simp[zb5]at h;omega)]
  have e1:((x:Int)/4).toNat=x/4:=by omega
  have e2:(((x:Int)+4+3)/4).toNat=x/4+1:=by omega
  rw[e1,e2];unfold zcj;rw[zch _ _ _ (fun y hy=>by have:y=0:=(by omega);rw[this,Nat.add_zero]),if_pos rfl];exact TM.kinds_get t _ (by omega)
 have:=zlr w q t.ms h.m x 4;rw[e]at this;exact this
structure HeadTo(t:TM)(x tag kind:Nat)(n:Nat→Nat)(m:Nat):Prop where
 tg:tag≤2
 base:zdv t.a t.s≤x
 al:x %8=0
 fit:x+sz tag≤zdw t.a t.s
 k0:kind≠0
 kinds: ∀g,x/4≤g→g<(x+sz tag)/4→zf0 t g=kind
 byte: ∀f,f<m→(wh tag f).2≠0→ ∀j,j<(wh tag f).2→zfz t (x+(wh tag f).1+j)=nb (n f) j
 lt: ∀f,f<m→(wh tag f).2≠0→n f<256^(wh tag f).2
theorem zlt(tag:Nat)(h:tag≤2):sz tag %4=0∧8≤sz tag∧sz tag≤32:=by
 have:∀tag,tag<3→sz tag %4=0∧8≤sz tag∧sz tag≤32:=by decide
 exact this tag (by omega)
theorem zlu(tag f:Nat)(h:tag≤2)(hf:f<12)(h0:(wh tag f).2≠0):((wh tag f).2=1∨(wh tag f).2=2∨(wh tag f).2=4∨(wh tag f).2=8)∧(wh tag f).1 %(wh tag f).2=0∧(wh tag f).1+(wh tag f).2≤sz tag:=by
 have:∀tag,tag<3→∀f,f<12→(wh tag f).2≠0→((wh tag f).2=1∨(wh tag f).2=2∨(wh tag f).2=4∨(wh tag f).2=8)∧(wh tag f).1 %(wh tag f).2=0∧(wh tag f).1+(wh tag f).2≤sz tag:=by decide
 exact this tag (by omega) f hf h0
def zlv(a b:Nat×Nat):Bool:=a.2==0||b.2==0||decide (a.1+a.2≤b.1)||decide (b.1+b.2≤a.1)
theorem zlw(tag f g:Nat)(h:tag≤2)(hf:f<12)(hg:g<12)(hne:f≠g)(h0:(wh tag f).2≠0)(h1:(wh tag g).2≠0):(wh tag f).1+(wh tag f).2≤(wh tag g).1∨(wh tag g).1+(wh tag g).2≤(wh tag f).1:=by
 have key:(List.range 3).all (fun tag=>(List.range 12).all fun f=>(List.range 12).all fun g=>f==g||zlv (wh tag f) (wh tag g))=true:=by decide+kernel
 have k1:=List.all_eq_true.1 key tag (List.mem_range.2 (by omega));have k2:=List.all_eq_true.1 k1 f (List.mem_range.2 hf);have k3:=List.all_eq_true.1 k2 g (List.mem_range.2 hg);simp[zlv]at k3;omega
theorem HeadTo.place{t:TM}{x tag kind:Nat}{n:Nat→Nat}{m:Nat}(h:HeadTo t x tag kind n m)(f:Nat)(hf:f<12)(h0:(wh tag f).2≠0)(v:Nat)(hv:v<256^(wh tag f).2)
  (hb:∀j,j<(wh tag f).2→zfz t (x+(wh tag f).1+j)=nb v j):At t (x+(wh tag f).1) (wh tag f).2 kind v:=by
 obtain⟨h1,h2,h3⟩:=zlu tag f h.tg hf h0;have hs:=zlt tag h.tg;have hal:=h.al;have hfit:=h.fit;refine⟨h1,?_,h.k0,by omega,hv,fun g hg1 hg2=>h.kinds g ?_ ?_,hb⟩
 ·rcases h1 with e|e|e|e<;>rw[e]at h2⊢<;>omega
 ·omega
 ·rcases h1 with e|e|e|e<;>rw[e]at h2 h3 hg2<;>omega
theorem HeadTo.at{t:TM}{x tag kind:Nat}{n:Nat→Nat}{m:Nat}(h:HeadTo t x tag kind n m)(f:Nat)(hf:f<12)(hm:f<m)(h0:(wh tag f).2≠0):At t (x+(wh tag f).1) (wh tag f).2 kind (n f):=
 h.place f hf h0 (n f) (h.lt f hm h0) (h.byte f hm h0)
def rdN(b:Nat→Nat):Nat→Nat
 |0=>0
 |k+1=>rdN b k+b k*256^k
theorem zlx(b:Nat→Nat)(hb:∀j,b j<256):∀k,rdN b k<256^k
 |0=>by simp[rdN]
 |k+1=>by
  have h1:=zlx b hb k;have h2:=hb k;rw[rdN,Nat.pow_succ];have h3:b k*256^k≤255*256^k:=Nat.mul_le_mul_right _ (by omega);omega
theorem zly(b:Nat→Nat)(hb:∀j,b j<256):∀k j,j<k→nb (rdN b k) j=b j
 |0,j,h=>by omega
 |k+1,j,h=>by
  have hp:∀i,0<256^i:=fun i=>Nat.pow_pos (by decide);unfold nb;rw[rdN];by_cases e:j=k
  ·subst e
   rw[Nat.add_mul_div_right _ _ (hp j),Nat.div_eq_of_lt (zlx b hb j),Nat.zero_add,Nat.mod_eq_of_lt (hb j)]
  ·have ih:=zly b hb k j (by omega)
   unfold nb at ih;obtain⟨d,rfl⟩:∃d,k=j+1+d:=⟨k-j-1,by omega⟩;rw[show b (j+1+d)*256^(j+1+d)=b (j+1+d)*256^d*256*256^j by rw[Nat.pow_add,Nat.pow_succ];ac_rfl,Nat.add_mul_div_right _ _ (hp j),Nat.add_mul_mod_self_right,ih]
theorem zlz{t:TM}(h:t.Ok)(i:Nat):zfz t i<256:=by
 unfold zfz zfx zfy;repeat' split
 all_goals first|exact zlc _ _|exact h.bt _|decide
theorem HeadTo.some{t:TM}{x tag kind:Nat}{n:Nat→Nat}{m:Nat}(h:HeadTo t x tag kind n m)(hok:t.Ok)(f:Nat)(hf:f<12)(h0:(wh tag f).2≠0):∃v,At t (x+(wh tag f).1) (wh tag f).2 kind v:=
 ⟨rdN (fun j=>zfz t (x+(wh tag f).1+j)) (wh tag f).2,h.place f hf h0 _ (zlx _ (fun _=>zlz hok _) _) (fun j hj=>(zly _ (fun _=>zlz hok _) _ j hj).symm)⟩
theorem HeadTo.set{t:TM}{x tag kind:Nat}{n:Nat→Nat}{m:Nat}(h:HeadTo t x tag kind n m)(hok:t.Ok)(hm12:m≤12)(f:Nat)(hf:f<12)(h0:(wh tag f).2≠0)(v:Nat)(hv:v<256^(wh tag f).2):HeadTo (t.setB (x+(wh tag f).1) (wh tag f).2 v) x tag kind (up n f v) m:=by
 obtain⟨h1,h2,h3⟩:=zlu tag f h.tg hf h0;have hbase:=h.base;refine⟨h.tg,h.base,h.al,h.fit,h.k0,h.kinds,fun g hg hg0 j hj=> ?_,fun g hg hg0=> ?_⟩
 ·rw[zlg hok _ _ _ (by omega)]
  by_cases e:g=f
  ·subst e
   rw[if_pos (by omega),zf1];congr 1;omega
  ·rw[zf2 _ _ e,if_neg,h.byte g hg hg0 j hj]
   have:=zlw tag f g h.tg hf (by omega) (Ne.symm e) h0 hg0;omega
 ·by_cases e:g=f
  ·subst e;rw[zf1];exact hv
  ·rw[zf2 _ _ e];exact h.lt g hg hg0
theorem HeadTo.more{t:TM}{x tag kind:Nat}{n:Nat→Nat}{m:Nat}(h:HeadTo t x tag kind n m)(h0:(wh tag m).2=0):HeadTo t x tag kind n (m+1):=
 ⟨h.tg,h.base,h.al,h.fit,h.k0,h.kinds,fun g hg hg0=>by
  by_cases e:g=m
  ·subst e;exact absurd h0 hg0
  ·exact h.byte g (by omega) hg0,fun g hg hg0=>by
  by_cases e:g=m
  ·subst e;exact absurd h0 hg0
  ·exact h.lt g (by omega) hg0⟩
theorem HeadTo.next{t:TM}{x tag kind:Nat}{n:Nat→Nat}{m:Nat}(h:HeadTo t x tag kind n m)(hok:t.Ok)(hm:m<12)(h0:(wh tag m).2≠0)(hv:n m<256^(wh tag m).2):HeadTo (t.setB (x+(wh tag m).1) (wh tag m).2 (n m)) x tag kind n (m+1):=by
 obtain⟨h1,h2,h3⟩:=zlu tag m h.tg hm h0;have hbase:=h.base;refine⟨h.tg,h.base,h.al,h.fit,h.k0,h.kinds,fun g hg hg0 j hj=> ?_,fun g hg hg0=> ?_⟩
 ·rw[zlg hok _ _ _ (by omega)]
  by_cases e:g=m
  ·subst e
   rw[if_pos (by omega)];congr 1;omega
  ·rw[if_neg,h.byte g (by omega) hg0 j hj]
   have:=zlw tag m g h.tg hm (by omega) (Ne.symm e) h0 hg0;omega
 ·by_cases e:g=m
  ·subst e;exact hv
  ·exact h.lt g (by omega) hg0
structure IsH(w:World)(q:MH)(t:TM):Prop where
 m:IsT w q t
 tabs:Tabs w
 hi: ∀k∈q.blocks,5≤k
theorem IsH.step{w w':World}{q:MH}{t t':TM}(h:IsH w q t)(ht:IsT w' q t')(hf:Fr q.blocks w w'):IsH w' q t':=⟨ht,h.tabs.fr hf h.hi,h.hi⟩
theorem IsH.fr0{w w':World}{q:MH}{t:TM}(h:IsH w q t)(hf:Fr [] w w'):IsH w' q t:=⟨h.m.fr0 hf,h.tabs.fr hf (by simp),h.hi⟩
theorem IsH.alloc{w:World}{q:MH}{t:TM}(h:IsH w q t)(o:Obj):IsH (w.alloc o) q t:=h.fr0 ((Fr.refl [] w).alloc o)
def Lies(tag kind:Nat)(n:Nat→Nat):Prop:=(kind=5∧n 0=tag)∨(kind≠5∧tag=0)
section
variable{w:World}{q:MH}{t:TM}{x tag kind:Nat}{n:Nat→Nat}{m:Nat}
theorem zl0(h:IsH w q t)(hh:HeadTo t x tag kind n m)(hm:0<m)(hk:Lies tag kind n):Calls prog 243 #[q,x] w (zR (.tuple #[tag,kind]) fun w'=>IsH w' q t∧Fr q.blocks w w'):=by
 have hs:=zlt tag hh.tg;have h8:=hh.al;have hfit:=hh.fit;have hkd:=zls h.m x (by omega) (by omega);rw[hh.kinds (x/4) (Nat.le_refl _) (by omega)]at hkd;rcases hk with⟨rfl,h0⟩|⟨h5,rfl⟩
 ·have hw0:wh tag 0=(0,1):=by
   have:∀tag,tag<3→wh tag 0=(0,1):=by decide
   exact this tag (by have:=hh.tg;omega)
  have ha:=hh.at 0 (by decide) hm (by rw[hw0];decide);rw[hw0,h0]at ha;have hld:=fun W (hW:IsT W q t)=>zgu hW ha;have ht2:=hh.tg;have hcv:IntKind.i64.wrap (tag:Int)=tag:=i6 _;clear hh ha h0 hw0;rw[Nat.add_zero]at hld;go_in;go_wp2_with fail;have hkd':Calls prog 34 #[q,x,(4:Int)] w (zE (5:Int) w):=hkd;go_call hkd' as e w' ⟨rfl,rfl⟩;go_wp2_with fail;have hld':Calls prog 109 #[q,x,(1:Int),(5:Int)] w' fun e w''=>e= .returned (.int .u64 tag)∧IsT w'' q t∧Fr q.blocks w' w'':=hld w' h.m;go_call hld' as e w1 ⟨rfl,h1,f1⟩;go_wp2;go_ret2;exact⟨rfl,h.step h1 f1,f1⟩
 ·have hb:((kind:Int) !=5)=true:=by simp;omega
  clear hh hs hfit;go_in;go_wp2_with fail;go_call hkd as e w' ⟨rfl,rfl⟩;go_wp2;go_ret2;exact⟨rfl,h,Fr.refl _ _⟩
def hvN(tag:Nat)(n:Nat→Nat)(f:Int):Nat:=if(whZ tag f).2=0 then 0 else n f.toNat
theorem zl1{tag:Nat}{f:Int}(h:(whZ tag f).2≠0):∃k:Nat,f=k∧k<12∧whZ tag f=wh tag k:=by
 unfold whZ at h⊢;split at h
 ·next e=>exact⟨f.toNat,by omega,by omega,by rw[if_pos e,Int.toNat_natCast]⟩
 ·exact absurd rfl h
theorem zl2(h:IsH w q t)(hh:HeadTo t x tag kind n 12)(hk:Lies tag kind n)(f:Int):Calls prog 230 #[q,x,f] w (zR (.int .u64 (hvN tag n f)) fun w'=>IsH w' q t∧Fr q.blocks w w'):=by
 have hly:=zl0 h hh (by decide) hk;have hpl:=fun W hW=>zkg W hW tag f;have hlt:=h.m.lt;unfold hvN;by_cases h0:(whZ tag f).2=0
 ·rw[if_pos h0]
  rw[zkk tag f h0]at hpl;clear hh hk h0;simp only[rowV]at hpl;go_in;go_wp2_with fail;go_call hly as e w1 ⟨rfl,h1,f1⟩;go_wp2_with fail;go_call hpl _ h1.tabs as e w2 ⟨rfl,f2⟩;have h2:=h1.fr0 f2;have n0:=(h2.alloc (.cells #[(0:Int),(0:Int)] 234)).tabs.now 0;have n1:=(h2.alloc (.cells #[(0:Int),(0:Int)] 234)).tabs.now 1;have hE:∀w,(Op.equalIn 10000 234 (.agg #[(0:Int),(0:Int)]) (.agg #[(0:Int),(0:Int)])).run prog w= .ok true w:=fun w=>zkn 0 0 0 0 w;simp[nowT,zj6]at n0 n1;clear h1 hpl hly;go_wp2;go_ret;exact⟨rfl,h2.alloc _,(f1.trans f2.nil).alloc _⟩
 ·rw[if_neg h0]
  obtain⟨k,rfl,hk12,hwk⟩:=zl1 h0;rw[hwk]at h0 hpl;have ha:=hh.at k hk12 hk12 h0;have hld:=fun W (hW:IsT W q t)=>zgu hW ha;obtain⟨hk1,hk2,hk3⟩:=zlu tag k hh.tg hk12 h0;have hs:=zlt tag hh.tg;have hfit:=hh.fit
  have hls:zdw t.a t.s≤1099511627776:=by
   have:=h.m.ok.cfg;obtain⟨_,_,c3,c4,c5⟩:=this;unfold zdw zdv;omega
  rw[Int.toNat_natCast];clear hh hk ha hwk;generalize wh tag k=ab at*;obtain⟨a,b⟩:=ab;simp only[rowV]at hpl;simp only at h0 hld hk1 hk2 hk3;generalize n k=v at*;have hb0:((b:Int)==0)=false:=by simp;omega
  have hw1:=i6 ((x:Int)+a)
  have hld':∀W,IsT W q t→Calls prog 109 #[q,((x:Int)+a:),b,kind] W fun e w''=>e= .returned (.int .u64 v)∧IsT w'' q t∧Fr q.blocks W w'':=fun W hW=>by
   have:=hld W hW;rw[Int.natCast_add]at this;exact this
  clear hld hs hfit hk1 hk2 hk3;go_in;go_wp2_with fail;go_call hly as e w1 ⟨rfl,h1,f1⟩;go_wp2_with fail;go_call hpl _ h1.tabs as e w2 ⟨rfl,f2⟩;have h2:=h1.fr0 f2;have n0:=(h2.alloc (.cells #[a,b] 234)).tabs.now 0;have n1:=(h2.alloc (.cells #[a,b] 234)).tabs.now 1;have hE:∀w,(Op.equalIn 10000 234 (.agg #[a,b]) (.agg #[(0:Int),(0:Int)])).run prog w= .ok false w:=fun w=>by rw[zkn,hb0,Bool.and_false]
  simp[nowT,zj6]at n0 n1;have H2:=h2.alloc;clear h1 h2 hpl hly;go_wp2_with fail;go_call hld' _ (H2 _).m as e w3 ⟨rfl,h3,f3⟩;go_wp2;go_ret;exact⟨rfl,(H2 _).step h3 f3,((f1.trans f2.nil).alloc _).trans f3⟩
theorem At.sto_bad{t:TM}{x k kind v:Nat}(h:At t x k kind v){v':Nat}(hv:¬v'<256^k):t.ms.sto x k kind v'=t.ms∧t.ms.stB x k kind v'=false:=by
 have hk:widB k=true:=by have:=h.wid;simp[widB];omega
 have hf:zct v' k=false:=by simp[zct,hk];omega
 have hp:za6 t.ms.l.length x k≠2:=by
  rw[zf5 _ _ _ h.wid h.div (by show _≤t.bytes.length;rw[TM.bytes_len];exact h.fit)];decide
 have hE:putE t.ms.l x k v'=2:=by unfold putE;rw[if_pos ⟨hp,hf⟩]
 constructor
 ·unfold MS.sto
  rw[h.may,if_pos rfl,if_pos rfl];unfold putL;rw[hE,if_neg (by decide)]
 ·unfold MS.stB
  rw[h.may,hE];rfl
theorem zl3(h:IsT w q t){k v v':Nat}(ha:At t x k kind v)(hv:¬v'<256^k)(h64:v'<18446744073709551616):Calls prog 165 #[q,x,k,kind,.int .u64 v'] w (zR false fun w'=>IsT w' q t∧Fr q.blocks w w'):=by
 refine(zeu w q t.ms h.m x k kind v' h64).mono fun e w' ⟨he,hm,hf⟩=> ?_;obtain⟨e1,e2⟩:=ha.sto_bad hv;rw[e2]at he;rw[e1]at hm;exact⟨he,⟨h.ok,hm,h.tab.fr hf.pwga h.hi,h.hi⟩,hf.pwga⟩
def hstB(tag:Nat)(f:Int)(v:Nat):Bool:=(whZ tag f).2 !=0&&decide (v<256^(whZ tag f).2)
def TM.hst(t:TM)(x tag:Nat)(f:Int)(v:Nat):TM:=if hstB tag f v then t.setB (x+(whZ tag f).1) (whZ tag f).2 v else t
theorem HeadTo.hst{n:Nat→Nat}(hh:HeadTo t x tag kind n 12)(hok:t.Ok)(f:Int)(v:Nat):HeadTo (t.hst x tag f v) x tag kind (if hstB tag f v then up n f.toNat v else n) 12∧(t.hst x tag f v).Ok:=by
 unfold TM.hst;by_cases hb:hstB tag f v=true
 ·rw[if_pos hb,if_pos hb]
  simp[hstB]at hb;obtain⟨k,rfl,hk,hw⟩:=zl1 hb.1;rw[hw]at hb⊢;rw[Int.toNat_natCast];exact⟨hh.set hok (Nat.le_refl _) k hk hb.1 v hb.2,zlf hok _ _ _⟩
 ·rw[if_neg hb,if_neg hb]
  exact⟨hh,hok⟩
theorem zl4(h:IsH w q t)(hh:HeadTo t x tag kind n 12)(hk:Lies tag kind n)(f:Int)(v:Nat)(hv:v<18446744073709551616):Calls prog 231 #[q,x,f,.int .u64 v] w (zR (.bool (hstB tag f v)) fun w'=>IsH w' q (t.hst x tag f v)∧Fr q.blocks w w'):=by
 have hly:=zl0 h hh (by decide) hk;have hpl:=fun W hW=>zkg W hW tag f;by_cases h0:(whZ tag f).2=0
 ·have e1:hstB tag f v=false:=by simp[hstB,h0]
  have e2:t.hst x tag f v=t:=by unfold TM.hst;rw[e1];rfl
  rw[e1,e2];rw[zkk tag f h0]at hpl;clear hh hk h0 e1 e2;simp only[rowV]at hpl;go_in;go_wp2_with fail;go_call hly as e w1 ⟨rfl,h1,f1⟩;go_wp2_with fail;go_call hpl _ h1.tabs as e w2 ⟨rfl,f2⟩;have h2:=h1.fr0 f2;have n0:=(h2.alloc (.cells #[(0:Int),(0:Int)] 234)).tabs.now 0;have n1:=(h2.alloc (.cells #[(0:Int),(0:Int)] 234)).tabs.now 1;have hE:∀w,(Op.equalIn 10000 234 (.agg #[(0:Int),(0:Int)]) (.agg #[(0:Int),(0:Int)])).run prog w= .ok true w:=fun w=>zkn 0 0 0 0 w;simp[nowT,zj6]at n0 n1;clear h1 hpl hly;go_wp2;go_ret;exact⟨rfl,h2.alloc _,(f1.trans f2.nil).alloc _⟩
 ·have e0:∀b,decide (v<256^(whZ tag f).2)=b→hstB tag f v=b:=fun b hb=>by unfold hstB;rw[hb];simp[h0]
  obtain⟨k,rfl,hk12,hwk⟩:=zl1 h0;have ha:=hh.at k hk12 hk12 (by rw[←hwk];exact h0)
  have hld:∀W,IsT W q t→Calls prog 165 #[q,.int .i64 (x+(wh tag k).1:Nat),.int .i64 (wh tag k).2,kind,.int .u64 v] W fun e w''=>e= .returned (.bool (hstB tag k v))∧IsT w'' q (t.hst x tag k v)∧Fr q.blocks W w'':=fun W hW=>by
   by_cases hvb:v<256^(wh tag k).2
   ·have e1:=e0 true (by rw[hwk];simpa using hvb)
    have e2:t.hst x tag k v=t.setB (x+(wh tag k).1) (wh tag k).2 v:=by unfold TM.hst;rw[e1,hwk];rfl
    rw[e1,e2];exact zgv hW ha hvb (zlf hW.ok _ _ _) (zli hW.ok ha (by have:=hh.base;omega) v hvb)
   ·have e1:=e0 false (by rw[hwk];simpa using hvb)
    have e2:t.hst x tag k v=t:=by unfold TM.hst;rw[e1];rfl
    rw[e1,e2];exact zl3 hW ha hvb hv
  obtain⟨hk1,hk2,hk3⟩:=zlu tag k hh.tg hk12 (by rw[←hwk];exact h0);have hs:=zlt tag hh.tg;have hfit:=hh.fit
  have hls:zdw t.a t.s≤1099511627776:=by
   obtain⟨_,_,c3,c4,c5⟩:=h.m.ok.cfg;unfold zdw zdv;omega
  rw[hwk]at h0 hpl;clear hh hk ha hwk e0;generalize hstB tag k v=r at*;generalize t.hst x tag k v=t' at*;generalize wh tag k=ab at*;obtain⟨a,b⟩:=ab;simp only[rowV]at hpl;simp only at h0 hld hk1 hk2 hk3;have hb0:((b:Int)==0)=false:=by simp;omega
  have hw1:=i6 ((x:Int)+a)
  have hld':∀W,IsT W q t→Calls prog 165 #[q,((x:Int)+a:),b,kind,.int .u64 v] W fun e w''=>e= .returned r∧IsT w'' q t'∧Fr q.blocks W w'':=fun W hW=>by
   have:=hld W hW;rw[Int.natCast_add]at this;exact this
  clear hld hs hfit hk1 hk2 hk3;go_in;go_wp2_with fail;go_call hly as e w1 ⟨rfl,h1,f1⟩;go_wp2_with fail;go_call hpl _ h1.tabs as e w2 ⟨rfl,f2⟩;have h2:=h1.fr0 f2;have n0:=(h2.alloc (.cells #[a,b] 234)).tabs.now 0;have n1:=(h2.alloc (.cells #[a,b] 234)).tabs.now 1;have hE:∀w,(Op.equalIn 10000 234 (.agg #[a,b]) (.agg #[(0:Int),(0:Int)])).run prog w= .ok false w:=fun w=>by rw[zkn,hb0,Bool.and_false]
  simp[nowT,zj6]at n0 n1;have H2:=h2.alloc;clear h1 h2 hpl hly;go_wp2_with fail;go_call hld' _ (H2 _).m as e w3 ⟨rfl,h3,f3⟩;go_wp2;go_ret;exact⟨rfl,(H2 _).step h3 f3,((f1.trans f2.nil).alloc _).trans f3⟩
end
def TM.putH(t:TM)(x tag:Nat)(n:Nat→Nat):Nat→TM
 |0=>t
 |k+1=>if(wh tag k).2=0 then t.putH x tag n k else(t.putH x tag n k).setB (x+(wh tag k).1) (wh tag k).2 (n k)
theorem zl5(t:TM)(x tag:Nat)(n:Nat→Nat):∀k,(t.putH x tag n k).a=t.a∧(t.putH x tag n k).s=t.s
 |0=>⟨rfl,rfl⟩
 |k+1=>by
  rw[TM.putH];split
  ·exact zl5 t x tag n k
  ·exact zl5 t x tag n k
theorem zl6{t:TM}(h:t.Ok)(x tag:Nat)(n:Nat→Nat):∀k,(t.putH x tag n k).Ok
 |0=>h
 |k+1=>by
  rw[TM.putH];split
  ·exact zl6 h x tag n k
  ·exact zlf (zl6 h x tag n k) _ _ _
theorem zl7{t:TM}(hok:t.Ok){x tag kind:Nat}{n n':Nat→Nat}(hh:HeadTo t x tag kind n' 0)(hn:∀f,f<12→(wh tag f).2≠0→n f<256^(wh tag f).2):∀k,k≤12→HeadTo (t.putH x tag n k) x tag kind n k
 |0,_=>⟨hh.tg,hh.base,hh.al,hh.fit,hh.k0,hh.kinds,fun f hf=>by omega,fun f hf=>by omega⟩
 |k+1,hk=>by
  have ih:=zl7 hok hh hn k (by omega);rw[TM.putH];split
  ·next h0=>exact ih.more h0
  ·next h0=>exact ih.next (zl6 hok x tag n k) (by omega) h0 (hn k (by omega) h0)
def PutP(w:World)(q:MH)(t':TM)(e:Ending)(w':World):Prop:=e= .returned (0:Int)∧IsH w' q t'∧Fr q.blocks w w'
def zl8(w:World)(B:Nat)(q:MH)(t:TM)(x tag:Nat)(X:HB)(v:Value)(wr:World):Prop:=
 ∃k:Nat,k≤12∧v= .int .i64 k∧IsH wr q (t.putH x tag X.num k)∧Fr q.blocks w wr∧Blk wr B 122 X.cells
theorem zl9(w:World)(q:MH)(t:TM)(h:IsH w q t)(x tag kind:Nat)(n':Nat→Nat)(hh:HeadTo t x tag kind n' 0)(X:HB)(hX:X.Ok)(hr:X.right=true)(ht:X.tag=tag)(hk:(kind=6∧tag=0)∨(kind=5∧tag≠0)):Calls prog 88 #[q,x,X.val] w (PutP w q (t.putH x tag X.num 12)):=by
 have hR:=fun W h=>zkt W h X hX;rw[hr]at hR;have hN:=fun W=>zkj W X hX;obtain⟨arr,hA,hs,hg⟩:=zkl X;rw[hA]at hN;have HG:=hid hg;have hfit:∀f,f<12→(wh tag f).2≠0→X.num f<256^(wh tag f).2:=fun f hf h0=>zlb X hX tag (by have:=hh.tg;omega) ht hr f hf h0;have HHD:=fun k (hk:k≤12)=>zl7 h.m.ok hh hfit k hk;have HOK:=fun k=>zl6 h.m.ok x tag X.num k;have HAS:=hid (fun k=>zl5 t x tag X.num k);have HFIT:=hid hfit;have HI:=h;have hlt:=h.m.lt;have hpl:=fun W h (f:Nat)=>zkg W h tag f;have hP:=show∀w',IsH w' q (t.putH x tag X.num 12)→Fr q.blocks w w'→PutP w q (t.putH x tag X.num 12) (.returned (0:Int)) w' from fun w' a b=>⟨rfl,a,b⟩;generalize PutP w q (t.putH x tag X.num 12)=P at*
 have HST:=hid (show∀k:Nat,k<12→(wh tag k).2≠0→∀W,IsH W q (t.putH x tag X.num k)→Calls prog 165 #[q,((x:Int)+((wh tag k).1:Nat):),.int .i64 (wh tag k).2,kind,.int .u64 (X.num k)] W fun e w''=>e= .returned true∧IsT w'' q (t.putH x tag X.num (k+1))∧Fr q.blocks W w'' from fun k hk h0 W hW=>by
  have hd:=HHD k (by omega);obtain⟨v,ha⟩:=hd.some (HOK k) k hk h0;have e1:t.putH x tag X.num (k+1)=(t.putH x tag X.num k).setB (x+(wh tag k).1) (wh tag k).2 (X.num k):=by rw[TM.putH,if_neg h0]
  rw[e1,←Int.natCast_add];exact zgv hW.m ha (hfit k hk h0) (zlf (HOK k) _ _ _) (zli (HOK k) ha (by have:=hd.base;omega) _ (hfit k hk h0)))
 have HSK:=hid (show∀k:Nat,(wh tag k).2=0→t.putH x tag X.num (k+1)=t.putH x tag X.num k from fun k h0=>by rw[TM.putH,if_pos h0])
 have hls:x+32≤1099511627776:=by
  obtain⟨_,_,c3,c4,c5⟩:=h.m.ok.cfg;have:=hh.fit;unfold zdw zdv at this;omega
 have hval:X.val= .agg #[tag,X.cls,X.used,X.label,.int .u32 X.name,.int .u32 X.next,.int .u32 X.prev,.int .u32 X.refs,.int .u64 X.expiry,.int .u16 X.typ,X.size,.int .u32 X.hash] :=by rw[←ht];rfl
 have hcells:X.cells= #[.int .i64 tag,.int .i64 X.cls,.bool X.used,.int .i64 X.label,.int .u32 X.name,.int .u32 X.next,.int .u32 X.prev,.int .u32 X.refs,.int .u64 X.expiry,.int .u16 X.typ,.int .i64 X.size,.int .u32 X.hash] :=by rw[←ht];rfl
 rw[hval]at hR hN⊢;have HCE:=hid hcells;have hbq:w.heap.size∉q.blocks:=fun hm=>by have:=hlt _ hm;omega
 have HBQ:=hid hbq;have ht2:=hh.tg
 have hkb:(((tag:Int)==0)=true∧(kind:Int)=6)∨(((tag:Int)==0)=false∧(kind:Int)=5):=by
  rcases hk with⟨a,b⟩|⟨a,b⟩
  ·exact .inl ⟨by simpa using b,by omega⟩
  ·exact .inr ⟨by simpa using b,by omega⟩
 have HREL:=hid (show∀B v wr,zl8 w B q t x tag X v wr=(∃k:Nat,k≤12∧v= .int .i64 k∧IsH wr q (t.putH x tag X.num k)∧Fr q.blocks w wr∧Blk wr B 122 X.cells)from fun _ _ _=>rfl);generalize zl8 w=REL at*;clear hval hr hX hcells h hg hA hs hfit ht hlt hbq hk;rcases hkb with⟨htb,hkk⟩|⟨htb,hkk⟩
 all_goals
  have HST:=hid (fun k hk h0 W hW=>by have:=HST.out k hk h0 W hW;rw[hkk]at this;exact this);clear hkk;go_in;go_wp2_with fail;go_call hR _ (HI.alloc _).tabs as e w1 ⟨rfl,f1⟩;have hB1:Blk w1 w.heap.size 122 X.cells:=by rw[HCE.out];exact(Blk.new w _ _).fr f1 (by simp)
  have hF1:Fr [] w w1:=((Fr.refl [] w).alloc _).trans f1;have hI1:=HI.fr0 hF1;have h0:=hB1.cell 0;rw[HCE.out]at h0;simp at h0;clear f1 hR;have hcs:∀i,w1.cell? ⟨w.heap.size,i,none⟩=(#[.int .i64 tag,.int .i64 X.cls,.bool X.used,.int .i64 X.label,.int .u32 X.name,.int .u32 X.next,.int .u32 X.prev,.int .u32 X.refs,.int .u64 X.expiry,.int .u16 X.typ,.int .i64 X.size,.int .u32 X.hash] :Array Value)[i]?:=fun i=>by rw[←HCE.out];exact hB1.cell i
  go_wp2_with fail;go_call hN _ as e w2 ⟨rfl,f2⟩;have hF2:=hF1.trans f2;have hI2:=hI1.fr0 f2;have hB2:=hB1.fr f2 (by simp);clear f2 hN hF1 hB1 hI1 hcs h0;go_wp2;go_loopw [19] (fun v W=>REL w.heap.size q t x tag X v W) (fun v _=>12-(intOf v).toNat);case atStart=>rw[HREL.out];exact⟨0,by omega,rfl,hI2,hF2.nil,hB2⟩
  case round=>
   clear hF2 hI2 hB2;rw[HREL.out]at hrel;obtain⟨k,hk,rfl,hI,hF,hB⟩:=hrel;have h0:=hB.cell 0;rw[HCE.out]at h0;simp at h0;by_cases hlt:k<12
   ·have hix:=zkm arr k hlt (X.num k) (HG.out k hlt)
    have hp:=fun W h=>hpl W h k;by_cases hw:(wh tag k).2=0
    ·have hwz:whZ tag k=(0,0):=zkk tag k (by rw[zk7 tag k (by omega) hlt];exact hw)
     rw[hwz]at hp;simp only[rowV]at hp;have hsk:=hid (HSK.out k hw);have hE:∀w,(Op.equalIn 10000 234 (.agg #[(0:Int),(0:Int)]) (.agg #[(0:Int),(0:Int)])).run prog w= .ok true w:=fun w=>zkn 0 0 0 0 w;clear hpl hwz hw;generalize X.num k=nv at*;go_wp2_with fail;go_call hp _ hI.tabs as e w3 ⟨rfl,f3⟩;have hI3:=(hI.fr0 f3).alloc (.cells #[(0:Int),(0:Int)] 234);have n0:=hI3.tabs.now 0;have n1:=hI3.tabs.now 1;simp[nowT,zj6]at n0 n1;have hF3:=(hF.trans f3.nil).alloc (.cells #[(0:Int),(0:Int)] 234);have hB3:=(hB.fr f3 (by simp)).alloc (.cells #[(0:Int),(0:Int)] 234);clear f3 h0 hix hp;go_wp2;rw[HREL.out];exact⟨⟨k+1,by omega,by go_num,by rw[hsk.out];exact hI3,hF3,hB3⟩,by simp[intOf];omega⟩
    ·have hwz:whZ tag k=wh tag k:=zk7 tag k (by omega) hlt
     rw[hwz]at hp;obtain⟨hk1,hk2,hk3⟩:=zlu tag k ht2 hlt hw;have hs:=zlt tag ht2;have hst:=HST.out k hlt hw;generalize hT2:t.putH x tag X.num (k+1)=t2 at*;have HT2:=hid hT2;clear hpl hwz hT2;generalize wh tag k=ab at*;obtain⟨a,b⟩:=ab;simp only[rowV]at hp;simp only at hk1 hk2 hk3 hw hst;have hb0:((b:Int)==0)=false:=by simp;omega
     have hw1:=i6 ((x:Int)+a);have hE:∀w,(Op.equalIn 10000 234 (.agg #[a,b]) (.agg #[(0:Int),(0:Int)])).run prog w= .ok false w:=fun w=>by rw[zkn,hb0,Bool.and_false]
     generalize X.num k=nv at*;clear hk1 hk2 hw;go_wp2_with fail;go_call hp _ hI.tabs as e w3 ⟨rfl,f3⟩;have hI3:=(hI.fr0 f3).alloc (.cells #[a,b] 234);have n0:=hI3.tabs.now 0;have n1:=hI3.tabs.now 1;simp[nowT,zj6]at n0 n1;have hF3:=(hF.trans f3.nil).alloc (.cells #[a,b] 234);have hB3:=(hB.fr f3 (by simp)).alloc (.cells #[a,b] 234);clear f3 h0 hix hp;go_wp2_with fail;go_call hst _ hI3 as e w4 ⟨rfl,h4,f4⟩;have hI4:=hI3.step h4 f4;have hF4:=hF3.trans f4;have hB4:=hB3.fr f4 HBQ.out;clear h4 f4 hst;go_wp2;rw[HREL.out];exact⟨⟨k+1,by omega,by go_num,by rw[HT2.out];exact hI4,hF4,hB4⟩,by simp[intOf];omega⟩
   ·obtain rfl:k=12:=by omega
    clear hpl;go_wp2;exact hP _ hI hF
theorem zma(w:World)(q:MH)(t:TM)(h:IsH w q t)(x a b kind v:Nat)(hat:At t (x+a) b kind v):Calls prog 245 #[q,x,.agg #[a,b],kind] w (zR (.tuple #[.int .u64 v,true]) fun w'=>IsH w' q t∧Fr q.blocks w w'):=by
 have hfa:=fun W (hW:IsT W q t)=>zgz hW
 have hld:∀W,IsT W q t→Calls prog 109 #[q,((x:Int)+a:),b,kind] W fun e w''=>e= .returned (.int .u64 v)∧IsT w'' q t∧Fr q.blocks W w'':=fun W hW=>by
  have:=zgu hW hat;rw[Int.natCast_add]at this;exact this
 have hls:x+a≤1099511627776:=by
  obtain⟨_,_,c3,c4,c5⟩:=h.m.ok.cfg;have:=hat.fit;unfold zdw zdv at this;omega
 have hw1:=i6 ((x:Int)+a);have hlt:=h.m.lt;generalize t.ft=ft at*;clear hat hlt;go_in;go_wp2_with fail;go_call hfa _ (h.alloc _).m as e w1 ⟨rfl,f1⟩;have hF1:=((Fr.refl [] w).alloc (.cells #[a,b] 234)).trans f1;have hI1:=h.fr0 hF1;have hB1:=(Blk.new w 234 #[.int .i64 a,.int .i64 b]).fr f1 (by simp);have c0:=hB1.cell 0;have c1:=hB1.cell 1;simp at c0 c1;clear f1 hB1;go_wp2_with fail;go_call hld _ hI1.m as e w2 ⟨rfl,h2,f2⟩;have hI2:=hI1.step h2 f2;have hF2:=hF1.nil.trans f2;clear h2 f2 c0 c1 hld;go_wp2_with fail;go_call hfa _ hI2.m as e w3 ⟨rfl,f3⟩;go_wp2;go_ret2;exact⟨rfl,hI2.fr0 f3,hF2.trans f3.nil⟩
def GetP(w:World)(q:MH)(t:TM)(X:HB)(e:Ending)(w':World):Prop:=e= .returned (.tuple #[X.val,(0:Int)])∧IsH w' q t∧Fr q.blocks w w'
def zmb(w:World)(q:MH)(t:TM)(B B2:Nat)(N:Nat→Nat)(v:Value)(wr:World):Prop:=
 ∃k:Nat,k≤12∧v= .int .i64 k∧IsH wr q t∧Fr q.blocks w wr∧Blk wr B 122 zky∧Blk wr B2 231 (zkz N k)
theorem hget(w:World)(q:MH)(t:TM)(h:IsH w q t)(x tag kind:Nat)(X:HB)(hh:HeadTo t x tag kind X.num 12)(hX:X.Ok)(hr:X.right=true)(ht:X.tag=tag)(hly:Lies tag kind X.num)(hk:kind=5∨kind=6):Calls prog 138 #[q,x] w (GetP w q t X):=by
 have HLY:=hid (fun W (hW:IsH W q t)=>zl0 hW hh (by decide) hly);have hi:=fun w=>zj7 w (tag:Nat);have ht2:=hh.tg;have b1:(decide (0≤(tag:Int))&&decide ((tag:Int)<3))=true:=by simp;omega
 rw[b1]at hi
 have hkk:((kind:Int) !=5)=false∨(((kind:Int) !=5)=true∧((kind:Int) !=6)=false):=by
  rcases hk with e|e
  ·exact .inl (by rw[e];rfl)
  ·exact .inr ⟨by rw[e];rfl,by rw[e];rfl⟩
 have hlack:X.lackTo 12=false:=by
  have:X.right=true:=hr;unfold HB.right at this;revert this;cases hl:X.lackTo 12
  ·intro;rfl
  ·intro h;simp[hl]at h
 have HL0:=hid (show∀f,f<12→(wh tag f).2=0→X.num f=0 from fun f hf h0=>zla X 12 hlack f hf (by rw[ht,zk7 tag f (by omega) hf];exact h0))
 have HTO:=hid (show∀k:Nat,k<12→(wh tag k).2≠0→∀W,IsH W q t→Calls prog 245 #[q,x,.agg #[.int .i64 (wh tag k).1,.int .i64 (wh tag k).2],kind] W (zR (.tuple #[.int .u64 (X.num k),true]) fun w'=>IsH w' q t∧Fr q.blocks W w')from
  fun k hk h0 W hW=>zma W q t hW x _ _ kind _ (hh.at k hk hk h0))
 have hbl:=fun W=>zk5 W X.num;rw[zk9 X hX]at hbl;have hrt:=fun W h=>zkt W h X hX;rw[hr]at hrt;have hpl:=fun W h (f:Nat)=>zkg W h tag f
 have h2:decide ((1:Int)<(X.num 2:Nat))=false:=by
  have:X.num 2≤1:=by unfold HB.num HB.nums;simp;split<;>omega
  simp;omega
 have HZ:=hid (zk2 X.num);have HI:=h;have hlt:=h.m.lt;have HBQ:=hid (show∀k,w.heap.size≤k→k∉q.blocks from fun k hk hm=>by have:=hlt _ hm;omega);have HHI:=hid h.hi;have hDR:=hid (show∀B B2 v wr,zmb w q t B B2 X.num v wr=(∃k:Nat,k≤12∧v= .int .i64 k∧IsH wr q t∧Fr q.blocks w wr∧Blk wr B 122 zky∧Blk wr B2 231 (zkz X.num k))from fun _ _ _ _=>rfl);generalize zmb w q t=R at*;have hval:X.val= .agg #[tag,X.cls,X.used,X.label,.int .u32 X.name,.int .u32 X.next,.int .u32 X.prev,.int .u32 X.refs,.int .u64 X.expiry,.int .u16 X.typ,X.size,.int .u32 X.hash] :=by rw[←ht];rfl
 have hcells:X.cells= #[.int .i64 tag,.int .i64 X.cls,.bool X.used,.int .i64 X.label,.int .u32 X.name,.int .u32 X.next,.int .u32 X.prev,.int .u32 X.refs,.int .u64 X.expiry,.int .u16 X.typ,.int .i64 X.size,.int .u32 X.hash] :=by rw[←ht];rfl
 have hP:=show∀w',IsH w' q t→Fr q.blocks w w'→GetP w q t X (.returned (.tuple #[.agg #[tag,X.cls,X.used,X.label,.int .u32 X.name,.int .u32 X.next,.int .u32 X.prev,.int .u32 X.refs,.int .u64 X.expiry,.int .u16 X.typ,X.size,.int .u32 X.hash],(0:Int)])) w' from fun w' a b=>⟨by rw[←hval],a,b⟩;rw[hval]at hbl hrt;generalize GetP w q t X=P at*;have hzz:zky= #[.int .i64 0,.int .i64 0,.bool false,.int .i64 0,.int .u32 0,.int .u32 0,.int .u32 0,.int .u32 0,.int .u64 0,.int .u16 0,.int .i64 0,.int .u32 0] :=rfl;have HZZ:=hid hzz;have HCE:=hid hcells;clear b1 h hh hX hr ht hly hlack hval hcells hzz hlt hk;rcases hkk with hk1|⟨hk1,hk2⟩
 all_goals
  go_in;go_wp2_with fail;go_call HLY.out _ (HI.alloc _) as e w1 ⟨rfl,h1,f1⟩;have hF1:=((Fr.refl q.blocks w).alloc (.cells zky 122)).trans f1;have hB1:=(Blk.new w 122 zky).fr f1 (HBQ.out _ (Nat.le_refl _));clear f1;go_wp2_with fail;go_call hi _ as e w' ⟨rfl,rfl⟩;have hN1:=Blk.new w' 231 #[.int .u64 0,.int .u64 0,.int .u64 0,.int .u64 0,.int .u64 0,.int .u64 0,.int .u64 0,.int .u64 0,.int .u64 0,.int .u64 0,.int .u64 0,.int .u64 0];have hBN:w.heap.size<w'.heap.size:=hB1.lt
  have START:R w.heap.size w'.heap.size X.num (.int .i64 0) (w'.alloc (.cells #[.int .u64 0,.int .u64 0,.int .u64 0,.int .u64 0,.int .u64 0,.int .u64 0,.int .u64 0,.int .u64 0,.int .u64 0,.int .u64 0,.int .u64 0,.int .u64 0] 231)):=by
   rw[hDR.out];exact⟨0,by omega,rfl,h1.alloc _,hF1.alloc _,hB1.alloc _,by rw[HZ.out];exact hN1⟩
  clear hN1 hB1 hF1 h1;have HBN:=hid (HBQ.out w'.heap.size (Nat.le_of_lt hBN));have HB0:=hid (HBQ.out w.heap.size (Nat.le_refl _));have hNB:w.heap.size≤w'.heap.size:=Nat.le_of_lt hBN;generalize hb2:w'.heap.size=B2 at*;go_wp2;clear hb2;go_loopw [33] (fun v W=>R w.heap.size B2 X.num v W) (fun v _=>12-(intOf v).toNat);case atStart=>exact START
  case round=>
   clear START;rw[hDR.out]at hrel;obtain⟨k,hk,rfl,hI,hF,hBz,hBn⟩:=hrel;have HNr:=hBn;have hltn:=hBn.lt;clear hBn;by_cases hlt:k<12
   ·have hp:=fun W h=>hpl W h k
    have hset:=zk1 X.num k hlt
    have hskip:X.num k=0→zkz X.num (k+1)=zkz X.num k:=fun e=>by
     rw[←hset,e];apply Array.ext_getElem?;intro i;rw[Array.getElem?_setIfInBounds];by_cases e2:k=i
     ·subst e2
      rw[if_pos rfl,if_pos (by simp[zkz];omega),zk0 _ _ _ hlt,if_neg (Nat.lt_irrefl k)]
     ·rw[if_neg e2]
    clear hpl;by_cases hw:(wh tag k).2=0
    ·have hwz:whZ tag k=(0,0):=zkk tag k (by rw[zk7 tag k (by omega) hlt];exact hw)
     rw[hwz]at hp;simp only[rowV]at hp;have HS:=hid (hskip (HL0.out k hlt hw));have hE:∀w,(Op.equalIn 10000 234 (.agg #[(0:Int),(0:Int)]) (.agg #[(0:Int),(0:Int)])).run prog w= .ok true w:=fun w=>zkn 0 0 0 0 w;clear hwz hw hset hskip;go_wp2_with fail;go_call hp _ hI.tabs as e w3 ⟨rfl,f3⟩;have hI3:=(hI.fr0 f3).alloc (.cells #[(0:Int),(0:Int)] 234);have n0:=hI3.tabs.now 0;have n1:=hI3.tabs.now 1;simp[nowT,zj6]at n0 n1;have hF3:=(hF.trans f3.nil).alloc (.cells #[(0:Int),(0:Int)] 234);have hB3:=(hBz.fr f3 (by simp)).alloc (.cells #[(0:Int),(0:Int)] 234);have hN3:=(HNr.fr f3 (by simp)).alloc (.cells #[(0:Int),(0:Int)] 234);clear f3 hp;go_wp2;rw[hDR.out];exact⟨⟨k+1,by omega,by go_num,hI3,hF3,hB3,by rw[HS.out];exact hN3⟩,by simp[intOf];omega⟩
    ·have hwz:whZ tag k=wh tag k:=zk7 tag k (by omega) hlt
     rw[hwz]at hp;have hto:=HTO.out k hlt hw;have HS:=hid hset;clear hwz hset hskip;generalize wh tag k=ab at*;obtain⟨a,b⟩:=ab;simp only[rowV]at hp;simp only at hw hto;have hb0:((b:Int)==0)=false:=by simp;omega
     have hE:∀w,(Op.equalIn 10000 234 (.agg #[a,b]) (.agg #[(0:Int),(0:Int)])).run prog w= .ok false w:=fun w=>by rw[zkn,hb0,Bool.and_false]
     clear hw;go_wp2_with fail;go_call hp _ hI.tabs as e w3 ⟨rfl,f3⟩;have hI3:=(hI.fr0 f3).alloc (.cells #[a,b] 234);have n0:=hI3.tabs.now 0;have n1:=hI3.tabs.now 1;simp[nowT,zj6]at n0 n1;have hF3:=(hF.trans f3.nil).alloc (.cells #[a,b] 234);have hB3:=(hBz.fr f3 (by simp)).alloc;have hN3:=(HNr.fr f3 (by simp)).alloc;clear f3 hp;go_wp2_with fail;go_call hto _ hI3 as e w4 ⟨rfl,h4,f4⟩;have hF4:=hF3.trans f4;have hB4:=(hB3 _).fr f4 HB0.out;have hN4:=(hN3 _).fr f4 HBN.out;have hc4:=hN4.cell k;have hf4:=hN4.frozen k;rw[zk0 _ _ _ hlt,if_neg (Nat.lt_irrefl k)]at hc4;clear f4 hto n0 n1 hE;go_wp2;rw[hDR.out];refine⟨⟨k+1,by omega,by go_num,?_,hF4.setCell (.inr hNB) _,hB4.far (p:=⟨B2,k,none⟩) (by simp;omega) _,?_⟩,by simp[intOf];omega⟩
     ·have hfz:Fr [B2] w4 (w4.setCell ⟨B2,k,none⟩ (.int .u64 (X.num k))):=(Fr.refl _ _).setCell (.inl (by simp)) _
      refine⟨h4.m.fr hfz (fun k hk hm=> ?_) (fun k hk hm=> ?_),h4.tabs.fr hfz (by have:=HI.tabs.size;simp;omega),h4.hi⟩
      ·simp at hm;subst hm;exact HBN.out hk
      ·simp at hm;subst hm;have:=HI.m.tab.size;omega
     ·have:=hN4.set k (.int .u64 (X.num k:Int))
      rw[HS.out]at this;exact this
   ·obtain rfl:k=12:=by omega
    have hva:=zk3 X.num;have hBn:=HNr;have c0:=hBn.cell 0;have c1:=hBn.cell 1;have c2:=hBn.cell 2;have c3:=hBn.cell 3;have c4:=hBn.cell 4;have c5:=hBn.cell 5;have c6:=hBn.cell 6;have c7:=hBn.cell 7;have c8:=hBn.cell 8;have c9:=hBn.cell 9;have c10:=hBn.cell 10;have c11:=hBn.cell 11;rw[hva]at c0 c1 c2 c3 c4 c5 c6 c7 c8 c9 c10 c11 hbl;simp at c0 c1 c2 c3 c4 c5 c6 c7 c8 c9 c10 c11;clear hva hpl hBn;go_wp2_with fail;go_call hbl _ as e w3 ⟨rfl,f3⟩;have hI3:=hI.fr0 f3;have hF3:=hF.trans f3.nil;have hBz3:=hBz.fr f3 (by simp);have hBn3:=HNr.fr f3 (by simp);have e2:=(hBn3.alloc (.cells #[tag,X.cls,X.used,X.label,.int .u32 X.name,.int .u32 X.next,.int .u32 X.prev,.int .u32 X.refs,.int .u64 X.expiry,.int .u16 X.typ,X.size,.int .u32 X.hash] 122)).cell 2;rw[zk0 _ _ _ (by omega),if_pos (by omega)]at e2;clear f3 hbl hBn3;clear c0 c1 c2 c3 c4 c5 c6 c7 c8 c9 c10 c11;have hBx:Blk (w3.alloc (.cells #[tag,X.cls,X.used,X.label,.int .u32 X.name,.int .u32 X.next,.int .u32 X.prev,.int .u32 X.refs,.int .u64 X.expiry,.int .u16 X.typ,X.size,.int .u32 X.hash] 122)) w3.heap.size 122 #[.int .i64 tag,.int .i64 X.cls,.bool X.used,.int .i64 X.label,.int .u32 X.name,.int .u32 X.next,.int .u32 X.prev,.int .u32 X.refs,.int .u64 X.expiry,.int .u16 X.typ,.int .i64 X.size,.int .u32 X.hash] :=Blk.new _ _ _;have hI4:=hI3.alloc;have hF4:=hF3.alloc;have hBz4:=hBz3.alloc;clear hI3 hF3 hBz3;go_wp2_with fail;go_call hrt _ (hI4 _).tabs as e w5 ⟨rfl,f5⟩;have hI5:=(hI4 _).fr0 f5;have hF5:=(hF4 _).trans f5.nil;have hBz5:=(hBz4 _).fr f5 (by simp);rw[HZZ.out]at hBz5;have hBx5:=hBx.fr f5 (by simp);(have d0:=hBz5.cell 0;have z0:=hBz5.frozen 0;have d1:=hBz5.cell 1;have z1:=hBz5.frozen 1;have d2:=hBz5.cell 2;have z2:=hBz5.frozen 2;have d3:=hBz5.cell 3;have z3:=hBz5.frozen 3;have d4:=hBz5.cell 4;have z4:=hBz5.frozen 4;have d5:=hBz5.cell 5;have z5:=hBz5.frozen 5;have d6:=hBz5.cell 6;have z6:=hBz5.frozen 6;have d7:=hBz5.cell 7;have z7:=hBz5.frozen 7;have d8:=hBz5.cell 8;have z8:=hBz5.frozen 8;have d9:=hBz5.cell 9;have z9:=hBz5.frozen 9;have d10:=hBz5.cell 10;have z10:=hBz5.frozen 10;have d11:=hBz5.cell 11;have z11:=hBz5.frozen 11;simp[HB.cells]at d0 d1 d2 d3 d4 d5 d6 d7 d8 d9 d10 d11);(have c0:=hBx5.cell 0;have c1:=hBx5.cell 1;have c2:=hBx5.cell 2;have c3:=hBx5.cell 3;have c4:=hBx5.cell 4;have c5:=hBx5.cell 5;have c6:=hBx5.cell 6;have c7:=hBx5.cell 7;have c8:=hBx5.cell 8;have c9:=hBx5.cell 9;have c10:=hBx5.cell 10;have c11:=hBx5.cell 11;simp[HB.cells]at c0 c1 c2 c3 c4 c5 c6 c7 c8 c9 c10 c11);clear hrt f5 hI4 hF4 hBz4 hBx e2;go_wp2_with fail;refine zk6 (fun w9=>bodyPost _ _ _ _ _ w9) hBz5 rfl (Fr.refl [w.heap.size] w5) (.inl (by simp)) ?_;intro w9 hn9 hf9;have q0:=hn9.cell 0;have q1:=hn9.cell 1;have q2:=hn9.cell 2;have q3:=hn9.cell 3;have q4:=hn9.cell 4;have q5:=hn9.cell 5;have q6:=hn9.cell 6;have q7:=hn9.cell 7;have q8:=hn9.cell 8;have q9:=hn9.cell 9;have q10:=hn9.cell 10;have q11:=hn9.cell 11;simp at q0 q1 q2 q3 q4 q5 q6 q7 q8 q9 q10 q11;refine bodyPost_ret (by simp[results,results138,go_sem,q0,q1,q2,q3,q4,q5,q6,q7,q8,q9,q10,q11];try rfl) rfl (hP _ ⟨hI5.m.fr hf9 (fun k hk hm=> ?_) (fun k hk hm=> ?_),hI5.tabs.fr hf9 (by have:=HI.tabs.size;simpa using this),hI5.hi⟩ (hF5.step hf9 (by simp)))
    ·simp at hm;subst hm;exact HB0.out hk
    ·simp at hm;subst hm;have:=HI.m.tab.size;omega
def csz(c:Nat):Nat:=if c=1 then 32 else if c=2 then 48 else if c=3 then 64 else if c=4 then 96 else if c=5 then 128 else if c=6 then 192 else if c=7 then 256 else if c=8 then 384 else if c=9 then 512 else 0
def nbk(c:Nat):Nat:=if csz c=0 then 0 else 1024/csz c
def cpad(c:Nat):Nat:=if csz c=0 then 0 else 1024 %csz c
theorem zmc(c:Nat)(h1:1≤c)(h9:c≤9):csz c %16=0∧32≤csz c∧csz c≤512∧2≤nbk c∧nbk c≤32∧csz c*nbk c+cpad c=1024∧cpad c %16=0:=by
 have:∀c,c<10→1≤c→csz c %16=0∧32≤csz c∧csz c≤512∧2≤nbk c∧nbk c≤32∧csz c*nbk c+cpad c=1024∧cpad c %16=0:=by decide
 exact this c (by omega) h1
def sla(t:TM)(i:Nat):Nat:=zdv t.a t.s+1024*i
theorem zmd{t:TM}(h:t.Ok)(i:Nat)(hi:i<t.a):zdv t.a t.s≤sla t i∧sla t i+1024≤zdw t.a t.s∧sla t i %16=0∧240≤sla t i∧zdw t.a t.s≤1048576:=by
 obtain⟨_,_,s1,s2,s3⟩:=h.cfg;unfold sla zdw zdv;omega
def KdOn(t:TM)(x n k:Nat):Prop:= ∀g,x/4≤g→g<(x+n)/4→zf0 t g=k
def ByOn(t:TM)(x n:Nat)(f:Nat→Nat):Prop:= ∀j,j<n→zfz t (x+j)=f j
structure Out(t u:TM)(x n:Nat):Prop where
 by_: ∀i,zdv t.a t.s≤i→(i<x∨x+n≤i)→zfz u i=zfz t i
 kd_: ∀g,zdv t.a t.s≤4*g→(g<x/4∨(x+n)/4≤g)→zf0 u g=zf0 t g
theorem Out.refl(t:TM)(x n:Nat):Out t t x n:=⟨fun _ _ _=>rfl,fun _ _ _=>rfl⟩
theorem Out.trans{t u v:TM}{x n:Nat}(h:Out t u x n)(k:Out u v x n)(ha:u.a=t.a)(hs:u.s=t.s):Out t v x n:=
 ⟨fun i h1 h2=>(k.by_ i (by rw[ha,hs];exact h1) h2).trans (h.by_ i h1 h2),fun g h1 h2=>(k.kd_ g (by rw[ha,hs];exact h1) h2).trans (h.kd_ g h1 h2)⟩
theorem Out.wide{t u:TM}{x n y m:Nat}(h:Out t u x n)(h1:y≤x)(h2:x+n≤y+m):Out t u y m:=
 ⟨fun i hi hn=>h.by_ i hi (by omega),fun g hg hn=>h.kd_ g hg (by omega)⟩
theorem KdOn.out{t u:TM}{x n k y m:Nat}(h:KdOn t y m k)(o:Out t u x n)(hb:zdv t.a t.s≤y)(hd:y+m≤x∨x+n≤y)(h4:y %4=0):KdOn u y m k:=fun g h1 h2=>by
 rw[o.kd_ g (by omega) (by omega)];exact h g h1 h2
theorem ByOn.out{t u:TM}{x n y m:Nat}{f:Nat→Nat}(h:ByOn t y m f)(o:Out t u x n)(hb:zdv t.a t.s≤y)(hd:y+m≤x∨x+n≤y):ByOn u y m f:=fun j hj=>by
 rw[o.by_ (y+j) (by omega) (by omega)];exact h j hj
theorem zme{t:TM}(h:t.Ok)(x k v:Nat)(hx:zdv t.a t.s≤x):Out t (t.setB x k v) x k:=
 ⟨fun i _ hn=>by rw[zlg h x k v hx,if_neg (by omega)],fun _ _ _=>rfl⟩
theorem zmf{t:TM}(h:t.Ok)(x n k:Nat)(hk:k≤8)(hx:zdv t.a t.s≤x):Out t (t.setK x n k) x n:=
 ⟨fun i _ _=>zln t x n k i,fun g _ hn=>by rw[zlm h x n k hk hx,if_neg (by omega)]⟩
theorem zmg{t:TM}(h:t.Ok)(x n k:Nat)(hk:k≤8)(hx:zdv t.a t.s≤x):KdOn (t.setK x n k) x n k:=fun g h1 h2=>by
 rw[zlm h x n k hk hx,if_pos ⟨h1,h2⟩]
theorem zmh{t:TM}(h:t.Ok)(x n:Nat)(hx:zdv t.a t.s≤x):ByOn (t.setB x n 0) x n (fun _=>0):=fun j hj=>by
 rw[zlg h x n 0 hx,if_pos (by omega),nb_0]
theorem Lis.out{t u:TM}(h:Lis t u)(hk:t.Ok)(hu:u.Ok)(x n:Nat):Out t u x n:=by
 refine⟨fun i hi _=> ?_,fun g hg _=> ?_⟩
 ·rw[zle t i hi hk,zle u i (by rw[h.a,h.s];exact hi) hu,h.a,h.s,h.bt]
 ·rw[zlk t g hg hk,zlk u g (by rw[h.a,h.s];exact hg) hu,h.a,h.s,h.kd]
theorem zmi{t:TM}(h:t.Ok)(i p v:Nat)(hv:v<256^hdW p)(x n:Nat):Out t (t.setHd i p v) x n:=by
 refine⟨fun j hj _=> ?_,fun g _ _=>rfl⟩;rw[zle t j hj h,zle (t.setHd i p v) j hj (zgo h i p v hv)];rfl
theorem zmj{t:TM}(h:t.Ok)(f v:Nat)(hv:v<256^fldW f)(x n:Nat):Out t (t.setRt f v) x n:=by
 refine⟨fun j hj _=> ?_,fun g _ _=>rfl⟩;rw[zle t j hj h,zle (t.setRt f v) j hj (zgh h f v hv)];rfl
def adr(t:TM)(i c k:Nat):Nat:=sla t i+csz c*k
theorem zmk{t:TM}(h:t.Ok){i c k:Nat}(hi:i<t.a)(hc:1≤c∧c≤9)(hk:k<nbk c):sla t i≤adr t i c k∧adr t i c k+csz c≤sla t i+csz c*nbk c∧adr t i c k %16=0:=by
 obtain⟨h1,_,_,_,_,h6,h7⟩:=zmc c hc.1 hc.2;obtain⟨_,_,b3,_⟩:=zmd h i hi;have:csz c*k+csz c≤csz c*nbk c:=by rw[←Nat.mul_succ];exact Nat.mul_le_mul_left _ hk
 refine⟨Nat.le_add_right _ _,by unfold adr;omega,?_⟩;unfold adr;obtain⟨d,hd⟩:∃d,csz c=16*d:=⟨csz c/16,by omega⟩;rw[hd,Nat.mul_assoc];omega
theorem zml{t:TM}{i c k m:Nat}(h:k≠m):adr t i c k+csz c≤adr t i c m∨adr t i c m+csz c≤adr t i c k:=by
 unfold adr;rcases Nat.lt_or_gt_of_ne h with h|h
 ·have:csz c*k+csz c≤csz c*m:=by rw[←Nat.mul_succ];exact Nat.mul_le_mul_left _ h
  omega
 ·have:csz c*m+csz c≤csz c*k:=by rw[←Nat.mul_succ];exact Nat.mul_le_mul_left _ h
  omega
theorem zmm{t:TM}{i c k m:Nat}(hc:1≤c∧c≤9)(h:adr t i c k=adr t i c m):k=m:=by
 obtain⟨h1,h2,_⟩:=zmc c hc.1 hc.2;rcases Nat.decEq k m with e|e
 ·rcases zml (t:=t) (i:=i) (c:=c) e with h|h<;>omega
 ·exact e
def lnkB(n j:Nat):Nat:=if 4≤j∧j<8 then nb n (j-4)else 0
def FrL(t:TM)(s:Nat):List Nat→Prop
 | [] =>True
 |x::l=>KdOn t x s 6∧ByOn t x s (lnkB (l.headD 0))∧FrL t s l
theorem FrL.out{t u:TM}{s x n:Nat}(o:Out t u x n):∀{l:List Nat},FrL t s l→(∀y∈l,zdv t.a t.s≤y∧y %4=0∧(y+s≤x∨x+n≤y))→FrL u s l
 | [],_,_=>trivial
 |y::l,⟨h1,h2,h3⟩,hd=>by
  obtain⟨d1,d2,d3⟩:=hd y (by simp);exact⟨h1.out o d1 d3 d2,h2.out o d1 d3,h3.out o (fun z hz=>hd z (by simp[hz]))⟩
theorem FrL.kd{t:TM}{s:Nat}:∀{l:List Nat},FrL t s l→∀x∈l,KdOn t x s 6
 |y::l,⟨h1,_,h3⟩,x,hx=>by
  rcases List.mem_cons.1 hx with rfl|hx
  ·exact h1
  ·exact h3.kd x hx
structure Sl1(t:TM)(i c:Nat)(F L:List Nat):Prop where
 h0:t.hd i 0=c
 h1:t.hd i 1=L.length
 h2:t.hd i 2=F.headD 0
 c9:c≤9
 z:c=0→F= [] ∧L= [] ∧KdOn t (sla t i) 1024 7∧ByOn t (sla t i) 1024 (fun _=>0)
 perm:c≠0→(F++L).Perm ((List.range (nbk c)).map (adr t i c))
 so:L.Pairwise (· < ·)
 live: ∀x∈L,KdOn t x (csz c) 5
 free:FrL t (csz c) F
 pk:c≠0→KdOn t (sla t i+csz c*nbk c) (cpad c) 8
 pb:c≠0→ByOn t (sla t i+csz c*nbk c) (cpad c) (fun _=>0)
section
variable{t u:TM}{i c:Nat}{F L:List Nat}
theorem zmn(t:TM)(i:Nat){c:Nat}(hc:1≤c∧c≤9)(n:Nat):((List.range n).map (adr t i c)).Nodup:=by
 refine List.pairwise_map.2 ((List.nodup_range (n:=n)).imp (fun{a b} h e=>h (zmm hc e)))
theorem Sl1.nodup(h:Sl1 t i c F L)(h0:c≠0):(F++L).Nodup:=(h.perm h0).nodup_iff.2 (zmn t i ⟨by omega,h.c9⟩ _)
theorem Sl1.mem(h:Sl1 t i c F L)(h0:c≠0){x:Nat}(hx:x∈F∨x∈L):∃k,k<nbk c∧x=adr t i c k:=by
 have:=(h.perm h0).mem_iff.1 (List.mem_append.2 hx);obtain⟨k,hk,e⟩:=List.mem_map.1 this;exact⟨k,List.mem_range.1 hk,e.symm⟩
theorem Sl1.mem'(h:Sl1 t i c F L)(h0:c≠0){k:Nat}(hk:k<nbk c):adr t i c k∈F∨adr t i c k∈L:=
 List.mem_append.1 ((h.perm h0).mem_iff.2 (List.mem_map.2 ⟨k,List.mem_range.2 hk,rfl⟩))
theorem Sl1.len(h:Sl1 t i c F L)(h0:c≠0):F.length+L.length=nbk c:=by
 have:=(h.perm h0).length_eq;simpa using this
theorem Sl1.none(h:Sl1 t i c F L){x:Nat}(hx:x∈F∨x∈L):c≠0:=fun e=>by
 obtain⟨rfl,rfl,_⟩:=h.z e;simp at hx
theorem Sl1.at_(h:Sl1 t i c F L)(hok:t.Ok)(hi:i<t.a){x:Nat}(hx:x∈F∨x∈L):sla t i≤x∧x+csz c≤sla t i+csz c*nbk c∧x %16=0∧zdv t.a t.s≤x∧x+csz c≤sla t i+1024∧x+csz c≤zdw t.a t.s∧240≤x:=by
 have h0:=h.none hx;obtain⟨k,hk,rfl⟩:=h.mem h0 hx;have hc9:=h.c9;obtain⟨a1,a2,a3⟩:=zmk hok hi (c:=c) ⟨by omega,hc9⟩ hk;obtain⟨b1,b2,b3,b4,b5⟩:=zmd hok i hi;obtain⟨c1,_,_,_,_,c6,c7⟩:=zmc c (by omega) hc9;exact⟨a1,a2,a3,by omega,by omega,by omega,by omega⟩
theorem Sl1.apart(h:Sl1 t i c F L){x y:Nat}(hx:x∈F∨x∈L)(hy:y∈F∨y∈L)(hne:x≠y):x+csz c≤y∨y+csz c≤x:=by
 have h0:=h.none hx;obtain⟨k,_,rfl⟩:=h.mem h0 hx;obtain⟨m,_,rfl⟩:=h.mem h0 hy;exact zml (fun e=>hne (by rw[e]))
theorem zmo(ha:u.a=t.a)(hs:u.s=t.s)(i:Nat):sla u i=sla t i:=by unfold sla;rw[ha,hs]
theorem zmp(ha:u.a=t.a)(hs:u.s=t.s)(i c k:Nat):adr u i c k=adr t i c k:=by unfold adr;rw[zmo ha hs]
theorem Sl1.other(h:Sl1 t i c F L)(hok:t.Ok)(hi:i<t.a)(ha:u.a=t.a)(hs:u.s=t.s)(hh:∀r,r<3→u.hd i r=t.hd i r){x n:Nat}(o:Out t u x n)(hd:sla t i+1024≤x∨x+n≤sla t i):Sl1 u i c F L:=by
 obtain⟨b1,_,b3,_⟩:=zmd hok i hi;have hc9:=h.c9;refine⟨(hh 0 (by decide)).trans h.h0,(hh 1 (by decide)).trans h.h1,(hh 2 (by decide)).trans h.h2,h.c9,fun h0=> ?_,fun h0=> ?_,h.so,fun x hx=> ?_,?_,fun h0=> ?_,fun h0=> ?_⟩
 ·obtain⟨z1,z2,z3,z4⟩:=h.z h0
  rw[zmo ha hs];exact⟨z1,z2,z3.out o b1 (by omega) (by omega),z4.out o b1 (by omega)⟩
 ·have:=h.perm h0
  rwa[show adr u i c=adr t i c from funext fun k=>zmp ha hs i c k]
 ·obtain⟨a1,_,a3,a4,a5,_⟩:=h.at_ hok hi (.inr hx)
  exact(h.live x hx).out o a4 (by omega) (by omega)
 ·refine h.free.out o (fun y hy=> ?_)
  obtain⟨a1,_,a3,a4,a5,_⟩:=h.at_ hok hi (.inl hy);exact⟨a4,by omega,by omega⟩
 ·obtain⟨_,_,_,_,_,c6,c7⟩:=zmc c (by omega) hc9
  have:csz c*nbk c %16=0:=by omega
  rw[zmo ha hs];exact(h.pk h0).out o (by omega) (by omega) (by omega)
 ·obtain⟨_,_,_,_,_,c6,c7⟩:=zmc c (by omega) hc9
  rw[zmo ha hs];exact(h.pb h0).out o (by omega) (by omega)
end
structure SS where
 cls:Nat→Nat
 fr:Nat→List Nat
 lv:Nat→List Nat
def SS.inn(S:SS)(i:Nat):Int:=if S.cls i=0 then 0 else if S.fr i= []then-1 else S.cls i
def SS.set(S:SS)(i c:Nat)(F L:List Nat):SS:=⟨up S.cls i c,up S.fr i F,up S.lv i L⟩
structure SlI(t:TM)(S:SS):Prop where
 ls:LS t S.inn
 each: ∀i,i<t.a→Sl1 t i (S.cls i) (S.fr i) (S.lv i)
theorem SlI.upd{t u:TM}{S:SS}(h:SlI t S)(hok:t.Ok){i c:Nat}{F L:List Nat}(hi:i<t.a)(ha:u.a=t.a)(hs:u.s=t.s)(hl:LS u (S.set i c F L).inn)(o:Out t u (sla t i) 1024)(hh:∀j r,j≠i→r<3→u.hd j r=t.hd j r)(h1:Sl1 u i c F L):SlI u (S.set i c F L):=by
 refine⟨hl,fun j hj=> ?_⟩;by_cases e:j=i
 ·subst e
  unfold SS.set;dsimp only;rw[zf1,zf1,zf1];exact h1
 ·rw[ha]at hj
  unfold SS.set;dsimp only;rw[zf2 _ _ e,zf2 _ _ e,zf2 _ _ e];refine(h.each j hj).other hok hj ha hs (fun r hr=>hh j r e hr) o ?_;unfold sla;omega
theorem zmq(S:SS)(i c:Nat)(F L:List Nat):(S.set i c F L).inn=up S.inn i (if c=0 then 0 else if F= []then-1 else(c:Int)):=by
 funext j;unfold SS.inn SS.set;dsimp only;by_cases e:j=i
 ·subst e;simp only[zf1]
 ·simp only[zf2 _ _ e]
def insS(x:Nat):List Nat→List Nat
 | [] => [x]
 |y::l=>if x<y then x::y::l else y::insS x l
theorem zmr(x:Nat):∀l:List Nat,(insS x l).Perm (x::l)
 | [] =>List.Perm.refl _
 |y::l=>by
  unfold insS;split
  ·exact List.Perm.refl _
  ·exact((zmr x l).cons y).trans (List.Perm.swap x y l)
theorem zms(x:Nat)(l:List Nat)(y:Nat):y∈insS x l↔y=x∨y∈l:=by rw[(zmr x l).mem_iff,List.mem_cons]
theorem zmt(x:Nat)(l:List Nat):(insS x l).length=l.length+1:=by rw[(zmr x l).length_eq,List.length_cons]
theorem zmu(x:Nat):∀{l:List Nat},l.Pairwise (·<·)→x∉l→(insS x l).Pairwise (·<·)
 | [],_,_=>by simp[insS]
 |y::l,h,hx=>by
  obtain⟨h1,h2⟩:=List.pairwise_cons.1 h;unfold insS;split
  ·next hlt=>
   refine List.pairwise_cons.2 ⟨fun z hz=> ?_,h⟩;rcases List.mem_cons.1 hz with rfl|hz
   ·exact hlt
   ·have:=h1 z hz;omega
  ·next hlt=>
   have hne:x≠y:=fun e=>hx (by simp[e]);refine List.pairwise_cons.2 ⟨fun z hz=> ?_,zmu x h2 (fun hm=>hx (by simp[hm]))⟩;rcases(zms x l z).1 hz with rfl|hz
   ·omega
   ·exact h1 z hz
def delS(x:Nat)(l:List Nat):List Nat:=l.filter fun y=>y !=x
theorem zmv(x y:Nat)(l:List Nat):y∈delS x l↔y∈l∧y≠x:=by simp[delS]
theorem zmw{x:Nat}{l:List Nat}(h:l.Pairwise (·<·)):(delS x l).Pairwise (·<·):=h.filter _
theorem zmx{x:Nat}{l:List Nat}(h:x∉l):delS x l=l:=List.filter_eq_self.2 (fun y hy=>by simp;rintro rfl;exact h hy)
theorem zmy{x:Nat}:∀{l:List Nat},l.Nodup→x∈l→(x::delS x l).Perm l
 |y::l,h,hx=>by
  obtain⟨h1,h2⟩:=List.nodup_cons.1 h;by_cases e:y=x
  ·subst e
   have:delS y (y::l)=l:=by
    unfold delS;rw[List.filter_cons_of_neg (by simp)];exact zmx h1
   rw[this]
  ·have hx':x∈l:=(List.mem_cons.1 hx).resolve_left (fun k=>e k.symm)
   have:delS x (y::l)=y::delS x l:=by unfold delS;rw[List.filter_cons_of_pos (by simpa using e)]
   rw[this];exact(List.Perm.swap y x _).trans ((zmy h2 hx').cons y)
theorem zmz{x:Nat}{l:List Nat}(h:l.Nodup)(hx:x∈l):(delS x l).length+1=l.length:=by
 rw[←(zmy h hx).length_eq,List.length_cons]
theorem zm0{l:List Nat}(h:l.Pairwise (·<·)):l.Nodup:=h.imp (fun h=>Nat.ne_of_lt h)
section
variable{t u:TM}{i c x:Nat}{F L:List Nat}
structure Hd1(t u:TM)(i c n f:Nat):Prop where
 a:u.a=t.a
 s:u.s=t.s
 h0:u.hd i 0=c
 h1:u.hd i 1=n
 h2:u.hd i 2=f
theorem Sl1.pop(h:Sl1 t i c (x::F) L)(hok:t.Ok)(hi:i<t.a)(hh:Hd1 t u i c (L.length+1) (F.headD 0))(o:Out t u x (csz c))(hk:KdOn u x (csz c) 5):Sl1 u i c F (insS x L):=by
 have h0:=h.none (x:=x) (.inl (by simp));have hnd:=h.nodup h0;have hxF:x∉F:=by rw[List.cons_append]at hnd;exact fun hm=>(List.nodup_cons.1 hnd).1 (by simp[hm])
 have hxL:x∉L:=by rw[List.cons_append]at hnd;exact fun hm=>(List.nodup_cons.1 hnd).1 (by simp[hm])
 obtain⟨p1,p2,p3,p4,p5,p6,p7⟩:=h.at_ hok hi (x:=x) (.inl (by simp));have hc9:=h.c9;obtain⟨b1,_,b3,_⟩:=zmd hok i hi;obtain⟨c1,_,_,_,_,c6,c7⟩:=zmc c (by omega) hc9;refine⟨hh.h0,hh.h1.trans (zmt x L).symm,hh.h2,h.c9,fun e=>absurd e h0,fun _=> ?_,zmu x h.so hxL,fun y hy=> ?_,?_,fun _=> ?_,fun _=> ?_⟩
 ·rw[show adr u i c=adr t i c from funext fun k=>zmp hh.a hh.s i c k]
  refine List.Perm.trans ?_ (h.perm h0);refine((zmr x L).append_left F).trans ?_;exact List.perm_middle
 ·rcases(zms x L y).1 hy with rfl|hy
  ·exact hk
  ·obtain⟨_,_,q3,q4,_⟩:=h.at_ hok hi (x:=y) (.inr hy)
   have:=h.apart (x:=x) (y:=y) (.inl (by simp)) (.inr hy) (fun e=>hxL (e▸hy));exact(h.live y hy).out o q4 (by omega) (by omega)
 ·refine h.free.2.2.out o (fun y hy=> ?_)
  obtain⟨_,_,q3,q4,_⟩:=h.at_ hok hi (x:=y) (.inl (by simp[hy]));have:=h.apart (x:=x) (y:=y) (.inl (by simp)) (.inl (by simp[hy])) (fun e=>hxF (e▸hy));exact⟨q4,by omega,by omega⟩
 ·rw[zmo hh.a hh.s]
  exact(h.pk h0).out o (by omega) (by omega) (by omega)
 ·rw[zmo hh.a hh.s]
  exact(h.pb h0).out o (by omega) (by omega)
theorem Sl1.give(h:Sl1 t i c F L)(hok:t.Ok)(hi:i<t.a)(hx:x∈L)(hh:Hd1 t u i c (L.length-1) x)(o:Out t u x (csz c))(hk:KdOn u x (csz c) 6)(hb:ByOn u x (csz c) (lnkB (F.headD 0))):Sl1 u i c (x::F) (delS x L):=by
 have h0:=h.none (x:=x) (.inr hx);have hnd:=h.nodup h0;have hxF:x∉F:=fun hm=>(List.nodup_append.1 hnd).2.2 x hm x hx rfl;obtain⟨_,p2,p3,_⟩:=h.at_ hok hi (x:=x) (.inr hx);have hc9:=h.c9;obtain⟨b1,_,b3,_⟩:=zmd hok i hi;obtain⟨c1,_,_,_,_,c6,c7⟩:=zmc c (by omega) hc9;have hlen:=zmz (zm0 h.so) hx;refine⟨hh.h0,by rw[hh.h1];omega,hh.h2,h.c9,fun e=>absurd e h0,fun _=> ?_,zmw h.so,fun y hy=> ?_,⟨hk,hb,?_⟩,fun _=> ?_,fun _=> ?_⟩
 ·rw[show adr u i c=adr t i c from funext fun k=>zmp hh.a hh.s i c k]
  refine List.Perm.trans ?_ (h.perm h0);refine List.Perm.trans ?_ ((zmy (zm0 h.so) hx).append_left F);exact List.perm_middle.symm
 ·obtain⟨hy,hne⟩:=(zmv x y L).1 hy
  obtain⟨_,_,q3,q4,_⟩:=h.at_ hok hi (x:=y) (.inr hy);have:=h.apart (x:=x) (y:=y) (.inr hx) (.inr hy) (fun e=>hne e.symm);exact(h.live y hy).out o q4 (by omega) (by omega)
 ·refine h.free.out o (fun y hy=> ?_)
  obtain⟨_,_,q3,q4,_⟩:=h.at_ hok hi (x:=y) (.inl hy);have:=h.apart (x:=x) (y:=y) (.inr hx) (.inl hy) (fun e=>hxF (e▸hy));exact⟨q4,by omega,by omega⟩
 ·rw[zmo hh.a hh.s]
  exact(h.pk h0).out o (by omega) (by omega) (by omega)
 ·rw[zmo hh.a hh.s]
  exact(h.pb h0).out o (by omega) (by omega)
theorem Sl1.carved(hc:1≤c∧c≤9)(hh:Hd1 t u i c 0 (sla t i))(hf:FrL u (csz c) ((List.range (nbk c)).map (adr t i c)))(hk:KdOn u (sla t i+csz c*nbk c) (cpad c) 8)(hb:ByOn u (sla t i+csz c*nbk c) (cpad c) (fun _=>0)):Sl1 u i c ((List.range (nbk c)).map (adr t i c)) [] :=by
 have hn:=(zmc c hc.1 hc.2).2.2.2.1
 have hd:((List.range (nbk c)).map (adr t i c)).headD 0=sla t i:=by
  obtain⟨m,hm⟩:∃m,nbk c=m+1:=⟨nbk c-1,by omega⟩;rw[hm,List.range_succ_eq_map];simp[adr]
 refine⟨hh.h0,hh.h1,by rw[hh.h2,hd],hc.2,fun e=>by omega,fun _=> ?_,List.Pairwise.nil,fun x hx=>by simp at hx,hf,fun _=> ?_,fun _=> ?_⟩
 ·rw[show adr u i c=adr t i c from funext fun k=>zmp hh.a hh.s i c k,List.append_nil]
 ·rw[zmo hh.a hh.s];exact hk
 ·rw[zmo hh.a hh.s];exact hb
theorem Sl1.melted(hh:Hd1 t u i 0 0 0)(hk:KdOn u (sla t i) 1024 7)(hb:ByOn u (sla t i) 1024 (fun _=>0)):Sl1 u i 0 [] [] :=
 ⟨hh.h0,hh.h1,hh.h2,by decide,fun _=>⟨rfl,rfl,by rw[zmo hh.a hh.s];exact hk,by rw[zmo hh.a hh.s];exact hb⟩,fun e=>absurd rfl e,List.Pairwise.nil,fun x hx=>by simp at hx,trivial,fun e=>absurd rfl e,fun e=>absurd rfl e⟩
end
def HB.lnk(n:Nat):HB:={HB.zero with name:=n}
theorem zm1(n:Nat)(h:n<4294967296):(HB.lnk n).Ok:=by
 constructor<;>simp[HB.lnk,HB.zero,h]
def lkN(n f:Nat):Nat:=if f=4 then n else 0
theorem zm2(n f:Nat)(hf:f<12):(HB.lnk n).num f=lkN n f:=by
 have:f=0∨f=1∨f=2∨f=3∨f=4∨f=5∨f=6∨f=7∨f=8∨f=9∨f=10∨f=11:=by omega
 rcases this with rfl|rfl|rfl|rfl|rfl|rfl|rfl|rfl|rfl|rfl|rfl|rfl<;>rfl
theorem wh0:wh 0 0=(0,1)∧wh 0 1=(1,1)∧wh 0 2=(2,1)∧wh 0 3=(3,1)∧wh 0 4=(4,4)∧(∀f,f<12→5≤f→(wh 0 f).2=0):=by decide
theorem zm3(n f:Nat)(h:n<4294967296)(hf:f<12)(h0:(wh 0 f).2≠0):lkN n f<256^(wh 0 f).2:=by
 obtain⟨w0,w1,w2,w3,w4,w5⟩:=wh0
 have:f=0∨f=1∨f=2∨f=3∨f=4:=by
  rcases Nat.lt_or_ge f 5 with k|k
  ·omega
  ·exact absurd (w5 f hf k) h0
 rcases this with rfl|rfl|rfl|rfl|rfl
 ·rw[w0];show 0<_;decide
 ·rw[w1];show 0<_;decide
 ·rw[w2];show 0<_;decide
 ·rw[w3];show 0<_;decide
 ·rw[w4];exact h
theorem zm4(n f j:Nat)(hf:f<12)(h0:(wh 0 f).2≠0)(hj:j<(wh 0 f).2):(wh 0 f).1+j<8∧lnkB n ((wh 0 f).1+j)=nb (lkN n f) j:=by
 obtain⟨w0,w1,w2,w3,w4,w5⟩:=wh0
 have:f=0∨f=1∨f=2∨f=3∨f=4:=by
  rcases Nat.lt_or_ge f 5 with k|k
  ·omega
  ·exact absurd (w5 f hf k) h0
 unfold lnkB;rcases this with rfl|rfl|rfl|rfl|rfl
 ·rw[w0]at hj⊢;dsimp only at*;rw[if_neg (by omega)];exact⟨by omega,(nb_0 j).symm⟩
 ·rw[w1]at hj⊢;dsimp only at*;rw[if_neg (by omega)];exact⟨by omega,(nb_0 j).symm⟩
 ·rw[w2]at hj⊢;dsimp only at*;rw[if_neg (by omega)];exact⟨by omega,(nb_0 j).symm⟩
 ·rw[w3]at hj⊢;dsimp only at*;rw[if_neg (by omega)];exact⟨by omega,(nb_0 j).symm⟩
 ·rw[w4]at hj⊢;dsimp only at*;rw[if_pos (by omega),Nat.add_sub_cancel_left];exact⟨by omega,rfl⟩
theorem zm5{t:TM}{x s:Nat}(hk:KdOn t x s 6)(hs:8≤s)(hx:x %8=0)(hb:zdv t.a t.s≤x)(hl:x+s≤zdw t.a t.s)(n:Nat→Nat):HeadTo t x 0 6 n 0:=
 ⟨by decide,hb,hx,by show x+8≤_;omega,by decide,fun g h1 h2=>hk g h1 (by rw[show sz 0=8 from rfl]at h2;omega),fun f hf=>by omega,fun f hf=>by omega⟩
theorem zm6{t:TM}{x s n:Nat}(hk:KdOn t x s 6)(hy:ByOn t x s (lnkB n))(hs:8≤s)(hx:x %8=0)(hb:zdv t.a t.s≤x)(hl:x+s≤zdw t.a t.s)(hn:n<4294967296):HeadTo t x 0 6 (lkN n) 12:=
 ⟨by decide,hb,hx,by show x+8≤_;omega,by decide,fun g h1 h2=>hk g h1 (by rw[show sz 0=8 from rfl]at h2;omega),fun f hf h0 j hj=>by
  obtain⟨h1,h2⟩:=zm4 n f j hf h0 hj;rw[Nat.add_assoc,hy _ (by omega),h2],fun f hf h0=>zm3 n f hn hf h0⟩
theorem zm7(t:TM)(x n:Nat):t.putH x 0 (HB.lnk n).num 12=((((t.setB x 1 0).setB (x+1) 1 0).setB (x+2) 1 0).setB (x+3) 1 0).setB (x+4) 4 n:=by
 obtain⟨w0,w1,w2,w3,w4,w5⟩:=wh0
 have hz:∀k,5≤k→k<12→t.putH x 0 (HB.lnk n).num (k+1)=t.putH x 0 (HB.lnk n).num k:=fun k h1 h2=>by
  rw[TM.putH,if_pos (w5 k h2 h1)]
 rw[hz 11 (by decide) (by decide),hz 10 (by decide) (by decide),hz 9 (by decide) (by decide),hz 8 (by decide) (by decide),hz 7 (by decide) (by decide),hz 6 (by decide) (by decide),hz 5 (by decide) (by decide)];rw[TM.putH,if_neg (by rw[w4];decide),TM.putH,if_neg (by rw[w3];decide),TM.putH,if_neg (by rw[w2];decide),TM.putH,if_neg (by rw[w1];decide),TM.putH,if_neg (by rw[w0];decide),TM.putH,w0,w1,w2,w3,w4];rfl
def TM.push(t:TM)(x n:Nat):TM:=((((t.setB x 1 0).setB (x+1) 1 0).setB (x+2) 1 0).setB (x+3) 1 0).setB (x+4) 4 n
theorem zm8{t:TM}(h:t.Ok)(x n:Nat):(t.push x n).Ok:=zlf (zlf (zlf (zlf (zlf h _ _ _) _ _ _) _ _ _) _ _ _) _ _ _
theorem zm9{t:TM}(h:t.Ok)(x n:Nat)(hx:zdv t.a t.s≤x):Out t (t.push x n) x 8:=by
 have h1:=zlf h x 1 0;have h2:=zlf h1 (x+1) 1 0;have h3:=zlf h2 (x+2) 1 0;have h4:=zlf h3 (x+3) 1 0;exact(((((zme h x 1 0 hx).wide (y:=x) (m:=8) (by omega) (by omega)).trans ((zme h1 (x+1) 1 0 (show zdv t.a t.s≤_ by omega)).wide (by omega) (by omega)) rfl rfl).trans ((zme h2 (x+2) 1 0 (show zdv t.a t.s≤_ by omega)).wide (by omega) (by omega)) rfl rfl).trans ((zme h3 (x+3) 1 0 (show zdv t.a t.s≤_ by omega)).wide (by omega) (by omega)) rfl rfl).trans ((zme h4 (x+4) 4 n (show zdv t.a t.s≤_ by omega)).wide (by omega) (by omega)) rfl rfl
theorem zna{t:TM}(h:t.Ok){x s:Nat}(n:Nat)(hx:zdv t.a t.s≤x)(hz:ByOn t x s (fun _=>0)):ByOn (t.push x n) x s (lnkB n):=fun j hj=>by
 have h1:=zlf h x 1 0;have h2:=zlf h1 (x+1) 1 0;have h3:=zlf h2 (x+2) 1 0;have h4:=zlf h3 (x+3) 1 0;unfold TM.push lnkB;rw[zlg h4 _ _ _ (show zdv t.a t.s≤_ by omega),zlg h3 _ _ _ (show zdv t.a t.s≤_ by omega),zlg h2 _ _ _ (show zdv t.a t.s≤_ by omega),zlg h1 _ _ _ (show zdv t.a t.s≤_ by omega),zlg h _ _ _ hx,hz j hj];by_cases e:4≤j∧j<8
 ·rw[if_pos (by omega),if_pos e]
  congr 1;omega
 ·rw[if_neg (by omega),if_neg e]
  simp only[nb_0,ite_self]
theorem znb(t:TM)(x n g:Nat):zf0 (t.push x n) g=zf0 t g:=by
 unfold TM.push;rw[zlh,zlh,zlh,zlh,zlh]
theorem znc(t:TM)(x n:Nat):t.putH x 0 (HB.lnk n).num 12=t.push x n:=zm7 t x n
theorem znd{w:World}{q:MH}{t:TM}(h:IsT w q t)(x n k:Nat)(hx:zdv t.a t.s≤x)(hl:x+n≤zdw t.a t.s)(hk:KdOn t x n k)(h4:x %4=0)(hn:n %4=0)(k0:k≠0)(x' n' k':Int)(ex:x'=x)(en:n'=n)(ek:k'=k):Calls prog 76 #[q,x',n',k'] w (zR true fun w'=>IsT w' q (t.setB x n 0)∧Fr q.blocks w w'):=by
 subst ex en ek;have hz:=zge h.ok.cfg;have h4':=zf9 t.a t.s;have hl':t.ms.l.length=zdw t.a t.s:=TM.bytes_len t;have hE:x+n≤t.ms.l.length:=by rw[hl'];omega
 have:=zfw w q t.ms h.m x n k hE (fun i hi=>zf4 _ (x+i) 1 k (.inl rfl) (Nat.mod_one _) k0 (by show _≤4*t.kinds.length;rw[TM.kinds_len];omega) (fun g h1 h2=>(TM.kinds_get t g (by omega)).trans (hk g (by omega) (by omega))));refine this.mono fun e w' ⟨he,hm,hf⟩=>⟨he,⟨zlf h.ok x n 0,?_,h.tab.fr hf.pwga h.hi,h.hi⟩,hf.pwga⟩
 have e1:spl t.ms.l x (List.replicate n 0)=(t.setB x n 0).bytes:=by
  apply List.ext_getElem?;intro i;have hle:(spl t.ms.l x (List.replicate n 0)).length=t.ms.l.length:=zda _ _ _ (by rw[List.length_replicate];exact hE);have hle2:(t.setB x n 0).bytes.length=zdw t.a t.s:=TM.bytes_len _;rcases Nat.lt_or_ge i (zdw t.a t.s)with hi|hi
  ·have g1:=zdb t.ms.l x (List.replicate n 0) (by rw[List.length_replicate];exact hE) i
   have g2:(t.setB x n 0).bytes[i]?.getD 0=zfz (t.setB x n 0) i:=TM.bytes_get (t.setB x n 0) i hi;have g3:t.ms.l[i]?.getD 0=zfz t i:=TM.bytes_get t i hi;rw[zlg h.ok x n 0 hx]at g2;rw[g3,List.length_replicate]at g1;have h1:i<(spl t.ms.l x (List.replicate n 0)).length:=by rw[hle,hl'];exact hi
   have h2:i<(t.setB x n 0).bytes.length:=by rw[hle2];exact hi
   have g4:(spl t.ms.l x (List.replicate n 0))[i]?.getD 0=(t.setB x n 0).bytes[i]?.getD 0:=by
    rw[g1,g2];by_cases hh:x≤i∧i<x+n
    ·rw[if_pos hh,if_pos hh,List.getElem?_replicate,if_pos (by omega),nb_0];rfl
    ·rw[if_neg hh,if_neg hh]
   rw[List.getElem?_eq_getElem h1,List.getElem?_eq_getElem h2]at g4⊢;simpa using g4
  ·rw[List.getElem?_eq_none (by rw[hle,hl'];exact hi),List.getElem?_eq_none (by rw[hle2];exact hi)]
 rw[e1]at hm;exact hm
theorem zne{w:World}{q:MH}{t:TM}(h:IsT w q t)(x n k:Nat)(h4:x %4=0)(hn:n %4=0)(n0:0<n)(hl:x+n≤zdw t.a t.s)(hk:KdOn t x n k)(x' n':Int)(ex:x'=x)(en:n'=n):Calls prog 34 #[q,x',n'] w (zE k w):=by
 subst ex en;have h4':=zf9 t.a t.s;have hlen:t.ms.ks.length=zdw t.a t.s/4:=TM.kinds_len t
 have e:zck t.ms.ks x n=k:=by
  unfold zck
  rw[if_neg (by
   rw[hlen];rintro(h|h)
   ·omega
   ·simp[zb5]at h;omega)]
  have e1:((x:Int)/4).toNat=x/4:=by omega
  have e2:(((x:Int)+n+3)/4).toNat=(x+n)/4:=by omega
  rw[e1,e2];unfold zcj;have hkk:∀g,x/4≤g→g<(x+n)/4→t.ms.ks[g]?.getD 0=k:=fun g h1 h2=>(TM.kinds_get t g (by omega)).trans (hk g h1 h2);rw[zch t.ms.ks (x/4) ((x+n)/4) (fun y hy=>by rw[hkk _ (by omega) (by omega),hkk _ (by omega) (by omega)]),if_pos rfl];exact hkk _ (by omega) (by omega)
 have:=zlr w q t.ms h.m x n;rw[e]at this;exact this
def cisB(c:Int):Bool:=decide (1≤c∧c≤9)
theorem znf(w:World)(c:Int):Calls prog 228 #[c] w (zE (.bool (cisB c)) w):=by
 unfold cisB;by_cases h1:1≤c
 ·have b1:decide (1≤c)=true:=by simpa using h1
  by_cases h2:c≤9
  ·have b2:decide (c≤9)=true:=by simpa using h2
   rw[decide_eq_true (show 1≤c∧c≤9 from⟨h1,h2⟩)];clear h1 h2;go_in;go_wp2;go_ret;exact⟨rfl,rfl⟩
  ·have b2:decide (c≤9)=false:=by simpa using h2
   rw[decide_eq_false (fun h:1≤c∧c≤9=>h2 h.2)];clear h1 h2;go_in;go_wp2;go_ret;exact⟨rfl,rfl⟩
 ·have b1:decide (1≤c)=false:=by simpa using h1
  rw[decide_eq_false (fun h:1≤c∧c≤9=>h1 h.1)];clear h1;go_in;go_wp2;go_ret;exact⟨rfl,rfl⟩
def cszZ(c:Int):Nat:=if 1≤c∧c≤9 then csz c.toNat else 0
def nbkZ(c:Int):Nat:=if 1≤c∧c≤9 then nbk c.toNat else 0
def zng(c:Int):Nat:=if 1≤c∧c≤9 then cpad c.toNat else 0
theorem znh(c:Nat)(h:1≤c∧c≤9):clsT[c]?=some (.int .i64 (csz c)):=by
 have:c=1∨c=2∨c=3∨c=4∨c=5∨c=6∨c=7∨c=8∨c=9:=by omega
 rcases this with rfl|rfl|rfl|rfl|rfl|rfl|rfl|rfl|rfl<;>rfl
section
variable{w:World}
theorem zni(hM:TabM w)(c:Int):Calls prog 121 #[c] w (zE (cszZ c) w):=by
 have hi:=fun w=>znf w c;unfold cszZ;unfold cisB at hi;by_cases h:1≤c∧c≤9
 ·rw[if_pos h]
  rw[decide_eq_true h]at hi;obtain⟨k,rfl⟩:∃k:Nat,c=k:=⟨c.toNat,by omega⟩;have hc:=(hM.cls k).trans (znh k (by omega));rw[Int.toNat_natCast];have g1:(0:Int)≤k:=by omega
  have g2:(k:Int)<10:=by omega
  generalize csz k=s at*;clear h hM;go_in;go_wp2_with fail;go_call hi _ as e w' ⟨rfl,rfl⟩;go_wp2;go_ret;exact⟨rfl,rfl⟩
 ·rw[if_neg h]
  rw[decide_eq_false h]at hi;clear h hM;go_in;go_wp2_with fail;go_call hi _ as e w' ⟨rfl,rfl⟩;go_wp2;go_ret;exact⟨rfl,rfl⟩
theorem znj(hM:TabM w)(c:Int):Calls prog 149 #[c] w (zE (nbkZ c) w):=by
 have hi:=fun w=>znf w c;unfold nbkZ;unfold cisB at hi;by_cases h:1≤c∧c≤9
 ·rw[if_pos h]
  rw[decide_eq_true h]at hi;obtain⟨k,rfl⟩:∃k:Nat,c=k:=⟨c.toNat,by omega⟩;have hc:=(hM.cls k).trans (znh k (by omega));rw[Int.toNat_natCast];have g1:(0:Int)≤k:=by omega
  have g2:(k:Int)<10:=by omega
  obtain⟨s1,s2,s3,_⟩:=zmc k (by omega) (by omega);have e:((nbk k:Nat):Int)=1024/(csz k:Int):=by unfold nbk;rw[if_neg (by omega),Int.natCast_ediv];rfl
  rw[e];have z0:((csz k:Int)==0)=false:=by simp;omega
  have z1:(0:Int)<csz k:=by omega
  have z2:(csz k:Int)≤512:=by omega
  generalize csz k=s at*;clear h hM e s1;go_in;go_wp2_with fail;go_call hi _ as e w' ⟨rfl,rfl⟩;go_wp2;go_ret;exact⟨rfl,rfl⟩
 ·rw[if_neg h]
  rw[decide_eq_false h]at hi;clear h hM;go_in;go_wp2_with fail;go_call hi _ as e w' ⟨rfl,rfl⟩;go_wp2;go_ret;exact⟨rfl,rfl⟩
theorem znk(hM:TabM w)(c:Int):Calls prog 233 #[c] w (zE (zng c) w):=by
 have hi:=fun w=>znf w c;unfold zng;unfold cisB at hi;by_cases h:1≤c∧c≤9
 ·rw[if_pos h]
  rw[decide_eq_true h]at hi;obtain⟨k,rfl⟩:∃k:Nat,c=k:=⟨c.toNat,by omega⟩;have hc:=(hM.cls k).trans (znh k (by omega));rw[Int.toNat_natCast];have g1:(0:Int)≤k:=by omega
  have g2:(k:Int)<10:=by omega
  obtain⟨s1,s2,s3,_⟩:=zmc k (by omega) (by omega);have e:((cpad k:Nat):Int)=1024 %(csz k:Int):=by unfold cpad;rw[if_neg (by omega),Int.natCast_emod];rfl
  rw[e];have z0:((csz k:Int)==0)=false:=by simp;omega
  have z1:(0:Int)<csz k:=by omega
  have z2:(csz k:Int)≤512:=by omega
  generalize csz k=s at*;clear h hM e s1;go_in;go_wp2_with fail;go_call hi _ as e w' ⟨rfl,rfl⟩;go_wp2;go_ret;exact⟨rfl,rfl⟩
 ·rw[if_neg h]
  rw[decide_eq_false h]at hi;clear h hM;go_in;go_wp2_with fail;go_call hi _ as e w' ⟨rfl,rfl⟩;go_wp2;go_ret;exact⟨rfl,rfl⟩
theorem znl(hM:TabM w)(c k:Nat)(hc:1≤c∧c≤9)(hk:k<nbk c):Calls prog 276 #[c,k] w (zE (.tuple #[.int .i64 (csz c*k:Nat),(0:Int)]) w):=by
 have hi:=fun w=>znf w c;have hb:=znj hM c;unfold cisB at hi;rw[decide_eq_true (show(1:Int)≤c∧(c:Int)≤9 by omega)]at hi;unfold nbkZ at hb;rw[if_pos (show(1:Int)≤c∧(c:Int)≤9 by omega),Int.toNat_natCast]at hb;have hcc:=(hM.cls c).trans (znh c hc);have g1:(0:Int)≤c:=by omega
 have g2:(c:Int)<10:=by omega
 obtain⟨s1,s2,s3,s4,s5,s6,_⟩:=zmc c (by omega) (by omega);have b1:=dF ((k:Int)<0);have b2':=dF (nbk c≤k);have hm:csz c*k≤512*32:=Nat.mul_le_mul s3 (by omega)
 have w1:IntKind.i64.wrap ((k:Int)*(csz c:Int))=((csz c*k:Nat):Int):=by
  rw[Nat.mul_comm,Int.natCast_mul];exact i64_in _ (by rw[←Int.natCast_mul,Nat.mul_comm];omega)
 generalize csz c*k=m at*;generalize csz c=s at*;generalize nbk c=n at*;clear hM hk hc;go_in;go_wp2_with fail;go_call hi _ as e w' ⟨rfl,rfl⟩;go_wp2_with fail;go_call hb as e w' ⟨rfl,rfl⟩;go_wp2;go_ret2;exact⟨rfl,rfl⟩
theorem znm(hM:TabM w)(a s:Nat)(hc:Cfg a s)(i:Nat)(hi:i<a):Calls prog 229 #[cfgV a s,i] w (zN (.int .i64 (zdv a s+1024*i:Nat)) w):=by
 have h2:=hc.a2
 have hbs:zdv a s≤1048576:=by
  obtain⟨_,_,s1,s2,s3⟩:=hc;unfold zdv;omega
 have hb:∀W,TabM W→Calls prog 151 #[.agg #[a,s]] W (zN (zdv a s) W):=fun W h=>zd1 W h a s hc
 have hl:∀W,TabM W→Calls prog 163 #[.agg #[a,s],i,a,(zdv a s),(1024:Int)] W (zN (.int .i64 (zdv a s+1024*i:Nat)) W):=fun W h=>by
  have:=zhe W h a s hc i a (zdv a s) 1024 hi (by omega);refine this.mono fun e w' ⟨he,hf⟩=>⟨?_,hf⟩;rw[he,show((zdv a s+1024*i:Nat):Int)=((zdv a s:Nat):Int)+(i:Int)*((1024:Nat):Int)by omega]
 generalize zdv a s+1024*i=z at*;generalize zdv a s=b at*;unfold cfgV;clear hc hbs;go_in;go_wp2_with fail;have hB0:=(Blk.new w 62 #[.int .i64 a,.int .i64 s]).drew;have hF0:=((Fr.refl [] w).alloc (.cells #[a,s] 62)).drew;have HC:=hid (fun W' (hb:Blk W' w.heap.size 62 #[a,s])=>And.intro (show W'.cell? ⟨w.heap.size,0,none⟩=some (.int .i64 a)from hb.cell 0) (show W'.cell? ⟨w.heap.size,1,none⟩=some (.int .i64 s)from hb.cell 1));have hY:=HC.out _ hB0
 go_region_held3 (fun W'=>W'.cell? ⟨w.heap.size,0,none⟩=some (.int .i64 a)∧W'.cell? ⟨w.heap.size,1,none⟩=some (.int .i64 s)) (exact hY)
  (first|(go_at_call 151;with_reducible refine(hb _ (hM.fr hF0 (by simp))).mono ?_;rintro e W2 ⟨rfl,f2⟩;have HB2:=hid (hB0.fr f2 (by simp));have HF2:=hid (hF0.trans f2);have hY:=HC.out _ HB2.out;clear f2)|(go_at_call 163;with_reducible refine(hl _ (hM.fr HF2.out (by simp))).mono ?_;rintro e W3 ⟨rfl,f3⟩;have HB3:=hid (HB2.out.fr f3 (by simp));have HF3:=hid (HF2.out.trans f3);have hY:=HC.out _ HB3.out;clear f3)|fail)
 go_wp2;go_ret;exact⟨rfl,HF3.out⟩
end
theorem LS.same{t u:TM}{inn:Nat→Int}(h:LS t inn)(ha:u.a=t.a)(hr:∀f,u.rt f=t.rt f)(hh:∀y r,r=3∨r=4→u.hd y r=t.hd y r):LS u inn:=by
 refine⟨fun c hc=> ?_,fun x hx hn=> ?_,fun x hx=>h.le x (by rw[←ha];exact hx)⟩
 ·rw[ha,hr]
  exact Lk.same (t:=t) (u:=u) ha (h.ln c hc) (fun y _=>⟨hh y 3 (.inl rfl),hh y 4 (.inr rfl)⟩)
 ·rw[hh x 3 (.inl rfl),hh x 4 (.inr rfl)]
  exact h.out x (by rw[←ha];exact hx) hn
structure Sla(t u:TM):Prop where
 a:u.a=t.a
 s:u.s=t.s
 sl:u.sl=t.sl
 ft:u.ft=t.ft
 rt: ∀f,f<3∨12<f→u.rt f=t.rt f
theorem Sla.refl(t:TM):Sla t t:=⟨rfl,rfl,rfl,rfl,fun _ _=>rfl⟩
theorem Sla.trans{t u v:TM}(h:Sla t u)(k:Sla u v):Sla t v:=⟨k.a.trans h.a,k.s.trans h.s,k.sl.trans h.sl,k.ft.trans h.ft,fun f hf=>(k.rt f hf).trans (h.rt f hf)⟩
theorem Lis.sla{t u:TM}(h:Lis t u):Sla t u:=⟨h.a,h.s,h.sl,h.ft,h.rt⟩
theorem znn(c:Nat)(h:c≤9):cszZ c=csz c:=by
 unfold cszZ;by_cases h0:c=0
 ·subst h0;rfl
 ·rw[if_pos (by omega),Int.toNat_natCast]
theorem zno(c:Nat)(h:c≤9):nbkZ c=nbk c:=by
 unfold nbkZ;by_cases h0:c=0
 ·subst h0;rfl
 ·rw[if_pos (by omega),Int.toNat_natCast]
theorem znp(c:Nat)(h:c≤9):zng c=cpad c:=by
 unfold zng;by_cases h0:c=0
 ·subst h0;rfl
 ·rw[if_pos (by omega),Int.toNat_natCast]
theorem znq(c:Nat)(h:c≤9):csz c*nbk c≤1024∧csz c≤512∧nbk c≤32:=by
 by_cases h0:c=0
 ·subst h0;decide
 ·obtain⟨c1,c2,c3,c4,c5,c6,c7⟩:=zmc c (by omega) h
  omega
theorem gen8{w:World}{g:Nat}{t:TypeId}{cs:Array Value}{v0 v1 v2 v3 v4 v5 v6 v7:Value}(C:World→Prop)(h:Blk w g t cs)(hs:cs.size=8)
  (K:∀w9,Blk w9 g t #[v0,v1,v2,v3,v4,v5,v6,v7]→Fr [g] w w9→C w9):C ((((((((w.setCell ⟨g,0,none⟩ v0).setCell ⟨g,1,none⟩ v1).setCell ⟨g,2,none⟩ v2).setCell ⟨g,3,none⟩ v3).setCell ⟨g,4,none⟩ v4).setCell ⟨g,5,none⟩ v5).setCell ⟨g,6,none⟩ v6).setCell ⟨g,7,none⟩ v7):=by
 have:=K (w.setCells g 0 [v0,v1,v2,v3,v4,v5,v6,v7]) (by
  have:=h.setCells [v0,v1,v2,v3,v4,v5,v6,v7] 0;rw[zai _ _ (by rw[hs];rfl)]at this;exact this) ((Fr.refl [g] w).setCells (.inl (by simp)) _ _)
 exact this
def prC(m:Nat)(i z c l f n p:Int):Array Value:= #[.pointer (some ⟨m,0,none⟩),.int .i64 i,.int .i64 z,.int .i64 c,.int .i64 l,.int .u32 f,.int .i64 n,.int .i64 p]
theorem blk8{W:World}{B:Nat}{t:TypeId}{v0 v1 v2 v3 v4 v5 v6 v7:Value}(h:Blk W B t #[v0,v1,v2,v3,v4,v5,v6,v7]):W.cell? ⟨B,0,none⟩=some v0∧W.cell? ⟨B,1,none⟩=some v1∧W.cell? ⟨B,2,none⟩=some v2∧W.cell? ⟨B,3,none⟩=some v3∧W.cell? ⟨B,4,none⟩=some v4∧W.cell? ⟨B,5,none⟩=some v5∧W.cell? ⟨B,6,none⟩=some v6∧W.cell? ⟨B,7,none⟩=some v7:=
 ⟨h.cell 0,h.cell 1,h.cell 2,h.cell 3,h.cell 4,h.cell 5,h.cell 6,h.cell 7⟩
section
variable{w:World}{q:MH}{t:TM}
theorem sof(h:IsT w q t)(i:Nat)(hi:i<t.a):Calls prog 123 #[q,i] w (zR (.agg (prC q.m i (sla t i) (t.hd i 0) (t.hd i 1) (t.hd i 2) (t.hd i 3) (t.hd i 4))) fun w'=>IsT w' q t∧Fr q.blocks w w'):=by
 have hg:=fun W hW=>zjt (w:=W) (q:=q) (t:=t) hW i hi;have hlt:=h.lt;have hts:=h.tab.size;have hc:=hid (fun W hW=>tcfg (w:=W) (q:=q) (t:=t) hW)
 have hs:=hid (fun W (hW:IsT W q t)=>by
  have:=znm hW.tab t.a t.s hW.ok.cfg i hi;unfold cfgV at this;exact this)
 unfold prC;unfold sla;unfold zjs at hg;generalize zdv t.a t.s+1024*i=z at*;generalize t.hd i 0=v0 at*;generalize t.hd i 1=v1 at*;generalize t.hd i 2=v2 at*;generalize t.hd i 3=v3 at*;generalize t.hd i 4=v4 at*;generalize t.a=a at*;generalize t.s=s at*;clear hi;go_in;go_wp2_with fail;go_call hg _ (h.alloc _) as e w1 ⟨rfl,h1,f1⟩;have H1:=h1.alloc;have B4:=((Blk.new w 187 (#[.pointer none,.int .i64 0,.int .i64 0,.int .i64 0,.int .i64 0,.int .u32 0,.int .i64 0,.int .i64 0])).fr f1 (fun hm=>by have:=hlt _ hm;omega)).alloc;have B5:=Blk.new w1 168 #[.int .i64 v0,.int .i64 v1,.int .u32 v2,.int .i64 v3,.int .i64 v4];have HF1s:w.heap.size<w1.heap.size:=by have:=f1.size;simp at this;omega
 have F1:=(((Fr.refl q.blocks w).alloc _).trans f1).alloc;clear hg h1 f1;go_wp2_with fail;have HC:=hid (fun W' (hb:Blk W' w1.heap.size 168 #[v0,v1,.int .u32 v2,v3,v4])=>And.intro (show W'.cell? ⟨w1.heap.size,0,none⟩=some (.int .i64 v0)from hb.cell 0) (And.intro (show W'.cell? ⟨w1.heap.size,1,none⟩=some (.int .i64 v1)from hb.cell 1) (And.intro (show W'.cell? ⟨w1.heap.size,2,none⟩=some (.int .u32 v2)from hb.cell 2) (And.intro (show W'.cell? ⟨w1.heap.size,3,none⟩=some (.int .i64 v3)from hb.cell 3) (show W'.cell? ⟨w1.heap.size,4,none⟩=some (.int .i64 v4)from hb.cell 4)))));have hY:=HC.out _ B5.drew;refine wp_region_held_drew (S:=fun W'=>W'.cell? ⟨w1.heap.size,0,none⟩=some (.int .i64 v0)∧W'.cell? ⟨w1.heap.size,1,none⟩=some (.int .i64 v1)∧W'.cell? ⟨w1.heap.size,2,none⟩=some (.int .u32 v2)∧W'.cell? ⟨w1.heap.size,3,none⟩=some (.int .i64 v3)∧W'.cell? ⟨w1.heap.size,4,none⟩=some (.int .i64 v4)) (by kernel_rfl) (hY) (fun yH=> ?_);refine tkZ 0 ?_;refine tkZ 1 ?_;refine tkZ 2 ?_;refine tkZ 4 ?_;refine tkZ 6 ?_;refine tkC 3 fun K hK=> ?_;go_simp;go_call hc.out _ (H1 _).drew as e W2 ⟨rfl,f2⟩;have H2:=(H1 _).drew.fr0 f2;have HB2:=B5.drew.fr f2 (by simp);have HF2:=(F1 _).drew.step f2 (by simp);have hA2:=(B4 _).drew.fr f2 (by simp);have hY:=HC.out _ HB2;clear f2;go_wp2_with fail;refine hK.out _ _ _ hY fun yH=> ?_;clear hK K;refine tkC 5 fun K hK=> ?_;go_simp;go_call hs.out _ H2 as e W3 ⟨rfl,f3⟩;have H3:=H2.fr0 f3;have HB3:=HB2.fr f3 (by simp);have HF3:=HF2.step f3 (by simp);have hA3:=hA2.fr f3 (by simp);have hY:=HC.out _ HB3;clear f3;go_wp2_with fail;refine hK.out _ _ _ hY fun yH=> ?_;clear hK K;refine tkZ 7 ?_;refine wpAnyH_ready (rs:= [8]) (by kernel_rfl) (by simp) ?_;refine AllReadyH.cons (o:= ?oz) ?hiz (fun K hK=> ?hcz) AllReadyH.nil;case hiz=>(simp only[gE];rfl)
 have hA3':=hA3;(have d0:=hA3'.cell 0;have z0:=hA3'.frozen 0;have d1:=hA3'.cell 1;have z1:=hA3'.frozen 1;have d2:=hA3'.cell 2;have z2:=hA3'.frozen 2;have d3:=hA3'.cell 3;have z3:=hA3'.frozen 3;have d4:=hA3'.cell 4;have z4:=hA3'.frozen 4;have d5:=hA3'.cell 5;have z5:=hA3'.frozen 5;have d6:=hA3'.cell 6;have z6:=hA3'.frozen 6;have d7:=hA3'.cell 7;have z7:=hA3'.frozen 7;simp at d0 d1 d2 d3 d4 d5 d6 d7);go_simp;refine gen8 (fun w9=>K _ w9) hA3' rfl ?_;intro w9 hn9 hf9;clear d0 z0 d1 z1 d2 z2 d3 z3 d4 z4 d5 z5 d6 z6 d7 z7;refine hK.out _ _ (HC.out _ (HB3.fr hf9 (by simp;have:=HF1s;omega))) (fun hHeld=> ?_);clear hK K;try simp only[Act.put,List.setIfInBounds_toArray,List.set_cons_zero,List.set_cons_succ]
 refine wpAnyH_done (by kernel_rfl) ?_ _;go_wp2;have q0:=hn9.cell 0;have q1:=hn9.cell 1;have q2:=hn9.cell 2;have q3:=hn9.cell 3;have q4:=hn9.cell 4;have q5:=hn9.cell 5;have q6:=hn9.cell 6;have q7:=hn9.cell 7;simp at q0 q1 q2 q3 q4 q5 q6 q7;refine bodyPost_ret (by simp[results,results123,go_sem,q0,q1,q2,q3,q4,q5,q6,q7];try rfl) rfl ⟨rfl,H3.fr hf9 (fun k hk hm=>by simp at hm;have:=hlt k hk;omega) (fun k hk hm=>by simp at hm;have:=hts;omega),HF3.step hf9 (fun k hk=> .inr (by simp at hk;omega))⟩
theorem znr(hM:TabM w)(m:Nat)(i z c l f n p:Int)(k:Nat)(hk:k≤9)(hc:c=k):Calls prog 131 #[.agg (prC m i z c l f n p)] w (zN (csz k) w):=by
 have hs:=fun W hW=>zni (w:=W) hW c;rw[hc,znn k hk,←hc]at hs;generalize csz k=s at*;unfold prC;clear hk hc;go_in;go_wp2_with fail;go_call hs _ (hM.alloc _) as e w1 ⟨rfl,rfl⟩;go_wp2;go_ret;exact⟨rfl,(Fr.refl [] w).alloc _⟩
theorem zns(hM:TabM w)(m:Nat)(i z c l f n p:Int)(k:Nat)(hk:k≤9)(hc:c=k):Calls prog 232 #[.agg (prC m i z c l f n p)] w (zN (.int .i64 (csz k*nbk k:Nat)) w):=by
 have hs:=hid (fun W hW=>znr (w:=W) hW m i z c l f n p k hk hc);have hb:=fun W hW=>znj (w:=W) hW c;rw[hc,zno k hk,←hc]at hb;obtain⟨m1,m2,m3⟩:=znq k hk
 have w1:IntKind.i64.wrap ((csz k:Int)*(nbk k:Int))=((csz k*nbk k:Nat):Int):=by
  rw[Int.natCast_mul];exact i64_in _ (by rw[←Int.natCast_mul];omega)
 generalize csz k*nbk k=r at*;generalize csz k=s at*;generalize nbk k=b at*;unfold prC at hs⊢;clear hk hc m1 m2 m3;go_in;go_wp2_with fail;have B0:=(Blk.new w 187 #[.pointer (some ⟨m,0,none⟩),.int .i64 i,.int .i64 z,.int .i64 c,.int .i64 l,.int .u32 f,.int .i64 n,.int .i64 p]).drew;have F0:=((Fr.refl [] w).alloc (.cells #[some m,i,z,c,l,.int .u32 f,n,p] 187)).drew;have HC:=hid (fun W' (hb:Blk W' w.heap.size 187 #[some m,i,z,c,l,.int .u32 f,n,p])=>And.intro (show W'.cell? ⟨w.heap.size,0,none⟩=some (some m:Value)from hb.cell 0) (And.intro (show W'.cell? ⟨w.heap.size,1,none⟩=some (.int .i64 i)from hb.cell 1) (And.intro (show W'.cell? ⟨w.heap.size,2,none⟩=some (.int .i64 z)from hb.cell 2) (And.intro (show W'.cell? ⟨w.heap.size,3,none⟩=some (.int .i64 c)from hb.cell 3) (And.intro (show W'.cell? ⟨w.heap.size,4,none⟩=some (.int .i64 l)from hb.cell 4) (And.intro (show W'.cell? ⟨w.heap.size,5,none⟩=some (.int .u32 f)from hb.cell 5) (And.intro (show W'.cell? ⟨w.heap.size,6,none⟩=some (.int .i64 n)from hb.cell 6) (show W'.cell? ⟨w.heap.size,7,none⟩=some (.int .i64 p)from hb.cell 7))))))));have hY:=HC.out _ B0;refine wp_region_held_drew (S:=fun W'=>W'.cell? ⟨w.heap.size,0,none⟩=some (some m:Value)∧W'.cell? ⟨w.heap.size,1,none⟩=some (.int .i64 i)∧W'.cell? ⟨w.heap.size,2,none⟩=some (.int .i64 z)∧W'.cell? ⟨w.heap.size,3,none⟩=some (.int .i64 c)∧W'.cell? ⟨w.heap.size,4,none⟩=some (.int .i64 l)∧W'.cell? ⟨w.heap.size,5,none⟩=some (.int .u32 f)∧W'.cell? ⟨w.heap.size,6,none⟩=some (.int .i64 n)∧W'.cell? ⟨w.heap.size,7,none⟩=some (.int .i64 p)) (by kernel_rfl) (hY) (fun yH=> ?_);refine tkZ 0 ?_;refine tkZ 2 ?_;refine tkZ 3 ?_;refine tkZ 4 ?_;refine tkC 1 fun K hK=> ?_;go_simp;go_call hs.out _ (hM.fr F0 (by simp)) as e W2 ⟨rfl,f2⟩;have B2:=B0.fr f2 (by simp);have F2:=F0.trans f2;have hY:=HC.out _ B2;clear f2;go_wp2_with fail;refine hK.out _ _ _ hY fun yH=> ?_;clear hK K;refine tkC 5 fun K hK=> ?_;go_simp;go_call hb _ (hM.fr F2 (by simp)) as e W3 ⟨rfl,rfl⟩;go_wp2_with fail;refine hK.out _ _ _ hY fun yH=> ?_;clear hK K;refine tkZ 6 ?_;refine tkZ 7 ?_;refine wpAnyH_done (by kernel_rfl) ?_ _;go_wp2;go_ret;exact⟨rfl,F2⟩
theorem pset(h:IsT w q t)(i z c l f n p:Int)(x k b g:Nat)(hx:x<t.a)(hk:k≤9)(hb:b≤65535)(hg:g<4294967296)(hi:i=x)(hc:c=k)(hl:l=b)(hf:f=g):Calls prog 135 #[.agg (prC q.m i z c l f n p)] w (zR (.tuple #[]) fun w'=>IsT w' q (t.setL x k b g)∧Fr q.blocks w w'):=by
 have hs:=hid (fun W hW=>zjw (w:=W) (q:=q) (t:=t) hW x k b g hx hk hb hg);rw[←hi,←hc,←hl,←hf]at hs;generalize t.setL x k b g=t' at*;unfold prC;clear hx hk hb hg hi hc hl hf;go_in;go_wp2_with fail;go_call hs.out _ (h.alloc _) as e w1 ⟨rfl,h1,f1⟩;go_wp2;go_end0;exact⟨rfl,h1,((Fr.refl q.blocks w).alloc _).trans f1⟩
theorem znt(h:IsT w q t)(i z c l f n p:Int)(k x kd:Nat)(hk:1≤k∧k≤9)(hc:c=k)(h4:x %4=0)(hl:x+csz k≤zdw t.a t.s)(hkd:KdOn t x (csz k) kd):Calls prog 130 #[.agg (prC q.m i z c l f n p),x] w (zR (.bool ((kd:Int)==5)) fun w'=>Fr [] w w'):=by
 have hs:=hid (fun W hW=>znr (w:=W) hW q.m i z c l f n p k hk.2 hc);obtain⟨c1,c2,c3,_⟩:=zmc k hk.1 hk.2;have hn:=hid (fun W (hW:IsT W q t)=>zne hW x (csz k) kd h4 (by omega) (by omega) hl hkd x (csz k) rfl rfl);generalize hm:q.m=m at*;generalize csz k=s at*;unfold prC at hs⊢;clear hk hc h4 hl hkd c1 c2 c3 hm;go_in;go_wp2_with fail;have B0:=(Blk.new w 187 #[.pointer (some ⟨m,0,none⟩),.int .i64 i,.int .i64 z,.int .i64 c,.int .i64 l,.int .u32 f,.int .i64 n,.int .i64 p]).drew;have F0:=((Fr.refl [] w).alloc (.cells #[some m,i,z,c,l,.int .u32 f,n,p] 187)).drew;have HC:=hid (fun W' (hb:Blk W' w.heap.size 187 #[some m,i,z,c,l,.int .u32 f,n,p])=>And.intro (show W'.cell? ⟨w.heap.size,0,none⟩=some (some m:Value)from hb.cell 0) (And.intro (show W'.cell? ⟨w.heap.size,1,none⟩=some (.int .i64 i)from hb.cell 1) (And.intro (show W'.cell? ⟨w.heap.size,2,none⟩=some (.int .i64 z)from hb.cell 2) (And.intro (show W'.cell? ⟨w.heap.size,3,none⟩=some (.int .i64 c)from hb.cell 3) (And.intro (show W'.cell? ⟨w.heap.size,4,none⟩=some (.int .i64 l)from hb.cell 4) (And.intro (show W'.cell? ⟨w.heap.size,5,none⟩=some (.int .u32 f)from hb.cell 5) (And.intro (show W'.cell? ⟨w.heap.size,6,none⟩=some (.int .i64 n)from hb.cell 6) (show W'.cell? ⟨w.heap.size,7,none⟩=some (.int .i64 p)from hb.cell 7))))))));have hY:=HC.out _ B0;refine wp_region_held_drew (S:=fun W'=>W'.cell? ⟨w.heap.size,0,none⟩=some (some m:Value)∧W'.cell? ⟨w.heap.size,1,none⟩=some (.int .i64 i)∧W'.cell? ⟨w.heap.size,2,none⟩=some (.int .i64 z)∧W'.cell? ⟨w.heap.size,3,none⟩=some (.int .i64 c)∧W'.cell? ⟨w.heap.size,4,none⟩=some (.int .i64 l)∧W'.cell? ⟨w.heap.size,5,none⟩=some (.int .u32 f)∧W'.cell? ⟨w.heap.size,6,none⟩=some (.int .i64 n)∧W'.cell? ⟨w.heap.size,7,none⟩=some (.int .i64 p)) (by kernel_rfl) (hY) (fun yH=> ?_);refine tkZ 0 ?_;refine tkZ 1 ?_;refine tkZ 2 ?_;refine tkZ 3 ?_;refine tkC 4 fun K hK=> ?_;go_simp;go_call hs.out _ (h.fr0 F0).tab as e W2 ⟨rfl,f2⟩;have B2:=B0.fr f2 (by simp);have F2:=F0.trans f2;have hY:=HC.out _ B2;clear f2;go_wp2_with fail;refine hK.out _ _ _ hY fun yH=> ?_;clear hK K;refine tkC 5 fun K hK=> ?_;go_simp;go_call hn.out _ (h.fr0 F2) as e W3 ⟨rfl,rfl⟩;go_wp2_with fail;refine hK.out _ _ _ hY fun yH=> ?_;clear hK K;refine tkZ 6 ?_;refine tkZ 7 ?_;refine wpAnyH_done (by kernel_rfl) ?_ _;go_wp2;go_ret;exact⟨rfl,F2⟩
end
theorem znu(w:World)(q:MH)(z:MS)(h:IsM w q z)(x n k:Nat)(hE:x+n≤z.l.length)(hm:∀i,i<n→mayL z.ks ((x+i:Nat):Int) 1 k=true):Calls prog 143 #[q,x,n,k] w fun e w'=>∃v w1,e= .returned v∧IsM w1 q z∧Fr [q.pw] w w1∧zde w1 ((z.l.drop x).take n) v w':=by
 have hr:=zfv w q z h x n k hE hm;have HZ:=hid (fun W (hM:IsM W q z)=>zdg W q.pa q.ga q.cap z.l hM.ar x n hE);generalize(z.l.drop x).take n=l at*;clear h;go_in;go_wp2_with fail;go_call hr as e w1 ⟨rfl,h1,f1⟩;have c1:=h1.st.cell 1;simp at c1;clear hr;go_wp2_with fail;go_call HZ.out _ h1 as e w2 ⟨v,rfl,h2⟩;go_wp2;go_ret;exact⟨v,w1,rfl,h1,f1,h2⟩
theorem znv(w:World)(q:MH)(z:MS)(h:IsM w q z)(x k c:Nat)(a:Option Addr)(m:List Nat)(hb:Byt w a m)(hg:∀g o,a=some ⟨g,o,none⟩→g≠q.pw)(hE:x+m.length≤z.l.length)(hm:∀i,i<m.length→mayL z.ks ((x+i:Nat):Int) 1 k=true):Calls prog 112 #[q,x,.slice a m.length c,k] w (zR true fun w'=>IsM w' q {z with l:=spl z.l x m}∧Fr [q.pw,q.ga] w w'):=by
 have hr:=zfv w q z h x m.length k hE hm
 have hbt:∀W,Fr [q.pw] w W→Byt W a m:=fun W hf=>⟨fun i hi=>by
  obtain⟨g,o,e,h1,h2⟩:=hb.at_ i hi;exact⟨g,o,e,(hf.cell (p:=⟨g,o+i,none⟩) h2 (by simpa using hg g o e)).trans h1,Nat.lt_of_lt_of_le h2 hf.size⟩,hb.byte,hb.len⟩
 have HZ:=hid (fun W (hM:IsM W q z) (hf:Fr [q.pw] w W)=>zdm W q.pa q.ga q.cap z.l hM.ar x c a m (hbt W hf) hE);have hl2:(spl z.l x m).length=z.l.length:=zda _ _ _ hE
 have HIS:=(show∀W W',IsM W q z→Fr [q.ga] W W'→IsA W' q.pa q.ga q.cap (spl z.l x m)→IsM W' q {z with l:=spl z.l x m}from fun W W' hM hf hA=>by
  obtain⟨lk,hw⟩:=hM.wt;obtain⟨_,_,_,n4,_,_,n7,_,n9,_⟩:=hM.nes;exact⟨hM.st.fr hf (by simp;omega),⟨lk,hw.fr hf (by simp;omega) (by simp;omega)⟩,hA,hM.ne,hM.cfg,hl2.trans hM.size,hl2.trans hM.grains⟩)
 have hml:=hb.len;generalize spl z.l x m=l' at*;generalize m.length=n at*;clear h hb hg hbt;go_in;go_wp2_with fail;go_call hr as e w1 ⟨rfl,h1,f1⟩;have c1:=h1.st.cell 1;simp at c1;have hz:=hid (HZ.out _ h1 f1);clear hr HZ;go_wp2_with fail;go_call hz.out as e w2 ⟨rfl,h2,f2⟩;have H2:=HIS _ _ h1 f2 h2;have F2:=(f1.mono (S':= [q.pw,q.ga]) (fun k hk=> .inl (by simp at hk;simp[hk]))).trans (f2.mono (S':= [q.pw,q.ga]) (fun k hk=> .inl (by simp at hk;simp[hk])));clear h2 f1 f2;go_wp2;go_ret;exact⟨rfl,H2,F2⟩
def TM.setF(t:TM)(x n:Nat)(f:Nat→Nat):TM:={t with bt:=fun i=>if x≤zdv t.a t.s+i∧zdv t.a t.s+i<x+n then f (zdv t.a t.s+i-x)else t.bt i}
theorem znw{t:TM}(h:t.Ok)(x n:Nat)(f:Nat→Nat)(hf:∀j,j<n→f j<256):(t.setF x n f).Ok:=
 ⟨h.cfg,h.rt,h.hd,h.sl,fun i=>by
  show(if _ then _ else _)<256;split
  ·exact hf _ (by omega)
  ·exact h.bt i,h.kd⟩
theorem znx{t:TM}(h:t.Ok)(x n:Nat)(f:Nat→Nat)(hf:∀j,j<n→f j<256)(hx:zdv t.a t.s≤x)(i:Nat):zfz (t.setF x n f) i=if x≤i∧i<x+n then f (i-x)else zfz t i:=by
 by_cases hi:zdv t.a t.s≤i
 ·rw[zle (t.setF x n f) i hi (znw h x n f hf),zle t i hi h]
  show(if x≤zdv t.a t.s+(i-zdv t.a t.s)∧zdv t.a t.s+(i-zdv t.a t.s)<x+n then f (zdv t.a t.s+(i-zdv t.a t.s)-x)else _)=_;rw[show zdv t.a t.s+(i-zdv t.a t.s)=i by omega];rfl
 ·rw[zld t (t.setF x n f) rfl rfl rfl rfl rfl i (by omega) h,if_neg (by omega)]
theorem zny{t:TM}(h:t.Ok)(x n:Nat)(f:Nat→Nat)(hf:∀j,j<n→f j<256)(hx:zdv t.a t.s≤x):Out t (t.setF x n f) x n:=
 ⟨fun i _ hn=>by rw[znx h x n f hf hx,if_neg (by omega)],fun _ _ _=>rfl⟩
theorem znz{t:TM}(h:t.Ok)(x n:Nat)(f:Nat→Nat)(hf:∀j,j<n→f j<256)(hx:zdv t.a t.s≤x):ByOn (t.setF x n f) x n f:=fun j hj=>by
 rw[znx h x n f hf hx,if_pos (by omega)];congr 1;omega
theorem zn0{t u:TM}(x:Nat)(m:List Nat)(hE:x+m.length≤zdw t.a t.s)(ha:u.a=t.a)(hs:u.s=t.s)(hb:∀i,zfz u i=if x≤i∧i<x+m.length then m[i-x]?.getD 0 else zfz t i):spl t.ms.l x m=u.bytes:=by
 have hl':t.ms.l.length=zdw t.a t.s:=TM.bytes_len t;apply List.ext_getElem?;intro i;have hle:(spl t.ms.l x m).length=t.ms.l.length:=zda _ _ _ (by rw[hl'];exact hE);have hle2:u.bytes.length=zdw t.a t.s:=by rw[TM.bytes_len,ha,hs]
 rcases Nat.lt_or_ge i (zdw t.a t.s)with hi|hi
 ·have g1:=zdb t.ms.l x m (by rw[hl'];exact hE) i
  have g2:u.bytes[i]?.getD 0=zfz u i:=TM.bytes_get u i (by rw[ha,hs];exact hi);have g3:t.ms.l[i]?.getD 0=zfz t i:=TM.bytes_get t i hi;rw[hb]at g2;rw[g3]at g1;have h1:i<(spl t.ms.l x m).length:=by rw[hle,hl'];exact hi
  have h2:i<u.bytes.length:=by rw[hle2];exact hi
  have g4:(spl t.ms.l x m)[i]?.getD 0=u.bytes[i]?.getD 0:=by rw[g1,g2]
  rw[List.getElem?_eq_getElem h1,List.getElem?_eq_getElem h2]at g4⊢;simpa using g4
 ·rw[List.getElem?_eq_none (by rw[hle,hl'];exact hi),List.getElem?_eq_none (by rw[hle2];exact hi)]
theorem zn1{t:TM}{x n k:Nat}(hl:x+n≤zdw t.a t.s)(hk:KdOn t x n k)(h4:x %4=0)(k0:k≠0)(m:Nat)(hm:m≤n)(hn:n %4=0):∀i,i<m→mayL t.ms.ks ((x+i:Nat):Int) 1 k=true:=fun i hi=>by
 have h4':=zf9 t.a t.s;exact zf4 _ (x+i) 1 k (.inl rfl) (Nat.mod_one _) k0 (by show _≤4*t.kinds.length;rw[TM.kinds_len];omega) (fun g h1 h2=>(TM.kinds_get t g (by omega)).trans (hk g (by omega) (by omega)))
def TM.part(t:TM)(x n:Nat):List Nat:=(List.range n).map fun j=>zfz t (x+j)
theorem zn2(t:TM)(x n:Nat)(hE:x+n≤zdw t.a t.s):(t.ms.l.drop x).take n=t.part x n:=by
 have hl':t.ms.l.length=zdw t.a t.s:=TM.bytes_len t;apply List.ext_getElem?;intro i;by_cases hi:i<n
 ·have g3:t.ms.l[x+i]?.getD 0=zfz t (x+i):=TM.bytes_get t (x+i) (by omega)
  rw[List.getElem?_take_of_lt hi,List.getElem?_drop];rw[List.getElem?_eq_getElem (by rw[hl'];omega)]at g3⊢;simp[TM.part,hi]at g3⊢;exact g3
 ·rw[List.getElem?_eq_none (by simp;omega),List.getElem?_eq_none (by simp[TM.part];omega)]
section
variable{w:World}{q:MH}{t:TM}
def zn3(w:World)(q:MH)(t:TM)(l:List Nat)(e:Ending)(w':World):Prop:= ∃v g cap,e= .returned v∧v= .slice (some ⟨g,0,none⟩) l.length cap∧w.heap.size≤g∧RowB w' g cap l∧IsT w' q t∧Fr q.blocks w w'
theorem zn4(h:IsT w q t)(x n N k:Nat)(hl:x+N≤zdw t.a t.s)(hk:KdOn t x N k)(h4:x %4=0)(hN:N %4=0)(hn:n≤N)(k0:k≠0)(x' n' k':Int)(ex:x'=x)(en:n'=n)(ek:k'=k):Calls prog 143 #[q,x',n',k'] w (zn3 w q t (t.part x n)):=by
 subst ex en ek;have hl':t.ms.l.length=zdw t.a t.s:=TM.bytes_len t;refine(znu w q t.ms h.m x n k (by rw[hl'];omega) (zn1 hl hk h4 k0 n hn hN)).mono fun e w' ⟨v,w1,he,h1,f1,g,cap,e1,hg,hr,f2⟩=> ?_;rw[zn2 t x n (by omega)]at e1 hr;have f:Fr q.blocks w w':=f1.pw.trans f2.nil;exact⟨v,g,cap,he,e1,Nat.le_trans f1.size hg,hr,⟨h.ok,h1.fr f2 (by simp),h.tab.fr (f1.step f2 (by simp)).pw h.hi,h.hi⟩,f⟩
theorem zn5(h:IsT w q t)(x N k c:Nat)(a:Option Addr)(m:List Nat)(hb:Byt w a m)(hg:∀g o,a=some ⟨g,o,none⟩→g≠q.pw)(hx:zdv t.a t.s≤x)(hl:x+N≤zdw t.a t.s)(hk:KdOn t x N k)(h4:x %4=0)(hN:N %4=0)(hn:m.length≤N)(k0:k≠0)(x' k':Int)(ex:x'=x)(ek:k'=k):Calls prog 112 #[q,x',.slice a m.length c,k'] w (zR true fun w'=>IsT w' q (t.setF x m.length (fun j=>m[j]?.getD 0))∧Fr q.blocks w w'):=by
 subst ex ek;have hl':t.ms.l.length=zdw t.a t.s:=TM.bytes_len t
 have hf:∀j,j<m.length→m[j]?.getD 0<256:=fun j hj=>by
  rw[List.getElem?_eq_getElem hj];exact hb.byte _ (List.getElem_mem hj)
 refine(znv w q t.ms h.m x k c a m hb hg (by rw[hl'];omega) (zn1 hl hk h4 k0 m.length hn hN)).mono fun e w' ⟨he,hm,hf'⟩=>⟨he,⟨znw h.ok x m.length _ hf,?_,h.tab.fr hf'.pwga h.hi,h.hi⟩,hf'.pwga⟩;have e1:spl t.ms.l x m=(t.setF x m.length (fun j=>m[j]?.getD 0)).bytes:=zn0 x m (by omega) rfl rfl (znx h.ok x m.length _ hf hx);rw[e1]at hm;exact hm
end
theorem IsH.fr1{w w':World}{q:MH}{t:TM}{B:Nat}(h:IsH w q t)(hf:Fr [B] w w')(hB:B∉q.blocks)(hg:5≤B):IsH w' q t:=
 ⟨h.m.fr hf (fun k hk hm=>by simp at hm;subst hm;exact hB hk) (fun k hk hm=>by simp at hm;omega),h.tabs.fr hf (fun k hk=>by simp at hk;omega),h.hi⟩
theorem IsH.drew{w:World}{q:MH}{t:TM}(h:IsH w q t):IsH w.drew q t:=h.fr0 (Fr.refl [] w).drew
theorem IsH.ok{w:World}{q:MH}{t:TM}(h:IsH w q t):t.Ok:=h.m.ok
theorem zn6(g:Nat):(HB.lnk g).right=true:=by
 have hl:∀k,k≤12→(HB.lnk g).lackTo k=false:=fun k hk=>by
  induction k with
  |zero=>rfl
  |succ k ih=>
   rw[HB.lackTo,ih (by omega)];unfold HB.lackAt;rw[zm2 g k (by omega)];by_cases e:k=4
   ·subst e
    have:((whZ (HB.lnk g).tag ((4:Nat):Int)).2==0)=false:=by show((whZ 0 4).2==0)=false;decide
    rw[this];simp
   ·simp[lkN,e]
 unfold HB.right;rw[hl 12 (by decide)];rfl
section
variable{w:World}{q:MH}{t:TM}{B:Nat}
theorem zn7(h:IsH w q t)(x n k:Nat)(hx:zdv t.a t.s≤x)(h4:x %4=0)(hn:n %4=0)(hl:x+n≤zdw t.a t.s)(hk:k≤8)(x' n' k':Int)(ex:x'=x)(en:n'=n)(ek:k'=k):Calls prog 132 #[q,x',n',k'] w (zR (0:Int) fun w'=>IsH w' q (t.setK x n k)∧Fr q.blocks w w'):=
 (zlq h.m x n k hx h4 hn hl hk x' n' k' ex en ek).mono fun e w' ⟨he,hm,hf⟩=>⟨he,h.step hm hf,hf⟩
theorem zn8(h:IsH w q t)(x n k:Nat)(hx:zdv t.a t.s≤x)(hl:x+n≤zdw t.a t.s)(hk:KdOn t x n k)(h4:x %4=0)(hn:n %4=0)(k0:k≠0)(x' n' k':Int)(ex:x'=x)(en:n'=n)(ek:k'=k):Calls prog 76 #[q,x',n',k'] w (zR true fun w'=>IsH w' q (t.setB x n 0)∧Fr q.blocks w w'):=
 (znd h.m x n k hx hl hk h4 hn k0 x' n' k' ex en ek).mono fun e w' ⟨he,hm,hf⟩=>⟨he,h.step hm hf,hf⟩
theorem zn9(h:IsH w q t)(i z c l f n p:Int)(x k b g:Nat)(hx:x<t.a)(hk:k≤9)(hb:b≤65535)(hg:g<4294967296)(hi:i=x)(hc:c=k)(hl:l=b)(hf:f=g):Calls prog 135 #[.agg (prC q.m i z c l f n p)] w (zR (.tuple #[]) fun w'=>IsH w' q (t.setL x k b g)∧Fr q.blocks w w'):=
 (pset h.m i z c l f n p x k b g hx hk hb hg hi hc hl hf).mono fun e w' ⟨he,hm,hf⟩=>⟨he,h.step hm hf,hf⟩
def LisH(q:MH)(t:TM)(inn:Nat→Int)(w:World)(r:Int)(e:Ending)(w':World):Prop:=e= .returned r∧ ∃t',IsH w' q t'∧LS t' inn∧Lis t t'∧Fr q.blocks w w'
theorem hins{inn:Nat→Int}(h:IsH w q t)(hl:LS t inn)(c x:Int):Calls prog 133 #[q,c,x] w (LisH q t (insI t.a inn c x) w (insE t.a inn c x)):=
 (zjz h.m hl c x).mono fun e w' ⟨he,t',h1,h2,h3,h4⟩=>⟨he,t',h.step h1 h4,h2,h3,h4⟩
theorem hrem{inn:Nat→Int}(h:IsH w q t)(hl:LS t inn)(c x:Int):Calls prog 201 #[q,c,x] w (LisH q t (remI t.a inn c x) w (remE t.a inn c x)):=
 (zj0 h.m hl c x).mono fun e w' ⟨he,t',h1,h2,h3,h4⟩=>⟨he,t',h.step h1 h4,h2,h3,h4⟩
theorem zoa(h:IsH w q t)(i z c l f n p:Int)(x g:Nat)(n':Nat→Nat)(hp:HeadTo t x 0 6 n' 0)(hb:Blk w B 187 (prC q.m i z c l f n p))(hB:B∉q.blocks)(hg:5≤B)(hf:f=g)(hg4:g<4294967296)(hx4:x<4294967296):Calls prog 134 #[some B,x] w (zR (.tuple #[]) fun w'=>IsH w' q (t.push x g)∧Blk w' B 187 (prC q.m i z c l x n p)∧Fr (B::q.blocks) w w'):=by
 have hput:=fun W hW=>zl9 W q t hW x 0 6 n' hp (HB.lnk g) (zm1 g hg4) (zn6 g) rfl (.inl ⟨rfl,rfl⟩)
 have HP:=hid (fun W (hW:IsH W q t)=>(show Calls prog 88 #[q,x,.agg #[(0:Int),(0:Int),false,(0:Int),.int .u32 f,.int .u32 0,.int .u32 0,.int .u32 0,.int .u64 0,.int .u16 0,(0:Int),.int .u32 0]] W (zR (0:Int) fun w'=>IsH w' q (t.push x g)∧Fr q.blocks W w')from by
  rw[hf];have:=hput W hW;rw[znc]at this;exact this))
 have u1:IntKind.u32.wrap (x:Int)=(x:Int):=by
  have:IntKind.u32.wrap (x:Int)=(x:Int) %4294967296:=rfl;omega
 have HB:=hb;have HE:=fun W' W'' (h1:IsH W' q (t.push x g)) (hf:Fr [B] W' W'')=>h1.fr1 hf hB hg;generalize t.push x g=t' at*;generalize hm:q.m=m at*;unfold prC at HB⊢;clear hput hp hf hg4 hx4 hg hm hb;go_in;go_wp2_with fail;have HC:=hid (fun W' (hb:Blk W' B 187 #[some m,i,z,c,l,.int .u32 f,n,p])=>And.intro (show W'.cell? ⟨B,0,none⟩=some (some m:Value)from hb.cell 0) (And.intro (show W'.cell? ⟨B,1,none⟩=some (.int .i64 i)from hb.cell 1) (And.intro (show W'.cell? ⟨B,2,none⟩=some (.int .i64 z)from hb.cell 2) (And.intro (show W'.cell? ⟨B,3,none⟩=some (.int .i64 c)from hb.cell 3) (And.intro (show W'.cell? ⟨B,4,none⟩=some (.int .i64 l)from hb.cell 4) (And.intro (show W'.cell? ⟨B,5,none⟩=some (.int .u32 f)from hb.cell 5) (And.intro (show W'.cell? ⟨B,6,none⟩=some (.int .i64 n)from hb.cell 6) (show W'.cell? ⟨B,7,none⟩=some (.int .i64 p)from hb.cell 7))))))));have hY:=HC.out _ HB.drew;refine wp_region_held_drew (S:=fun W'=>W'.cell? ⟨B,0,none⟩=some (some m:Value)∧W'.cell? ⟨B,1,none⟩=some (.int .i64 i)∧W'.cell? ⟨B,2,none⟩=some (.int .i64 z)∧W'.cell? ⟨B,3,none⟩=some (.int .i64 c)∧W'.cell? ⟨B,4,none⟩=some (.int .i64 l)∧W'.cell? ⟨B,5,none⟩=some (.int .u32 f)∧W'.cell? ⟨B,6,none⟩=some (.int .i64 n)∧W'.cell? ⟨B,7,none⟩=some (.int .i64 p)) (by kernel_rfl) (hY) (fun yH=> ?_);refine tkZ 0 ?_;refine tkZ 1 ?_;refine tkZ 2 ?_;refine tkZ 3 ?_;refine tkZ 4 ?_;refine tkZ 5 ?_;refine tkZ 6 ?_;refine tkZ 7 ?_;refine tkZ 8 ?_;refine tkZ 9 ?_;refine tkZ 10 ?_;refine tkC 11 fun K hK=> ?_;go_simp;go_call HP.out _ (h.fr0 (Fr.refl [] w).drew) as e W2 ⟨rfl,h2,f2⟩;have B2:=HB.drew.fr f2 hB;have F2:=(Fr.refl q.blocks w).drew.trans f2;have hY:=HC.out _ B2;clear f2;go_wp2_with fail;refine hK.out _ _ _ hY fun yH=> ?_;clear hK K;refine wpAnyH_done (by kernel_rfl) ?_ _;clear hY;(have d0:=B2.cell 0;have z0:=B2.frozen 0;have d1:=B2.cell 1;have z1:=B2.frozen 1;have d2:=B2.cell 2;have z2:=B2.frozen 2;have d3:=B2.cell 3;have z3:=B2.frozen 3;have d4:=B2.cell 4;have z4:=B2.frozen 4;have d5:=B2.cell 5;have z5:=B2.frozen 5;have d6:=B2.cell 6;have z6:=B2.frozen 6;have d7:=B2.cell 7;have z7:=B2.frozen 7;simp at d0 d1 d2 d3 d4 d5 d6 d7);go_wp2;have f3:Fr [B] W2 (W2.setCell ⟨B,5,none⟩ (.int .u32 x)):=(Fr.refl _ _).setCell (.inl (by simp)) _;have b3:=B2.set 5 (.int .u32 x);simp at b3;have f4:Fr (B::q.blocks) w (W2.setCell ⟨B,5,none⟩ (.int .u32 x)):=(F2.mono (fun k hk=> .inl (List.mem_cons_of_mem _ hk))).setCell (.inl (by simp)) _;have h4:=HE _ _ h2 f3;clear d0 z0 d1 z1 d2 z2 d3 z3 d4 z4 d5 z5 d6 z6 d7 z7;go_end0;exact⟨rfl,h4,b3,f4⟩
def TM.popT(t:TM)(i c x l g:Nat):TM:=((t.setB (x+4) 4 0).setK x (csz c) 5).setL i c l g
theorem zob{t:TM}(h:t.Ok)(i c l g:Nat)(hc:c≤9)(hl:l≤65535)(hg:g<4294967296):(t.setL i c l g).Ok:=zgo (zgo (zgo h i 0 c (by show c<65536;omega)) i 1 l (by show l<65536;omega)) i 2 g hg
theorem zoc{t:TM}(h:t.Ok)(i c l g:Nat)(hc:c≤9)(hl:l≤65535)(hg:g<4294967296)(x n:Nat):Out t (t.setL i c l g) x n:=
 have h1:=zgo h i 0 c (by show c<65536;omega);have h2:=zgo h1 i 1 l (by show l<65536;omega);((zmi h i 0 c (by show c<65536;omega) x n).trans (zmi h1 i 1 l (by show l<65536;omega) x n) rfl rfl).trans (zmi h2 i 2 g hg x n) rfl rfl
theorem zod(t:TM)(i c l g y r:Nat):(t.setL i c l g).hd y r=if y=i∧r=0 then c else if y=i∧r=1 then l else if y=i∧r=2 then g else t.hd y r:=by
 unfold TM.setL;rw[TM.setHd_hd,TM.setHd_hd,TM.setHd_hd];by_cases e:y=i
 ·by_cases e0:r=0
  ·rw[if_neg (by omega),if_neg (by omega),if_pos ⟨e,e0⟩,if_pos ⟨e,e0⟩]
  ·by_cases e1:r=1
   ·rw[if_neg (by omega),if_pos ⟨e,e1⟩,if_neg (fun h=>e0 h.2),if_pos ⟨e,e1⟩]
   ·by_cases e2:r=2
    ·rw[if_pos ⟨e,e2⟩,if_neg (fun h=>e0 h.2),if_neg (fun h=>e1 h.2),if_pos ⟨e,e2⟩]
    ·rw[if_neg (fun h=>e2 h.2),if_neg (fun h=>e1 h.2),if_neg (fun h=>e0 h.2),if_neg (fun h=>e0 h.2),if_neg (fun h=>e1 h.2),if_neg (fun h=>e2 h.2)]
 ·rw[if_neg (fun h=>e h.1),if_neg (fun h=>e h.1),if_neg (fun h=>e h.1),if_neg (fun h=>e h.1),if_neg (fun h=>e h.1),if_neg (fun h=>e h.1)]
theorem Out.lis{t u v:TM}{x n:Nat}(h:Out t u x n)(hu:u.Ok)(hv:v.Ok)(hs:Sla t u)(k:Lis u v):Out t v x n:=h.trans (k.out hu hv x n) hs.a hs.s
theorem zoe{t:TM}{S:SS}(hok:t.Ok)(hs:SlI t S){i x:Nat}{F:List Nat}(hi:i<t.a)(hF:S.fr i=x::F)(u:TM)(huk:u.Ok)(hu:Lis (t.popT i (S.cls i) x ((S.lv i).length+1) (F.headD 0)) u)
  (hl:LS u (S.set i (S.cls i) F (insS x (S.lv i))).inn):SlI u (S.set i (S.cls i) F (insS x (S.lv i)))∧Sla t u∧Out t u x (csz (S.cls i))∧ByOn u x (csz (S.cls i)) (fun _=>0):=by
 have h1:=hs.each i hi;rw[hF]at h1;obtain⟨a1,_,a3,a4,a5,_⟩:=h1.at_ hok hi (x:=x) (.inl (by simp));have h0:=h1.none (x:=x) (.inl (by simp));have hc9:=h1.c9;obtain⟨c1,c2,c3,c4,c5,_⟩:=zmc (S.cls i) (by omega) hc9;have hlen:=h1.len h0
 have hfa:∀y∈F,y<4294967296:=fun y hy=>by
  obtain⟨_,_,b3,_,_,b6,_⟩:=h1.at_ hok hi (x:=y) (.inl (by simp[hy]));have:=(zmd hok i hi).2.2.2.2;omega
 have hg:F.headD 0<4294967296:=by
  rcases F with _|⟨y,F⟩
  ·exact(by decide:0<4294967296)
  ·exact hfa y (by simp)
 simp at hlen;have k1:=zlf hok (x+4) 4 0;have k2:=zlj k1 x (csz (S.cls i)) 5 (by decide);have k3:=zob k2 i (S.cls i) ((S.lv i).length+1) (F.headD 0) hc9 (by omega) hg;have o1:Out t (t.setB (x+4) 4 0) x (csz (S.cls i)):=(zme hok (x+4) 4 0 (by omega)).wide (by omega) (by omega);have o2:Out (t.setB (x+4) 4 0) ((t.setB (x+4) 4 0).setK x (csz (S.cls i)) 5) x (csz (S.cls i)):=zmf k1 x _ 5 (by decide) a4;have o3:=zoc k2 i (S.cls i) ((S.lv i).length+1) (F.headD 0) hc9 (by omega) hg x (csz (S.cls i));have oP:Out t (t.popT i (S.cls i) x ((S.lv i).length+1) (F.headD 0)) x (csz (S.cls i)):=(o1.trans o2 rfl rfl).trans o3 rfl rfl;have sP:Sla t (t.popT i (S.cls i) x ((S.lv i).length+1) (F.headD 0)):=⟨rfl,rfl,rfl,rfl,fun _ _=>rfl⟩;have oU:Out t u x (csz (S.cls i)):=oP.lis k3 huk sP hu
 have hkd:KdOn u x (csz (S.cls i)) 5:=fun g g1 g2=>by
  rw[(hu.out k3 huk 0 0).kd_ g (by show zdv t.a t.s≤4*g;omega) (by omega)];exact zmg k1 x _ 5 (by decide) a4 g g1 g2
 have hby:ByOn u x (csz (S.cls i)) (fun _=>0):=fun j hj=>by
  rw[(hu.out k3 huk 0 0).by_ (x+j) (by show zdv t.a t.s≤x+j;omega) (by omega)]
  have e1:zfz (t.popT i (S.cls i) x ((S.lv i).length+1) (F.headD 0)) (x+j)=zfz (t.setB (x+4) 4 0) (x+j):=
   (zoc k2 i (S.cls i) ((S.lv i).length+1) (F.headD 0) hc9 (by omega) hg 0 0).by_ (x+j) (by show zdv t.a t.s≤x+j;omega) (by omega)
  rw[e1,zlg hok (x+4) 4 0 (by omega)];by_cases e:x+4≤x+j∧x+j<x+4+4
  ·rw[if_pos e,nb_0]
  ·rw[if_neg e,h1.free.2.1 j hj]
   unfold lnkB;rw[if_neg (by omega)]
 have hhd:∀j r,r<3→u.hd j r=(t.popT i (S.cls i) x ((S.lv i).length+1) (F.headD 0)).hd j r:=fun j r hr=>hu.hd j r (by omega) (by omega);have hH:Hd1 t u i (S.cls i) ((S.lv i).length+1) (F.headD 0):=⟨hu.a,hu.s,by rw[hhd i 0 (by decide)];unfold TM.popT;rw[zod,if_pos ⟨rfl,rfl⟩],by rw[hhd i 1 (by decide)];unfold TM.popT;rw[zod,if_neg (by omega),if_pos ⟨rfl,rfl⟩],by rw[hhd i 2 (by decide)];unfold TM.popT;rw[zod,if_neg (by omega),if_neg (by omega),if_pos ⟨rfl,rfl⟩]⟩;refine⟨?_,sP.trans hu.sla,oU,hby⟩;refine hs.upd hok hi hu.a hu.s hl (oU.wide a1 (by omega)) (fun j r hj hr=> ?_) (h1.pop hok hi hH oU hkd);rw[hhd j r hr];unfold TM.popT;rw[zod,if_neg (fun h=>hj h.1),if_neg (fun h=>hj h.1),if_neg (fun h=>hj h.1)];rfl
end
section
variable{w:World}{q:MH}{t:TM}{S:SS}{B:Nat}
def PopP(w:World)(q:MH)(t:TM)(S':SS)(B x n:Nat)(e:Ending)(w':World):Prop:=
 e= .returned x∧ ∃u,IsH w' q u∧SlI u S'∧Sla t u∧Out t u x n∧ByOn u x n (fun _=>0)∧Fr (B::q.blocks) w w'
theorem zof{S:SS}{i x:Nat}{F:List Nat}(h0:S.cls i≠0)(hF:S.fr i=x::F)(L:List Nat):(S.set i (S.cls i) F L).inn=if F.headD 0=0∧F= []then up S.inn i (-1)else if F= []then up S.inn i (-1)else S.inn:=by
 rw[zmq,if_neg h0];by_cases e:F= []
 ·rw[if_pos e,e];simp
 ·rw[if_neg e,if_neg (fun h=>e h.2),if_neg e]
  funext j;by_cases ej:j=i
  ·subst ej
   rw[zf1];unfold SS.inn;rw[if_neg h0,if_neg (by rw[hF];simp)]
  ·rw[zf2 _ _ ej]
theorem ppop(h:IsH w q t)(hs:SlI t S)(i x:Nat)(F:List Nat)(n p:Int)(hi:i<t.a)(hF:S.fr i=x::F)(hb:Blk w B 187 (prC q.m i (sla t i) (S.cls i) (S.lv i).length x n p))(hB:B∉q.blocks)(hg:5≤B):Calls prog 124 #[some B] w (PopP w q t (S.set i (S.cls i) F (insS x (S.lv i))) B x (csz (S.cls i))):=by
 have hok:=h.ok;have h1:=hs.each i hi;rw[hF]at h1;obtain⟨a1,a2,a3,a4,a5,a6,a7⟩:=h1.at_ hok hi (x:=x) (.inl (by simp));have h0:=h1.none (x:=x) (.inl (by simp));have hc9:=h1.c9;obtain⟨c1,c2,c3,c4,c5,c6,c7⟩:=zmc (S.cls i) (by omega) hc9;have hlen:=h1.len h0;simp at hlen;have hsl:=(zmd hok i hi).2.2.2.2
 have hpos:∀y∈F,0<y∧y<1048576:=fun y hy=>by
  obtain⟨_,_,b3,_,_,b6,b7⟩:=h1.at_ hok hi (x:=y) (.inl (by simp[hy]));omega
 have hg4:F.headD 0<1048576:=by
  rcases F with _|⟨y,F⟩
  ·exact(by decide:0<1048576)
  ·exact(hpos y (by simp)).2
 have hfr:=h1.free;have hhd:HeadTo t x 0 6 (lkN (F.headD 0)) 12:=zm6 hfr.1 hfr.2.1 (by omega) (by omega) a4 a6 (by omega);have hhv:hvN 0 (lkN (F.headD 0)) 4=F.headD 0:=rfl
 have HLd:=hid (fun W (hW:IsH W q t)=>by
  have:=zl2 hW hhd (.inr ⟨by decide,rfl⟩) 4;rw[hhv]at this;exact this)
 have ht1:t.hst x 0 4 0=t.setB (x+4) 4 0:=rfl
 have HSt:=hid (fun W (hW:IsH W q t)=>by
  have:=zl4 hW hhd (.inr ⟨by decide,rfl⟩) 4 0 (by decide);rw[ht1,show hstB 0 4 0=true from rfl]at this;exact(show Calls prog 231 #[q,x,(4:Int),.int .u64 0] W _ from this))
 have k1:=zlf hok (x+4) 4 0;have k2:=zlj k1 x (csz (S.cls i)) 5 (by decide);have k3:=zob k2 i (S.cls i) ((S.lv i).length+1) (F.headD 0) hc9 (by omega) (by omega);have HMk:=hid (fun W (hW:IsH W q (t.setB (x+4) 4 0))=>zn7 hW x (csz (S.cls i)) 5 a4 (by omega) (by omega) a6 (by decide) x (csz (S.cls i)) 5 rfl rfl rfl);have HSe:=hid (fun W (hW:IsH W q ((t.setB (x+4) 4 0).setK x (csz (S.cls i)) 5))=>zn9 hW i (sla t i) (S.cls i) (((S.lv i).length:Int)+1) (F.headD 0) n p i (S.cls i) ((S.lv i).length+1) (F.headD 0) hi hc9 (by omega) (by omega) rfl rfl rfl rfl);have HSz:=hid (fun W (hW:TabM W)=>znr hW q.m i (sla t i) (S.cls i) (S.lv i).length (F.headD 0) n p (S.cls i) hc9 rfl);have hls:LS (t.popT i (S.cls i) x ((S.lv i).length+1) (F.headD 0)) S.inn:=hs.ls.same rfl (fun _=>rfl) (fun y r hr=>by unfold TM.popT;rw[zjx _ _ _ _ _ _ _ hr];rfl);have hini:S.inn i=S.cls i:=by unfold SS.inn;rw[if_neg h0,if_neg (by rw[hF];simp)]
 have HEnd:=hid (fun u (huk:u.Ok) hu hl=>zoe hok hs hi hF u huk hu hl);have hpin:=zof h0 hF (insS x (S.lv i))
 have u1:IntKind.u32.wrap ((F.headD 0:Nat):Int)=((F.headD 0:Nat):Int):=by
  have:IntKind.u32.wrap ((F.headD 0:Nat):Int)=((F.headD 0:Nat):Int) %4294967296:=rfl;omega
 have w1:IntKind.i64.wrap (x:Int)=(x:Int):=i6 _;have w2:IntKind.i64.wrap (((S.lv i).length:Int)+1)=((S.lv i).length:Int)+1:=i6 _;have H0:=hid h;have HB:=hid hb;have HE1:=hid (fun t' W' W'' (h1:IsH W' q t') (hf:Fr [B] W' W'')=>h1.fr1 hf hB hg);have HLS:=hid hls;have HRm:=hid (fun W hW=>hrem (w:=W) (q:=q) (t:=t.popT i (S.cls i) x ((S.lv i).length+1) (F.headD 0)) hW hls (S.cls i) i)
 have hE:remE t.a S.inn (S.cls i) i=0:=by
  unfold remE;rw[zi7 hc9 hi,if_neg (by decide),Int.toNat_natCast,if_neg (fun h=>h hini)]
 have hI:remI t.a S.inn (S.cls i) i=up S.inn i (-1):=by unfold remI;rw[hE,if_pos rfl,Int.toNat_natCast]
 rw[show(t.popT i (S.cls i) x ((S.lv i).length+1) (F.headD 0)).a=t.a from rfl,hE,hI]at HRm;have hT:∀l g,((t.setB (x+4) 4 0).setK x (csz (S.cls i)) 5).setL i (S.cls i) l g=t.popT i (S.cls i) x l g:=fun _ _=>rfl;rw[hT]at HSe;unfold prC at HB HSe HSz;unfold PopP;have HU:=hid (show(F= []→(S.set i (S.cls i) F (insS x (S.lv i))).inn=up S.inn i (-1))∧(F≠ []→(S.set i (S.cls i) F (insS x (S.lv i))).inn=S.inn)from⟨fun e=>by rw[hpin];subst e;simp,fun e=>by rw[hpin,if_neg (fun h=>e h.2),if_neg e]⟩);generalize hT1:t.setB (x+4) 4 0=t1 at*;generalize t1.setK x (csz (S.cls i)) 5=t2 at*;generalize(S.set i (S.cls i) F (insS x (S.lv i)))=S' at*;generalize t.popT i (S.cls i) x ((S.lv i).length+1) (F.headD 0)=t3 at*;generalize sla t i=z at*;generalize csz (S.cls i)=s at*;generalize hfx:F.headD 0=f at*;generalize(S.lv i).length=l at*;generalize S.cls i=c at*;have HFX:=hid hfx;have HPOS:=hid hpos;clear hs h1 hfr hhd hls hini hE hI hT hpin h hb hT1 hfx hpos h0 hhv ht1;generalize q.m=m at*;go_enter func124,ntmps124;(have d0:=HB.cell 0;have z0:=HB.frozen 0;have d1:=HB.cell 1;have z1:=HB.frozen 1;have d2:=HB.cell 2;have z2:=HB.frozen 2;have d3:=HB.cell 3;have z3:=HB.frozen 3;have d4:=HB.cell 4;have z4:=HB.frozen 4;have d5:=HB.cell 5;have z5:=HB.frozen 5;have d6:=HB.cell 6;have z6:=HB.frozen 6;have d7:=HB.cell 7;have z7:=HB.frozen 7;simp at d0 d1 d2 d3 d4 d5 d6 d7);go_wp2_with fail;go_call HLd.out _ H0.out as e w2 ⟨rfl,h2,f2⟩;have B2:=hid (HB.fr f2 hB);have H2:=hid h2;have F2:=hid f2;clear h2 f2;clear d0 z0 d1 z1 d2 z2 d3 z3 d4 z4 d5 z5 d6 z6 d7 z7;(have d0:=B2.cell 0;have z0:=B2.frozen 0;have d1:=B2.cell 1;have z1:=B2.frozen 1;have d2:=B2.cell 2;have z2:=B2.frozen 2;have d3:=B2.cell 3;have z3:=B2.frozen 3;have d4:=B2.cell 4;have z4:=B2.frozen 4;have d5:=B2.cell 5;have z5:=B2.frozen 5;have d6:=B2.cell 6;have z6:=B2.frozen 6;have d7:=B2.cell 7;have z7:=B2.frozen 7;simp at d0 d1 d2 d3 d4 d5 d6 d7);go_wp2_with fail;have b3:=B2.set 5 (.int .u32 f);simp at b3;have B3:=hid b3;have g3:Fr [B] w2 (w2.setCell ⟨B,5,none⟩ (.int .u32 f)):=(Fr.refl _ _).setCell (.inl (by simp)) _;have H3:=hid (HE1.out _ _ _ H2.out g3);have F3:=hid (show Fr (B::q.blocks) w (w2.setCell ⟨B,5,none⟩ (.int .u32 f))from(F2.mono (fun k hk=> .inl (List.mem_cons_of_mem _ hk))).setCell (.inl (by simp)) _);clear b3 g3;clear d0 z0 d1 z1 d2 z2 d3 z3 d4 z4 d5 z5 d6 z6 d7 z7;generalize w2.setCell ⟨B,5,none⟩ (.int .u32 f)=w3 at*;go_call HSt.out _ H3.out as e w4 ⟨rfl,h4,f4⟩;have B4:=hid (B3.fr f4 hB);have H4:=hid h4;have F4:=hid (F3.trans (f4.mono (S':=B::q.blocks) (fun k hk=> .inl (List.mem_cons_of_mem _ hk))));clear h4 f4;go_wp2_with fail;have hY:=blk8 B4.drew;refine wp_region_held_drew (S:=fun W'=>W'.cell? ⟨B,0,none⟩=some (.pointer (some ⟨m,0,none⟩))∧W'.cell? ⟨B,1,none⟩=some (.int .i64 (i))∧W'.cell? ⟨B,2,none⟩=some (.int .i64 (z))∧W'.cell? ⟨B,3,none⟩=some (.int .i64 (c))∧W'.cell? ⟨B,4,none⟩=some (.int .i64 (l))∧W'.cell? ⟨B,5,none⟩=some (.int .u32 (f))∧W'.cell? ⟨B,6,none⟩=some (.int .i64 (n))∧W'.cell? ⟨B,7,none⟩=some (.int .i64 (p))) (by kernel_rfl) (hY) (fun yH=> ?_);refine tkY 0 yH ?_;refine tkY 1 yH ?_;refine tkY 2 yH ?_;refine tkY 3 yH ?_;refine tkY 4 yH ?_;refine tkY 5 yH ?_;refine tkY 6 yH ?_;refine tkY 7 yH ?_;refine tkC 8 fun K hK=> ?_;go_simp;go_call HSz.out _ H4.out.drew.m.tab as e w5 ⟨rfl,f5⟩;have B5:=hid (B4.drew.fr f5 (by simp));have H5:=hid (H4.drew.fr0 f5);have F5:=hid (F4.drew.step f5 (by simp));have hY:=blk8 B5.out;clear f5;go_wp2_with fail;refine hK.out _ _ _ hY fun yH=> ?_;clear hK K;refine tkC 9 fun K hK=> ?_;go_simp;go_call HMk.out _ H5.out as e w6 ⟨rfl,h6,f6⟩;have B6:=hid (B5.fr f6 hB);have H6:=hid h6;have F6:=hid (F5.trans (f6.mono (S':=B::q.blocks) (fun k hk=> .inl (List.mem_cons_of_mem _ hk))));have hY:=blk8 B6.out;clear f6 h6;go_wp2_with fail;refine hK.out _ _ _ hY fun yH=> ?_;clear hK K;refine wpAnyH_done (by kernel_rfl) ?_ _;clear hY;(have d0:=B6.cell 0;have z0:=B6.frozen 0;have d1:=B6.cell 1;have z1:=B6.frozen 1;have d2:=B6.cell 2;have z2:=B6.frozen 2;have d3:=B6.cell 3;have z3:=B6.frozen 3;have d4:=B6.cell 4;have z4:=B6.frozen 4;have d5:=B6.cell 5;have z5:=B6.frozen 5;have d6:=B6.cell 6;have z6:=B6.frozen 6;have d7:=B6.cell 7;have z7:=B6.frozen 7;simp at d0 d1 d2 d3 d4 d5 d6 d7);go_wp2_with fail;have b7:=B6.set 4 (.int .i64 ((l:Int)+1));simp at b7;have B7:=hid b7;have g7:Fr [B] w6 (w6.setCell ⟨B,4,none⟩ (.int .i64 ((l:Int)+1))):=(Fr.refl _ _).setCell (.inl (by simp)) _;have H7:=hid (HE1.out _ _ _ H6.out g7);have F7:=hid (show Fr (B::q.blocks) w (w6.setCell ⟨B,4,none⟩ (.int .i64 ((l:Int)+1)))from F6.setCell (.inl (by simp)) _);clear b7 g7;clear d0 z0 d1 z1 d2 z2 d3 z3 d4 z4 d5 z5 d6 z6 d7 z7;generalize w6.setCell ⟨B,4,none⟩ (.int .i64 ((l:Int)+1))=w7 at*;go_call HSe.out _ H7.out as e w8 ⟨rfl,h8,f8⟩;have B8:=hid (B7.fr f8 hB);have H8:=hid h8;have F8:=hid (F7.trans (f8.mono (S':=B::q.blocks) (fun k hk=> .inl (List.mem_cons_of_mem _ hk))));clear h8 f8;by_cases hF0:F= []
 ·have hf0:f=0:=by rw[←HFX.out,hF0];rfl
  have b0:((f:Int)==0)=true:=by simp[hf0]
  have HU1:=hid (HU.1 hF0);clear hF0 hf0 HU;(have d0:=B8.cell 0;have z0:=B8.frozen 0;have d1:=B8.cell 1;have z1:=B8.frozen 1;have d2:=B8.cell 2;have z2:=B8.frozen 2;have d3:=B8.cell 3;have z3:=B8.frozen 3;have d4:=B8.cell 4;have z4:=B8.frozen 4;have d5:=B8.cell 5;have z5:=B8.frozen 5;have d6:=B8.cell 6;have z6:=B8.frozen 6;have d7:=B8.cell 7;have z7:=B8.frozen 7;simp at d0 d1 d2 d3 d4 d5 d6 d7);go_wp2_with fail;have hY:=blk8 B8.drew;clear d0 z0 d1 z1 d2 z2 d3 z3 d4 z4 d5 z5 d6 z6 d7 z7;refine wp_region_held_drew (S:=fun W'=>W'.cell? ⟨B,0,none⟩=some (.pointer (some ⟨m,0,none⟩))∧W'.cell? ⟨B,1,none⟩=some (.int .i64 (i))∧W'.cell? ⟨B,2,none⟩=some (.int .i64 (z))∧W'.cell? ⟨B,3,none⟩=some (.int .i64 (c))∧W'.cell? ⟨B,4,none⟩=some (.int .i64 ((l:Int)+1))∧W'.cell? ⟨B,5,none⟩=some (.int .u32 (f))∧W'.cell? ⟨B,6,none⟩=some (.int .i64 (n))∧W'.cell? ⟨B,7,none⟩=some (.int .i64 (p))) (by kernel_rfl) (hY) (fun yH=> ?_);refine tkY 0 yH ?_;refine tkY 1 yH ?_;refine tkY 2 yH ?_;refine tkY 3 yH ?_;refine tkY 4 yH ?_;refine tkY 5 yH ?_;refine tkY 6 yH ?_;refine tkY 7 yH ?_;refine tkY 8 yH ?_;refine tkY 9 yH ?_;refine tkY 10 yH ?_;refine tkY 11 yH ?_;refine tkY 12 yH ?_;refine tkC 13 fun K hK=> ?_;go_simp;go_call HRm.out _ H8.out.drew as e w9 ⟨rfl,u,h9,l9,k9,f9⟩;have B9:=hid (B8.drew.fr f9 hB);have H9:=hid h9;have L9:=hid l9;have K9:=hid k9;have F9:=hid (F8.drew.trans (f9.mono (S':=B::q.blocks) (fun k hk=> .inl (List.mem_cons_of_mem _ hk))));have hY:=blk8 B9.out;clear f9 h9 l9 k9;go_wp2_with fail;refine hK.out _ _ _ hY fun yH=> ?_;clear hK K;refine wpAnyH_done (by kernel_rfl) ?_ _;clear hY;go_wp2_with fail;go_ret;obtain⟨e1,e2,e3,e4⟩:=HEnd.out u H9.ok K9.out (by rw[HU1.out];exact L9.out);exact⟨rfl,u,H9.out,e1,e2,e3,e4,F9.out⟩
 ·have hf0:0<f:=by
   rcases F with _|⟨y,F⟩
   ·exact absurd rfl hF0
   ·have:=(HPOS.out y (by simp)).1
    have:=HFX.out;simp at this;omega
  have b0:((f:Int)==0)=false:=by simp;omega
  have HU1:=hid (HU.2 hF0);clear hF0 hf0 HU;(have d0:=B8.cell 0;have z0:=B8.frozen 0;have d1:=B8.cell 1;have z1:=B8.frozen 1;have d2:=B8.cell 2;have z2:=B8.frozen 2;have d3:=B8.cell 3;have z3:=B8.frozen 3;have d4:=B8.cell 4;have z4:=B8.frozen 4;have d5:=B8.cell 5;have z5:=B8.frozen 5;have d6:=B8.cell 6;have z6:=B8.frozen 6;have d7:=B8.cell 7;have z7:=B8.frozen 7;simp at d0 d1 d2 d3 d4 d5 d6 d7);go_wp2_with fail;go_ret;obtain⟨e1,e2,e3,e4⟩:=HEnd.out t3 H8.ok (Lis.refl t3) (by rw[HU1.out];exact HLS.out);exact⟨rfl,t3,H8.out,e1,e2,e3,e4,F8.out⟩
end
theorem zog{f:FuncId}{fn:Func}{c:Code}(hf:prog.funcs[f]?=some fn)(hname:(fn.name== "runtime.NumGoroutine")=false)(hb:fn.body=some c)(args:Array Value)(w:World):(callFunc f args).run prog w= .ok (.enter f args) w:=by
 have h1:fn.name≠ "runtime.NumGoroutine":=by simpa using hname
 simp[callFunc,hf,h1,hb]
section
variable{w:World}
theorem zoh(m:Nat)(i z c l f n p:Int)(k z':Nat)(hk:1≤k∧k≤9)(hc:c=k)(hz:z=z')(hz4:z'≤1048576)(F:FuncId)(caps:Array Value)(hcf: ∀(args:Array Value) (w:World),(callFunc F args).run prog w= .ok (.enter F args) w)(Inv:Nat→World→Prop)
  (h0:Inv 0 (w.alloc (.cells (prC m i z c l f n p) 187))) (hT: ∀j W,Inv j W→TabM W∧Blk W w.heap.size 187 (prC m i z c l f n p))
  (hdo: ∀j W,j<nbk k→Inv j W→Calls prog F (#[.int .i64 (z'+csz k*j:Nat)] ++caps) W (zR (.tuple #[]) fun w'=>Inv (j+1) w')):
  Calls prog 198 #[.agg (prC m i z c l f n p),.func (.func F) #[] caps] w (zR (.tuple #[]) fun w'=>Inv (nbk k) w'):=by
 have hb:=hid (fun W hW=>by
  have:=znj (w:=W) hW c
  rw[hc,zno k hk.2,←hc]at this
  exact this)
 have hp:=hid (fun W hW j hj=>by
  have:=znl (w:=W) hW k j hk hj
  rw[←hc]at this
  exact this)
 obtain⟨c1,c2,c3,c4,c5,c6,c7⟩:=zmc k hk.1 hk.2
 have hadd: ∀j,j<nbk k→IntKind.i64.wrap (z+((csz k*j:Nat):Int))=((z'+csz k*j:Nat):Int):=fun j hj=>by
  have:csz k*j≤512*32:=Nat.mul_le_mul c3 (by omega)
  rw[hz,Int.natCast_add]
  exact i6 _
 have HADD:=hid hadd
 have HDO:=hid hdo
 have HT:=hid hT
 generalize nbk k=N at*
 generalize csz k=s at*
 unfold prC at h0 HT⊢
 clear hk hc hz hdo hT hadd c1 c2 c3 c4 c6 c7
 go_in
 go_wp2_with fail
 (have d0:=((HT.out _ _ h0).2).cell 0;have z0:=((HT.out _ _ h0).2).frozen 0;have d1:=((HT.out _ _ h0).2).cell 1;have z1:=((HT.out _ _ h0).2).frozen 1;have d2:=((HT.out _ _ h0).2).cell 2;have z2:=((HT.out _ _ h0).2).frozen 2;have d3:=((HT.out _ _ h0).2).cell 3;have z3:=((HT.out _ _ h0).2).frozen 3;have d4:=((HT.out _ _ h0).2).cell 4;have z4:=((HT.out _ _ h0).2).frozen 4;have d5:=((HT.out _ _ h0).2).cell 5;have z5:=((HT.out _ _ h0).2).frozen 5;have d6:=((HT.out _ _ h0).2).cell 6;have z6:=((HT.out _ _ h0).2).frozen 6;have d7:=((HT.out _ _ h0).2).cell 7;have z7:=((HT.out _ _ h0).2).frozen 7;simp at d0 d1 d2 d3 d4 d5 d6 d7)
 go_wp2_with fail
 go_call hb.out _ (HT.out _ _ h0).1 as e w1 ⟨rfl,rfl⟩
 clear d0 z0 d1 z1 d2 z2 d3 z3 d4 z4 d5 z5 d6 z6 d7 z7
 go_wp2
 go_loopw [11] (fun v W=> ∃j:Nat,j≤N∧v= .int .i64 j∧Inv j W) (fun v _=>N-(intOf v).toNat)
 case atStart=>exact⟨0,by omega,rfl,h0⟩
 case round=>
  clear h0
  obtain⟨j,hj,rfl,hI⟩:=hrel
  have HI:=hid hI
  clear hI
  by_cases hlt:j<N
  ·have b1':=dT (j<N)
   have w3:=i6 ((j:Int)+1)
   have hpl:=hp.out _ (HT.out _ _ HI.out).1 j hlt
   have hd:=HDO.out j _ hlt HI.out
   have hw:=HADD.out j hlt
   rw[Int.natCast_add]at hd hw
   generalize s*j=sj at*
   (have d0:=((HT.out _ _ HI.out).2).cell 0;have z0:=((HT.out _ _ HI.out).2).frozen 0;have d1:=((HT.out _ _ HI.out).2).cell 1;have z1:=((HT.out _ _ HI.out).2).frozen 1;have d2:=((HT.out _ _ HI.out).2).cell 2;have z2:=((HT.out _ _ HI.out).2).frozen 2;have d3:=((HT.out _ _ HI.out).2).cell 3;have z3:=((HT.out _ _ HI.out).2).frozen 3;have d4:=((HT.out _ _ HI.out).2).cell 4;have z4:=((HT.out _ _ HI.out).2).frozen 4;have d5:=((HT.out _ _ HI.out).2).cell 5;have z5:=((HT.out _ _ HI.out).2).frozen 5;have d6:=((HT.out _ _ HI.out).2).cell 6;have z6:=((HT.out _ _ HI.out).2).frozen 6;have d7:=((HT.out _ _ HI.out).2).cell 7;have z7:=((HT.out _ _ HI.out).2).frozen 7;simp at d0 d1 d2 d3 d4 d5 d6 d7)
   go_wp2_with fail
   go_call hpl as e w2 ⟨rfl,rfl⟩
   clear hpl
   go_wp2_with fail
   go_call hd as e w3 ⟨rfl,h3⟩
   clear hd
   clear d0 z0 d1 z1 d2 z2 d3 z3 d4 z4 d5 z5 d6 z6 d7 z7
   go_wp2
   go_roundw
   case rel=>exact⟨j+1,by omega,by go_num,h3⟩
   case measure=>simp[intOf];omega
  ·obtain rfl:j=N:=by omega
   go_wp2
   go_end0
   exact⟨rfl,HI.out⟩
theorem zoi(G base:Nat)(v:Value)(L:List Nat)(x:Nat)(hG:Blk w G 69 #[v])(hO:w.ownsRow base 3 1 v L.length (intC L))(hl:L.length≤1024)(hb:base≤w.heap.size):Calls prog 234 #[x,some G] w (zR (.tuple #[]) fun w'=>∃v',Blk w' G 69 #[v']∧w'.ownsRow base 3 1 v' (L++ [x]).length (intC (L++ [x]))∧(v'.ownBlock=v.ownBlock∨v'.ownBlock=some (w.heap.size+1))∧Fr (G::ownS v) w w'):=by
 have c0:=hG.cell 0;simp at c0;have hgl:=hG.lt
 have hvG:G∉ownS v:=fun hm=>by
  have hv:=zhv hm;obtain⟨h1,⟨h2,h3⟩|⟨g,cap,cur,rfl,_,hg,_⟩⟩:=hO
  ·rw[h2]at hv;simp[Value.ownBlock]at hv
  ·simp[Value.ownBlock]at hv
   subst hv;exact Blk.ne_ (w:=w) (g:=g) (g':=g) hG hg (by decide) rfl
 go_in;go_wp2_with (at_builtin;refine zhy rfl _ _ rfl rfl base v L rfl x w rfl hO rfl (by omega) hb ?_;intro g1 cap1 W1 hO1 hF1 hob1;have hG1:=hG.fr hF1 hvG;have d0:=hG1.cell 0;have z0:=hG1.frozen 0;simp at d0);have hO2:(W1.setCell ⟨G,0,none⟩ (.slice (some ⟨g1,0,none⟩) (L.length+1) cap1)).ownsRow base 3 1 (.slice (some ⟨g1,0,none⟩) (L.length+1) cap1) (L++ [x]).length (intC (L++ [x])):=zeb hO1 hG1 (by decide) 0 _;have hB2:=hG1.set 0 (.slice (some ⟨g1,0,none⟩) (L.length+1) cap1);simp at hB2;have f2:Fr (G::ownS v) w (W1.setCell ⟨G,0,none⟩ (.slice (some ⟨g1,0,none⟩) (L.length+1) cap1)):=(hF1.mono (S':=G::ownS v) (fun k hk=> .inl (List.mem_cons_of_mem _ hk))).setCell (.inl (by simp)) _;clear d0 z0;go_end0;exact⟨rfl,_,hB2,hO2,hob1.imp (fun h=>h.symm) (fun h=>by rw[h];rfl),f2⟩
end
end Go.Proofs.YtghllbkjghnmhaaGreatDoor
