/- Several texts in one. -/
import Derived.Test.YtolhkhdbgnciiaaGreatDoorGA
import Derived.Deep.RegionHeld3
import Derived.StillTailTactics
import Derived.Laws.PanicsMore
import Derived.Deep.Light
import Derived.Lib.SlBytesConst
namespace Go.Proofs.YtolhkhdbgnciiaaGreatDoor
open _root_.Go.Proofs.Tryz
open Go.Lib (hid)
open Go.IntWalk (i64_in)
set_option linter.unusedVariables false
set_option linter.unusedSimpArgs false
open Go.RowKit
set_option maxRecDepth 100000
set_option maxHeartbeats 8000000
def zjo:List (Nat×Nat):= [(0,1),(1,1),(2,1),(3,1),(4,4)]
def ownL:List (Nat×Nat):= [(8,4),(12,4),(16,8),(24,2),(26,2),(28,4)]
def wh(tag f:Nat):Nat×Nat:=
 if f<5 then zjo[f]?.getD (0,0)else if tag=1 then ownL[f-5]?.getD (0,0)else if tag=2∧f=11 then(8,4)else if tag=2∧f=10 then(12,4)else(0,0)
def whZ(tag f:Int):Nat×Nat:=if 0≤tag∧tag≤2∧0≤f∧f≤11 then wh tag.toNat f.toNat else(0,0)
def sz(tag:Nat):Nat:= [8,32,16][tag]?.getD 0
def szZ(tag:Int):Nat:=if 0≤tag∧tag≤2 then sz tag.toNat else 0
def zd3(l:List Int):Array Value:=(l.map (Value.int .i64)).toArray
def nowT:Array Value:=zd3 [0,0]
def comT:Array Value:=zd3 [0,1,1,1,2,1,3,1,4,4]
def ownT:Array Value:=zd3 [8,4,12,4,16,8,24,2,26,2,28,4]
structure Tabs(w:World):Prop where
 now: ∀i,w.cell? ⟨1,i,none⟩=nowT[i]?
 com: ∀i,w.cell? ⟨3,i,none⟩=comT[i]?
 own: ∀i,w.cell? ⟨4,i,none⟩=ownT[i]?
 size:5≤w.heap.size
theorem Tabs.of{w w':World}(h:Tabs w)(hs:w.heap.size≤w'.heap.size)(hc:∀p:Addr,p.block<5→w'.cell? p=w.cell? p):Tabs w':=
 ⟨fun i=>(hc ⟨1,i,none⟩ (by simp)).trans (h.now i),fun i=>(hc ⟨3,i,none⟩ (by simp)).trans (h.com i),fun i=>(hc ⟨4,i,none⟩ (by simp)).trans (h.own i),Nat.le_trans h.size hs⟩
theorem Tabs.below{w w':World}{B:Nat}(h:Tabs w)(hb:Below B w w')(hB:5≤B):Tabs w':=
 h.of hb.size fun p hp=>hb.cell (by omega)
theorem Tabs.fr{w w':World}{S:List Nat}(h:Tabs w)(hf:Fr S w w')(hS:∀k∈S,5≤k):Tabs w':=
 h.of hf.size fun p hp=>hf.cell (by have:=h.size;omega) (fun hm=>by have:=hS _ hm;omega)
theorem Tabs.alloc{w:World}(h:Tabs w)(o:Obj):Tabs (w.alloc o):=h.fr ((Fr.refl [] w).alloc o) (by simp)
theorem zdo(w:World)(tag:Int):Calls prog 217 #[.int .i64 tag] w fun e w'=>e= .returned (.bool (decide (0≤tag)&&decide (tag<3)))∧w'=w:=by
 by_cases h0:0≤tag
 ·have h1:decide (0≤tag)=true:=by simpa using h0
  rw[h1,Bool.true_and];go_enter func217,ntmps217;go_wp2;go_ret;exact⟨rfl,rfl⟩
 ·have h1:decide (0≤tag)=false:=by simpa using h0
  rw[h1,Bool.false_and];go_enter func217,ntmps217;go_wp2;go_ret;exact⟨rfl,rfl⟩
theorem zho(tag f:Nat)(h:f<5):comT[f*2]?=some (.int .i64 (wh tag f).1)∧comT[f*2+1]?=some (.int .i64 (wh tag f).2):=by
 rcases f with _|_|_|_|_|f<;>first|exact⟨rfl,rfl⟩|omega
theorem ztx(k:Nat)(h:k<6):ownT[k*2]?=some (.int .i64 (wh 1 (k+5)).1)∧ownT[k*2+1]?=some (.int .i64 (wh 1 (k+5)).2):=by
 rcases k with _|_|_|_|_|_|f<;>first|exact⟨rfl,rfl⟩|omega
def rowV(x:Nat×Nat):Value:= .agg #[.int .i64 x.1,.int .i64 x.2]
theorem zri(w:World)(hT:Tabs w)(tag f:Int)(h:¬(0≤tag∧tag≤2∧0≤f∧f≤11)):Calls prog 178 #[.int .i64 tag,.int .i64 f] w fun e w'=>e= .returned (rowV (0,0))∧Fr [] w w':=by
 have hi:=fun w=>zdo w tag;have n0:∀o,(w.alloc o).cell? ⟨1,0,none⟩=some (.int .i64 0):=fun o=>(hT.alloc o).now 0;have n1:∀o,(w.alloc o).cell? ⟨1,1,none⟩=some (.int .i64 0):=fun o=>(hT.alloc o).now 1;have hs:=hT.size;by_cases h0:0≤tag∧tag≤2
 ·have h1:(decide (0≤tag)&&decide (tag<3))=true:=by simp;omega
  rw[h1]at hi;by_cases h2:f<0
  ·have h3:decide (f<0)=true:=by simpa using h2
   go_enter func178,ntmps178;go_wp2_with (go_at_call 217;refine(hi _).mono ?_;rintro e w' ⟨rfl,rfl⟩);go_returns;exact⟨rfl,by repeat(first|exact Fr.refl _ _|apply Fr.alloc|apply Fr.drew|apply Fr.drewN|(refine Fr.setCell ?_ (Or.inr (by simp)) _))⟩
  ·have h3:decide (f<0)=false:=by simpa using h2
   have h4:decide (12≤f)=true:=by simp;omega
   go_enter func178,ntmps178;go_wp2_with (go_at_call 217;refine(hi _).mono ?_;rintro e w' ⟨rfl,rfl⟩);go_returns;exact⟨rfl,by repeat(first|exact Fr.refl _ _|apply Fr.alloc|apply Fr.drew|apply Fr.drewN|(refine Fr.setCell ?_ (Or.inr (by simp)) _))⟩
 ·have h1:(decide (0≤tag)&&decide (tag<3))=false:=by simp;omega
  rw[h1]at hi;go_enter func178,ntmps178;go_wp2_with (go_at_call 217;refine(hi _).mono ?_;rintro e w' ⟨rfl,rfl⟩);go_returns;exact⟨rfl,by repeat(first|exact Fr.refl _ _|apply Fr.alloc|apply Fr.drew|apply Fr.drewN|(refine Fr.setCell ?_ (Or.inr (by simp)) _))⟩
theorem znf(w:World)(hT:Tabs w)(tag f:Nat)(ht:tag≤2)(hf:f<5):Calls prog 178 #[.int .i64 tag,.int .i64 f] w fun e w'=>e= .returned (rowV (wh tag f))∧Fr [] w w':=by
 have hi:=fun w=>zdo w tag;have h1:(decide (0≤(tag:Int))&&decide ((tag:Int)<3))=true:=by simp;omega
 rw[h1]at hi;have n0:∀o,(w.alloc o).cell? ⟨3,f*2,none⟩=some (.int .i64 (wh tag f).1):=fun o=>((hT.alloc o).com _).trans (zho tag f hf).1;have n1:∀o,(w.alloc o).cell? ⟨3,f*2+1,none⟩=some (.int .i64 (wh tag f).2):=fun o=>((hT.alloc o).com _).trans (zho tag f hf).2;have h2:(0:Int)≤f:=by omega
 have h3:decide (12≤(f:Int))=false:=by simp;omega
 have h4:(f:Int)<5:=by omega
 go_enter func178,ntmps178;go_wp2_with (go_at_call 217;refine(hi _).mono ?_;rintro e w' ⟨rfl,rfl⟩);go_returns;exact⟨rfl,by repeat(first|exact Fr.refl _ _|apply Fr.alloc|apply Fr.drew|apply Fr.drewN|(refine Fr.setCell ?_ (Or.inr (by simp)) _))⟩
theorem zmm(w:World)(hT:Tabs w)(k:Nat)(hk:k<6):Calls prog 178 #[.int .i64 1,.int .i64 ((k:Int)+5)] w fun e w'=>e= .returned (rowV (wh 1 (k+5)))∧Fr [] w w':=by
 have hi:=fun w=>zdo w 1;rw[show(decide (0≤(1:Int))&&decide ((1:Int)<3))=true from rfl]at hi;have n0:∀o,(w.alloc o).cell? ⟨4,k*2,none⟩=some (.int .i64 (wh 1 (k+5)).1):=fun o=>((hT.alloc o).own _).trans (ztx k hk).1;have n1:∀o,(w.alloc o).cell? ⟨4,k*2+1,none⟩=some (.int .i64 (wh 1 (k+5)).2):=fun o=>((hT.alloc o).own _).trans (ztx k hk).2;have h0:(0:Int)≤k:=by omega
 have h4:(k:Int)<6:=by omega
 obtain⟨f,hf⟩:∃f:Int,f=k+5:=⟨_,rfl⟩;rw[←hf];have h2:decide (f<0)=false:=by simp;omega
 have h3:decide (12≤f)=false:=by simp;omega
 have h5:decide (f<5)=false:=by simp;omega
 have h6:IntKind.i64.wrap (f-5)=k:=(i64_in _ (by omega)).trans (by omega);go_enter func178,ntmps178;go_wp2_with (go_at_call 217;refine(hi _).mono ?_;rintro e w' ⟨rfl,rfl⟩);go_returns;exact⟨rfl,by repeat(first|exact Fr.refl _ _|apply Fr.alloc|apply Fr.drew|apply Fr.drewN|(refine Fr.setCell ?_ (Or.inr (by simp)) _))⟩
theorem zlj(w:World):Calls prog 178 #[.int .i64 2,.int .i64 11] w fun e w'=>e= .returned (rowV (8,4))∧Fr [] w w':=by
 have hi:=fun w=>zdo w 2;rw[show(decide (0≤(2:Int))&&decide ((2:Int)<3))=true from rfl]at hi;go_enter func178,ntmps178;go_wp2_with (go_at_call 217;refine(hi _).mono ?_;rintro e w' ⟨rfl,rfl⟩);go_returns;exact⟨rfl,by repeat(first|exact Fr.refl _ _|apply Fr.alloc|apply Fr.drew|apply Fr.drewN|(refine Fr.setCell ?_ (Or.inr (by simp)) _))⟩
theorem zlo(w:World):Calls prog 178 #[.int .i64 2,.int .i64 10] w fun e w'=>e= .returned (rowV (12,4))∧Fr [] w w':=by
 have hi:=fun w=>zdo w 2;rw[show(decide (0≤(2:Int))&&decide ((2:Int)<3))=true from rfl]at hi;go_enter func178,ntmps178;go_wp2_with (go_at_call 217;refine(hi _).mono ?_;rintro e w' ⟨rfl,rfl⟩);go_returns;exact⟨rfl,by repeat(first|exact Fr.refl _ _|apply Fr.alloc|apply Fr.drew|apply Fr.drewN|(refine Fr.setCell ?_ (Or.inr (by simp)) _))⟩
theorem znm(w:World)(hT:Tabs w)(tag f:Int)(h:5≤f∧f≤11∧(tag=0∨tag=1∧f=11∨tag=2∧f≤9)):Calls prog 178 #[.int .i64 tag,.int .i64 f] w fun e w'=>e= .returned (rowV (0,0))∧Fr [] w w':=by
 have hi:=fun w=>zdo w tag;have n0:∀o,(w.alloc o).cell? ⟨1,0,none⟩=some (.int .i64 0):=fun o=>(hT.alloc o).now 0;have n1:∀o,(w.alloc o).cell? ⟨1,1,none⟩=some (.int .i64 0):=fun o=>(hT.alloc o).now 1;have h1:(decide (0≤tag)&&decide (tag<3))=true:=by simp;omega
 rw[h1]at hi;have h2:decide (f<0)=false:=by simp;omega
 have h3:decide (12≤f)=false:=by simp;omega
 have h5:decide (f<5)=false:=by simp;omega
 obtain⟨hf1,hf2,h⟩:=h;rcases h with rfl|⟨rfl,rfl⟩|⟨rfl,h⟩
 ·go_enter func178,ntmps178
  go_wp2_with (go_at_call 217;refine(hi _).mono ?_;rintro e w' ⟨rfl,rfl⟩);go_returns;exact⟨rfl,by repeat(first|exact Fr.refl _ _|apply Fr.alloc|apply Fr.drew|apply Fr.drewN|(refine Fr.setCell ?_ (Or.inr (by simp)) _))⟩
 ·go_enter func178,ntmps178
  go_wp2_with (go_at_call 217;refine(hi _).mono ?_;rintro e w' ⟨rfl,rfl⟩);go_returns;exact⟨rfl,by repeat(first|exact Fr.refl _ _|apply Fr.alloc|apply Fr.drew|apply Fr.drewN|(refine Fr.setCell ?_ (Or.inr (by simp)) _))⟩
 ·have h7:(f==11)=false:=by simp;omega
  have h8:(f==10)=false:=by simp;omega
  go_enter func178,ntmps178;go_wp2_with (go_at_call 217;refine(hi _).mono ?_;rintro e w' ⟨rfl,rfl⟩);go_returns;exact⟨rfl,by repeat(first|exact Fr.refl _ _|apply Fr.alloc|apply Fr.drew|apply Fr.drewN|(refine Fr.setCell ?_ (Or.inr (by simp)) _))⟩
theorem zcc(w:World)(hT:Tabs w)(tag f:Int):Calls prog 178 #[.int .i64 tag,.int .i64 f] w fun e w'=>e= .returned (rowV (whZ tag f))∧Fr [] w w':=by
 unfold whZ;by_cases h:0≤tag∧tag≤2∧0≤f∧f≤11
 ·rw[if_pos h]
  obtain⟨t,rfl⟩:∃t:Nat,tag=t:=⟨tag.toNat,by omega⟩;obtain⟨k,rfl⟩:∃k:Nat,f=k:=⟨f.toNat,by omega⟩;rw[Int.toNat_natCast,Int.toNat_natCast];by_cases h5:k<5
  ·exact znf w hT t k (by omega) h5
  ·by_cases h1:t=1∧k≤10
   ·obtain⟨rfl,h1⟩:=h1
    obtain⟨j,rfl⟩:∃j,k=j+5:=⟨k-5,by omega⟩;exact zmm w hT j (by omega)
   ·by_cases h2:t=2∧10≤k
    ·obtain⟨rfl,h2⟩:=h2
     have:k=10∨k=11:=by omega
     rcases this with rfl|rfl
     ·exact zlo w
     ·exact zlj w
    ·have e:wh t k=(0,0):=by
      unfold wh;rw[if_neg h5];split
      ·have:k=11:=by omega
       subst this;rfl
      ·rw[if_neg (by omega),if_neg (by omega)]
     rw[e];exact znm w hT t k (by omega)
 ·rw[if_neg h]
  exact zri w hT tag f h
structure HB where
 tag:Int
 cls:Int
 used:Bool
 label:Int
 name:Nat
 next:Nat
 prev:Nat
 refs:Nat
 expiry:Nat
 typ:Nat
 size:Int
 hash:Nat
structure HB.Ok(x:HB):Prop where
 tag: -9223372036854775808≤x.tag∧x.tag≤9223372036854775807
 cls: -9223372036854775808≤x.cls∧x.cls≤9223372036854775807
 label: -9223372036854775808≤x.label∧x.label≤9223372036854775807
 name:x.name<4294967296
 next:x.next<4294967296
 prev:x.prev<4294967296
 refs:x.refs<4294967296
 expiry:x.expiry<18446744073709551616
 typ:x.typ<65536
 size: -9223372036854775808≤x.size∧x.size≤9223372036854775807
 hash:x.hash<4294967296
def HB.cells(x:HB):Array Value:= #[.int .i64 x.tag,.int .i64 x.cls,.bool x.used,.int .i64 x.label,.int .u32 x.name,.int .u32 x.next,.int .u32 x.prev,.int .u32 x.refs,.int .u64 x.expiry,.int .u16 x.typ,.int .i64 x.size,.int .u32 x.hash]
def HB.val(x:HB):Value:= .agg x.cells
def HB.nums(x:HB):List Nat:= [w64 x.tag,w64 x.cls,if x.used then 1 else 0,w64 x.label,x.name,x.next,x.prev,x.expiry,x.typ,w64 x.size,x.hash,x.refs]
def zw2(l:List Nat):Value:= .agg ((l.map fun n:Nat=>Value.int .u64 (n:Int)).toArray)
theorem zwz(w:World)(b:Bool):Calls prog 249 #[.bool b] w fun e w'=>e= .returned (.int .u64 ((if b then 1 else 0:Nat):Int))∧w'=w:=by
 cases b
 ·go_enter func249,ntmps249
  go_wp2;go_returns;exact⟨rfl,rfl⟩
 ·go_enter func249,ntmps249
  go_wp2;go_returns;exact⟨rfl,rfl⟩
theorem zfx(w:World)(x:HB)(hx:x.Ok):Calls prog 177 #[x.val] w fun e w'=>e= .returned (zw2 x.nums)∧Fr [] w w':=by
 obtain⟨tag,cls,used,label,name,next,prev,refs,expiry,typ,size,hash⟩:=x;obtain⟨h1,h2,h3,h4,h5,h6,h7,h8,h9,h10,h11⟩:=hx;simp only at h1 h2 h3 h4 h5 h6 h7 h8 h9 h10 h11;have e1:=zg5 tag;have e2:=zg5 cls;have e3:=zg5 label;have e4:=zg5 size;have ho:=fun w=>zwz w used;have m0:=za3 name (by omega);have m1:=za3 next (by omega);have m2:=za3 prev (by omega);have m3:=za3 typ (by omega);have m4:=za3 hash (by omega);have m5:=za3 refs (by omega);simp only[HB.val,HB.cells,zw2,HB.nums,List.map_cons,List.map_nil];generalize(if used then 1 else 0:Nat)=u at*;generalize w64 tag=t at*;generalize w64 cls=c at*;generalize w64 label=l at*;generalize w64 size=s at*;go_enter func177,ntmps177;go_wp2_with fail;generalize hw:(w.alloc (.cells #[.int .i64 tag,.int .i64 cls,.bool used,.int .i64 label,.int .u32 name,.int .u32 next,.int .u32 prev,.int .u32 refs,.int .u64 expiry,.int .u16 typ,.int .i64 size,.int .u32 hash] 89)).alloc (.cells #[.int .u64 0,.int .u64 0,.int .u64 0,.int .u64 0,.int .u64 0,.int .u64 0,.int .u64 0,.int .u64 0,.int .u64 0,.int .u64 0,.int .u64 0,.int .u64 0] 224)=w1;refine wp_region_still_tail 36 (by kernel_rfl) (by kernel_rfl) ?_;simp only[List.take_succ_cons,List.take_zero,List.drop_succ_cons,List.drop_zero];have hb:Blk w1.drew w.heap.size 89 #[.int .i64 tag,.int .i64 cls,.bool used,.int .i64 label,.int .u32 name,.int .u32 next,.int .u32 prev,.int .u32 refs,.int .u64 expiry,.int .u16 typ,.int .i64 size,.int .u32 hash] :=by rw[←hw];exact((Blk.new w _ _).alloc _).drew
 have hn:Blk w1.drew (w.heap.size+1) 224 #[.int .u64 0,.int .u64 0,.int .u64 0,.int .u64 0,.int .u64 0,.int .u64 0,.int .u64 0,.int .u64 0,.int .u64 0,.int .u64 0,.int .u64 0,.int .u64 0] :=by rw[←hw,show w.heap.size+1=(w.alloc (.cells #[.int .i64 tag,.int .i64 cls,.bool used,.int .i64 label,.int .u32 name,.int .u32 next,.int .u32 prev,.int .u32 refs,.int .u64 expiry,.int .u16 typ,.int .i64 size,.int .u32 hash] 89)).heap.size by simp];exact(Blk.new _ _ _).drew
 have hf:Fr [] w w1.drew:=by rw[←hw];exact(((Fr.refl _ _).alloc _).alloc _).drew
 clear hw;change wpStill _ _ w1.drew (fun a'=>wpList _ _ _ _ a' w1.drew) _ _;generalize w1.drew=w2 at hb hn hf⊢;have c0:=hb.cell 0;have c1:=hb.cell 1;have c2:=hb.cell 2;have c3:=hb.cell 3;have c4:=hb.cell 4;have c5:=hb.cell 5;have c6:=hb.cell 6;have c7:=hb.cell 7;have c8:=hb.cell 8;have c9:=hb.cell 9;have c10:=hb.cell 10;have c11:=hb.cell 11;have d0:=hn.cell 0;have d1:=hn.cell 1;have d2:=hn.cell 2;have d3:=hn.cell 3;have d4:=hn.cell 4;have d5:=hn.cell 5;have d6:=hn.cell 6;have d7:=hn.cell 7;have d8:=hn.cell 8;have d9:=hn.cell 9;have d10:=hn.cell 10;have d11:=hn.cell 11;have z0:=hn.frozen 0;have z1:=hn.frozen 1;have z2:=hn.frozen 2;have z3:=hn.frozen 3;have z4:=hn.frozen 4;have z5:=hn.frozen 5;have z6:=hn.frozen 6;have z7:=hn.frozen 7;have z8:=hn.frozen 8;have z9:=hn.frozen 9;have z10:=hn.frozen 10;have z11:=hn.frozen 11;simp at c0 c1 c2 c3 c4 c5 c6 c7 c8 c9 c10 c11;simp at d0 d1 d2 d3 d4 d5 d6 d7 d8 d9 d10 d11;repeat still_step
 still_call (ho _);repeat still_step
 refine wpStill_nil ?_;go_wp2_with fail;have hn3:=((((((((((((hn.set 0 (.int .u64 (t:Int))).set 1 (.int .u64 (c:Int))).set 2 (.int .u64 (u:Int))).set 3 (.int .u64 (l:Int))).set 4 (.int .u64 (name:Int))).set 5 (.int .u64 (next:Int))).set 6 (.int .u64 (prev:Int))).set 7 (.int .u64 (expiry:Int))).set 8 (.int .u64 (typ:Int))).set 9 (.int .u64 (s:Int))).set 10 (.int .u64 (hash:Int))).set 11 (.int .u64 (refs:Int)));have hf3:=((((((((((((hf.setCell (p:=⟨w.heap.size+1,0,none⟩) (.inr (by simp)) (.int .u64 (t:Int))).setCell (p:=⟨w.heap.size+1,1,none⟩) (.inr (by simp)) (.int .u64 (c:Int))).setCell (p:=⟨w.heap.size+1,2,none⟩) (.inr (by simp)) (.int .u64 (u:Int))).setCell (p:=⟨w.heap.size+1,3,none⟩) (.inr (by simp)) (.int .u64 (l:Int))).setCell (p:=⟨w.heap.size+1,4,none⟩) (.inr (by simp)) (.int .u64 (name:Int))).setCell (p:=⟨w.heap.size+1,5,none⟩) (.inr (by simp)) (.int .u64 (next:Int))).setCell (p:=⟨w.heap.size+1,6,none⟩) (.inr (by simp)) (.int .u64 (prev:Int))).setCell (p:=⟨w.heap.size+1,7,none⟩) (.inr (by simp)) (.int .u64 (expiry:Int))).setCell (p:=⟨w.heap.size+1,8,none⟩) (.inr (by simp)) (.int .u64 (typ:Int))).setCell (p:=⟨w.heap.size+1,9,none⟩) (.inr (by simp)) (.int .u64 (s:Int))).setCell (p:=⟨w.heap.size+1,10,none⟩) (.inr (by simp)) (.int .u64 (hash:Int))).setCell (p:=⟨w.heap.size+1,11,none⟩) (.inr (by simp)) (.int .u64 (refs:Int)));generalize((((((((((((w2.setCell ⟨w.heap.size+1,0,none⟩ (.int .u64 (t:Int))).setCell ⟨w.heap.size+1,1,none⟩ (.int .u64 (c:Int))).setCell ⟨w.heap.size+1,2,none⟩ (.int .u64 (u:Int))).setCell ⟨w.heap.size+1,3,none⟩ (.int .u64 (l:Int))).setCell ⟨w.heap.size+1,4,none⟩ (.int .u64 (name:Int))).setCell ⟨w.heap.size+1,5,none⟩ (.int .u64 (next:Int))).setCell ⟨w.heap.size+1,6,none⟩ (.int .u64 (prev:Int))).setCell ⟨w.heap.size+1,7,none⟩ (.int .u64 (expiry:Int))).setCell ⟨w.heap.size+1,8,none⟩ (.int .u64 (typ:Int))).setCell ⟨w.heap.size+1,9,none⟩ (.int .u64 (s:Int))).setCell ⟨w.heap.size+1,10,none⟩ (.int .u64 (hash:Int))).setCell ⟨w.heap.size+1,11,none⟩ (.int .u64 (refs:Int)))=w3 at hn3 hf3⊢;have q0:=hn3.cell 0;have q1:=hn3.cell 1;have q2:=hn3.cell 2;have q3:=hn3.cell 3;have q4:=hn3.cell 4;have q5:=hn3.cell 5;have q6:=hn3.cell 6;have q7:=hn3.cell 7;have q8:=hn3.cell 8;have q9:=hn3.cell 9;have q10:=hn3.cell 10;have q11:=hn3.cell 11;simp at q0 q1 q2 q3 q4 q5 q6 q7 q8 q9 q10 q11;refine bodyPost_ret (by simp[results,results177,go_sem,q0,q1,q2,q3,q4,q5,q6,q7,q8,q9,q10,q11];try rfl) rfl ?_;exact⟨rfl,hf3⟩
def HB.num(x:HB)(f:Nat):Nat:=x.nums[f]?.getD 0
def HB.lackAt(x:HB)(f:Nat):Bool:=x.num f !=0&&(whZ x.tag f).2==0
def HB.lackTo(x:HB):Nat→Bool
 |0=>false
 |k+1=>x.lackTo k||x.lackAt k
theorem zfj(tag f:Int)(h:(whZ tag f).2=0):whZ tag f=(0,0):=by
 unfold whZ at h⊢;split at h
 ·rename_i hb
  rw[if_pos hb];generalize tag.toNat=t at*;generalize f.toNat=k at*;unfold wh at h⊢;split at h
  ·rename_i h5
   exfalso;revert h;rcases k with _|_|_|_|_|k<;>first|(simp[zjo];done)|omega
  ·rename_i h5
   rw[if_neg h5];split at h
   ·rename_i h1
    rw[if_pos h1];by_cases hk:k-5<6
    ·exfalso
     revert h hk;generalize k-5=j;rcases j with _|_|_|_|_|_|j<;>simp[ownL] <;>omega
    ·have:ownL[k-5]?=none:=List.getElem?_eq_none (by simp[ownL];omega)
     rw[this];rfl
   ·rename_i h1
    rw[if_neg h1];split at h
    ·simp at h
    ·rename_i h2
     rw[if_neg h2];split at h
     ·simp at h
     ·rename_i h3
      rw[if_neg h3]
 ·rename_i hb
  rw[if_neg hb]
theorem zj8(x:HB):∃arr:Array Value,zw2 x.nums= .agg arr∧arr.size=12∧∀k,k<12→arr[k]?=some (.int .u64 (x.num k)):=by
 refine⟨_,rfl,rfl,fun k hk=> ?_⟩;rcases k with _|_|_|_|_|_|_|_|_|_|_|_|k<;>first|rfl|omega
theorem zda(arr:Array Value)(k:Nat)(hk:k<12)(n:Nat)(h:arr[k]?=some (.int .u64 n))(w:World):(Instr.index 224 (.agg arr) (.int .i64 k)).run prog w= .ok (.int .u64 n) w:=by
 have h2:(0:Int)≤k∧(k:Int)<(12:Nat):=by omega
 have h0:(0:Int)≤k:=by omega
 have h3:(k:Int)<12:=by omega
 simp[Instr.index,run_underlying underlying224,asIntOf,go_sem,h2,h0,h3,h];intro;omega
theorem zdb(a b c d:Int)(w:World):(Op.equalIn 10000 227 (.agg #[.int .i64 a,.int .i64 b]) (.agg #[.int .i64 c,.int .i64 d])).run prog w= .ok (a==c&&b==d) w:=by
 obtain⟨ti,hti⟩:∃i,prog.info? 3=some i:=Option.isSome_iff_exists.1 (by kernel_rfl);rw[show(10000:Nat)=9999+1 from rfl,run_equalIn_array _ 9999 (e:=3) (n:=2) _ _ (by kernel_rfl) hti,show List.range 2= [0,1]from rfl,show prog.cellsOf 3=1 by kernel_rfl]
 have hp:∀(xs:Array Value) (i:Nat) (z:Int) (w:World),xs[i]?=some (.int .i64 z)→(part 3 xs (i*1)).run prog w= .ok (.int .i64 z) w:=fun xs i z w h=>by
  simp[part,go_sem,h]
 have he:∀(x y:Int) (w:World),(Op.equalIn 9999 3 (.int .i64 x) (.int .i64 y)).run prog w= .ok (x==y) w:=fun x y w=>run_equalIn_int _ 9998 3 .i64 .i64 x y (by kernel_rfl);have h0:∀(x y:Int) (w:World),(part 3 #[.int .i64 x,.int .i64 y] 0).run prog w= .ok (.int .i64 x) w:=fun x y w=>hp #[.int .i64 x,.int .i64 y] 0 x w rfl;have h1:∀(x y:Int) (w:World),(part 3 #[.int .i64 x,.int .i64 y] 1).run prog w= .ok (.int .i64 y) w:=fun x y w=>hp #[.int .i64 x,.int .i64 y] 1 y w rfl;simp only[Op.eqItems,Sem.run_bind,Nat.zero_mul,Nat.one_mul,h0,h1,he,Result.andThen_ok];by_cases p:a=c<;>by_cases q:b=d<;>simp[Sem.run_bind,h0,h1,he,p,q]
def zvb(w:World)(x:HB)(v:Value)(wr:World):Prop:= ∃k:Nat,k≤12∧v= .int .i64 k∧Fr [] w wr∧Tabs wr∧wr.cell? ⟨w.heap.size,0,none⟩=some (.int .i64 x.tag)∧x.lackTo k=false∧w.heap.size<wr.heap.size
theorem zp0(w:World)(hT:Tabs w)(x:HB)(hx:x.Ok):Calls prog 248 #[x.val] w fun e w'=>e= .returned (.bool (x.lackTo 12))∧Fr [] w w':=by
 obtain⟨arr,hA,hs,hg⟩:=zj8 x;have hn:=fun w=>zfx w x hx;rw[hA]at hn;have hval:x.val= .agg #[.int .i64 x.tag,.int .i64 x.cls,.bool x.used,.int .i64 x.label,.int .u32 x.name,.int .u32 x.next,.int .u32 x.prev,.int .u32 x.refs,.int .u64 x.expiry,.int .u16 x.typ,.int .i64 x.size,.int .u32 x.hash] :=rfl;rw[hval];rw[hval]at hn;have HG:=hid hg;clear hg hA hval;go_enter func248,ntmps248;go_wp2_with fail;refine(hn _).mono ?_;rintro e w1 ⟨rfl,f1⟩;have hT1:Tabs w1:=(hT.alloc _).fr f1 (by simp);have hF1:Fr [] w w1:=((Fr.refl [] w).alloc _).trans f1;have hc1:w1.cell? ⟨w.heap.size,0,none⟩=some (.int .i64 x.tag):=(f1.cell (p:=⟨w.heap.size,0,none⟩) (by simp) (by simp)).trans (by simp);have hlt1:w.heap.size<w1.heap.size:=Nat.lt_of_lt_of_le (by simp) f1.size;clear f1 hn;go_wp2_with fail;go_loopw [7] (fun v W=>zvb w x v W) (fun v _=>12-(intOf v).toNat);case atStart=>exact⟨0,by omega,rfl,hF1,hT1,hc1,rfl,hlt1⟩
 case round=>
  clear hF1 hT1 hc1 hlt1;obtain⟨k,hk,rfl,hF,hT2,hc,hl,hlt2⟩:=hrel;by_cases hlt:k<12
  ·have hak:=HG.out k hlt
   have hk0:(0:Int)≤k:=by omega
   have hk8:(k:Int)<12:=by omega
   have hix:=zda arr k hlt (x.num k) hak;have hls:x.lackTo (k+1)=x.lackAt k:=by rw[HB.lackTo,hl,Bool.false_or]
   have hz:=zfj x.tag k;clear hak hl;by_cases h0:x.num k=0
   ·have hb:(((x.num k:Nat):Int) !=0)=false:=by simp[h0]
    have hnl:x.lackTo (k+1)=false:=by rw[hls];simp[HB.lackAt,h0]
    generalize x.num k=n at*;clear hz h0;go_wp2_with fail;go_quiet (fail);go_wp2;exact⟨⟨k+1,by omega,by go_num,hF.drewN _,hT2.fr ((Fr.refl [] wr).drewN _) (by simp),hc,hnl,hlt2⟩,by simp[intOf];omega⟩
   ·have hb:(((x.num k:Nat):Int) !=0)=true:=by simp;omega
    have n0:=hT2.now 0;have n1:=hT2.now 1;have hsz:=hT2.size;by_cases hw:(whZ x.tag k).2=0
    ·have hp:∀W,Tabs W→Calls prog 178 #[.int .i64 x.tag,.int .i64 k] W fun e w'=>e= .returned (.agg #[.int .i64 0,.int .i64 0])∧Fr [] W w':=fun W h=>by
      have:=zcc W h x.tag k;rw[hz hw]at this;exact this
     have hnl:x.lackTo (k+1)=true:=by rw[hls];simp[HB.lackAt,h0,hw]
     have hend:x.lackTo 12=true:=by
      have:∀j,x.lackTo (k+1+j)=true:=fun j=>by
       induction j with
       |zero=>exact hnl
       |succ j ih=>rw[←Nat.add_assoc,HB.lackTo,ih,Bool.true_or]
      have:=this (12-(k+1));rwa[show k+1+(12-(k+1))=12 by omega]at this
     generalize x.num k=n at*;have hE:∀w,(Op.equalIn 10000 227 (.agg #[.int .i64 0,.int .i64 0]) (.agg #[.int .i64 0,.int .i64 0])).run prog w= .ok true w:=fun w=>zdb 0 0 0 0 w;clear hz h0 hls hnl;go_wp2_with fail
     go_region_held3 (fun w'=>w'.cell? ⟨w.heap.size,0,none⟩=some (.int .i64 x.tag)∧w'.cell? ⟨1,0,none⟩=some (.int .i64 0)∧w'.cell? ⟨1,1,none⟩=some (.int .i64 0)) (exact⟨hc,n0,n1⟩)
      (first|(go_at_call 178;refine(hp _ (hT2.fr (zcw (S:= [])) (by simp))).mono ?_;rintro e W2 ⟨rfl,f2⟩;have hF2:=hF.trans ((zcw (S:= [])).trans f2);have hT3:=hT2.fr ((zcw (S:= [])).trans f2) (by simp);have hsz3:=f2.size;have hcK:=hc;have hc:=((((zcw (S:= [])).trans f2)).cell (p:=⟨w.heap.size,0,none⟩) hlt2 (by simp)).trans hc;have n0:=hT3.now 0;have n1:=hT3.now 1))
     go_wp2_with fail;go_returns;exact⟨by rw[hend];rfl,hF2⟩
    ·have hp:∀W,Tabs W→Calls prog 178 #[.int .i64 x.tag,.int .i64 k] W fun e w'=>e= .returned (.agg #[.int .i64 (whZ x.tag k).1,.int .i64 (whZ x.tag k).2])∧Fr [] W w':=fun W h=>zcc W h x.tag k
     have hnl:x.lackTo (k+1)=false:=by rw[hls];simp[HB.lackAt,hw]
     generalize x.num k=n at*;generalize(whZ x.tag k).1=a at*;generalize(whZ x.tag k).2=b at*;have hbb:((b:Int)==0)=false:=by simp;omega
     have hE:∀w,(Op.equalIn 10000 227 (.agg #[.int .i64 a,.int .i64 b]) (.agg #[.int .i64 0,.int .i64 0])).run prog w= .ok false w:=fun w=>by rw[zdb,hbb,Bool.and_false]
     clear hz h0 hls;go_wp2_with fail
     go_region_held3 (fun w'=>w'.cell? ⟨w.heap.size,0,none⟩=some (.int .i64 x.tag)∧w'.cell? ⟨1,0,none⟩=some (.int .i64 0)∧w'.cell? ⟨1,1,none⟩=some (.int .i64 0)) (exact⟨hc,n0,n1⟩)
      (first|(go_at_call 178;refine(hp _ (hT2.fr (zcw (S:= [])) (by simp))).mono ?_;rintro e W2 ⟨rfl,f2⟩;have hF2:=hF.trans ((zcw (S:= [])).trans f2);have hT3:=hT2.fr ((zcw (S:= [])).trans f2) (by simp);have hsz3:=f2.size;have hcK:=hc;have hc:=((((zcw (S:= [])).trans f2)).cell (p:=⟨w.heap.size,0,none⟩) hlt2 (by simp)).trans hc;have n0:=hT3.now 0;have n1:=hT3.now 1))
     go_wp2;exact⟨⟨k+1,by omega,by go_num,hF2,hT3,hc,hnl,Nat.lt_of_lt_of_le hlt2 (by have:=f2.size;simpa using this)⟩,by simp[intOf];omega⟩
  ·have hk12:k=12:=by omega
   subst hk12;go_wp2_with fail;go_returns;exact⟨by rw[hl];rfl,hF⟩
def zck(tag cls label:Int)(used:Bool):Bool:=
 if tag=0 then decide (cls=0)&& !used&&decide (label=0)
  else decide (1≤cls∧cls≤9)&&if tag=1 then decide (label=0)else !used&&decide (1≤label∧label≤63)
def HB.right(x:HB):Bool:=
 decide (0≤x.tag∧x.tag≤2∧0≤x.size∧x.size≤480)&& !x.lackTo 12&&zck x.tag x.cls x.label x.used
theorem zsz{a b:Bool}(h:a=b):Ending.returned (.bool a)= .returned (.bool b):=by rw[h]
theorem zsg(w:World)(tag cls size label:Int)(used:Bool)(name next prev refs expiry typ hash:Nat)(ht:tag=0∨tag=1∨tag=2)(h2:0≤size)(h3:size≤480)
  (hl:∀W,Tabs W→Calls prog 248 #[.agg #[.int .i64 tag,.int .i64 cls,.bool used,.int .i64 label,.int .u32 name,.int .u32 next,.int .u32 prev,.int .u32 refs,.int .u64 expiry,.int .u16 typ,.int .i64 size,.int .u32 hash]] W fun e w'=>e= .returned (.bool false)∧Fr [] W w') (hT:Tabs w):
  Calls prog 176 #[.agg #[.int .i64 tag,.int .i64 cls,.bool used,.int .i64 label,.int .u32 name,.int .u32 next,.int .u32 prev,.int .u32 refs,.int .u64 expiry,.int .u16 typ,.int .i64 size,.int .u32 hash]] w fun e w'=>e= .returned (.bool (zck tag cls label used))∧Fr [] w w':=by
 have hi:=fun w=>zdo w tag;have hr:∃r,r=zck tag cls label used:=⟨_,rfl⟩;obtain⟨r,hr⟩:=hr;rw[←hr];have HR:=hid hr;clear hr;have b2:decide (size<0)=false:=by simp;omega
 have b3:decide (480<size)=false:=by simp;omega
 rcases ht with rfl|rfl|rfl
 all_goals
  first|rw[show(decide (0≤(0:Int))&&decide ((0:Int)<3))=true from rfl]at hi|rw[show(decide (0≤(1:Int))&&decide ((1:Int)<3))=true from rfl]at hi|rw[show(decide (0≤(2:Int))&&decide ((2:Int)<3))=true from rfl]at hi
  go_enter func176,ntmps176;go_wp2_with (go_at_call 217;refine(hi _).mono ?_;rintro e w' ⟨rfl,rfl⟩);with_reducible refine(hl _ (hT.alloc _)).mono ?_
  rintro e w1 ⟨rfl,f1⟩;have c0:=f1.cell (p:=⟨w.heap.size,0,none⟩) (by simp) (by simp);have c1:=f1.cell (p:=⟨w.heap.size,1,none⟩) (by simp) (by simp);have c2:=f1.cell (p:=⟨w.heap.size,2,none⟩) (by simp) (by simp);have c3:=f1.cell (p:=⟨w.heap.size,3,none⟩) (by simp) (by simp);simp at c0 c1 c2 c3;have f2:Fr [] w w1:=((Fr.refl [] w).alloc _).trans f1;clear f1 hl hi;go_wp2_with fail
  all_goals
   go_returns;refine⟨zsz ?_,f2⟩;go_light;rw[HR.out,zck];clear HR c0 c1 c2 c3 f2 hT;rw[Bool.eq_iff_iff];cases used<;>first|(simp_all;done)|(simp_all;omega)|(simp;omega)
theorem zhm(w:World)(hT:Tabs w)(x:HB)(hx:x.Ok):Calls prog 176 #[x.val] w fun e w'=>e= .returned (.bool x.right)∧Fr [] w w':=by
 have hi:=fun w=>zdo w x.tag;have hl:∀W,Tabs W→Calls prog 248 #[x.val] W fun e w'=>e= .returned (.bool (x.lackTo 12))∧Fr [] W w':=fun W h=>zp0 W h x hx;have hr:x.right=x.right:=rfl;conv at hr=>rhs;unfold HB.right
 generalize x.right=r at*;generalize x.lackTo 12=L at*;obtain⟨tag,cls,used,label,name,next,prev,refs,expiry,typ,size,hash⟩:=x;simp only[HB.val,HB.cells]at*;by_cases ht:0≤tag∧tag≤2
 ·have b1:(decide (0≤tag)&&decide (tag<3))=true:=by simp;omega
  by_cases h2:size<0
  ·have b2:decide (size<0)=true:=by simpa using h2
   have hr2:r=false:=by rw[hr];simp;omega
   rw[hr2];rw[b1]at hi;clear hr hr2 ht hl;go_enter func176,ntmps176;go_wp2_with (go_at_call 217;refine(hi _).mono ?_;rintro e w' ⟨rfl,rfl⟩);go_returns;exact⟨rfl,by repeat(first|exact Fr.refl _ _|apply Fr.alloc|apply Fr.drew|apply Fr.drewN|(refine Fr.setCell ?_ (Or.inr (by simp)) _))⟩
  ·have b2:decide (size<0)=false:=by simpa using h2
   by_cases h3:480<size
   ·have b3:decide (480<size)=true:=by simpa using h3
    have hr2:r=false:=by rw[hr];simp;omega
    rw[hr2];rw[b1]at hi;clear hr hr2 ht hl;go_enter func176,ntmps176;go_wp2_with (go_at_call 217;refine(hi _).mono ?_;rintro e w' ⟨rfl,rfl⟩);go_returns;exact⟨rfl,by repeat(first|exact Fr.refl _ _|apply Fr.alloc|apply Fr.drew|apply Fr.drewN|(refine Fr.setCell ?_ (Or.inr (by simp)) _))⟩
   ·cases L
    ·have:r=zck tag cls label used:=by rw[hr];simp;omega
     rw[this];exact zsg w tag cls size label used name next prev refs expiry typ hash (by omega) (by omega) (by omega) hl hT
    ·have b3:decide (480<size)=false:=by simpa using h3
     have hr2:r=false:=by rw[hr];simp
     rw[hr2];rw[b1]at hi;clear hr hr2 ht;go_enter func176,ntmps176;go_wp2_with (go_at_call 217;refine(hi _).mono ?_;rintro e w' ⟨rfl,rfl⟩);with_reducible refine(hl _ (hT.alloc _)).mono ?_
     rintro e w1 ⟨rfl,f1⟩;have f2:Fr [] w w1:=((Fr.refl [] w).alloc _).trans f1;clear f1 hl hi;go_wp2_with fail;go_returns;exact⟨rfl,f2⟩
 ·have b1:(decide (0≤tag)&&decide (tag<3))=false:=by simp;omega
  have hr2:r=false:=by rw[hr];simp;omega
  rw[hr2];rw[b1]at hi;clear hr hr2 ht hl;go_enter func176,ntmps176;go_wp2_with (go_at_call 217;refine(hi _).mono ?_;rintro e w' ⟨rfl,rfl⟩);go_returns;exact⟨rfl,by repeat(first|exact Fr.refl _ _|apply Fr.alloc|apply Fr.drew|apply Fr.drewN|(refine Fr.setCell ?_ (Or.inr (by simp)) _))⟩
def HB.encTo(x:HB):Nat→List Nat
 |0=>List.replicate (szZ x.tag) 0
 |k+1=>zd1 (x.encTo k) (whZ x.tag k).1 (x.num k) (whZ x.tag k).2
def HB.enc(x:HB):List Nat:=x.encTo 12
def HB.ofNums(n:Nat→Nat):HB:={tag:=IntKind.i64.wrap (n 0),cls:=IntKind.i64.wrap (n 1),used:=n 2==1,label:=IntKind.i64.wrap (n 3),name:=n 4 %4294967296,next:=n 5 %4294967296,prev:=n 6 %4294967296,refs:=n 11 %4294967296,expiry:=n 7,typ:=n 8 %65536,size:=IntKind.i64.wrap (n 9),hash:=n 10 %4294967296}
theorem zds(w:World)(n:Int):Calls prog 272 #[.int .u64 n] w fun e w'=>e= .returned (.int .i64 (IntKind.i64.wrap n))∧w'=w:=by
 go_enter func272,ntmps272;go_wp2;go_ret;exact⟨zjs (IntWalk.i64_left n).symm,rfl⟩
theorem zdt(w:World)(n:Nat):Calls prog 273 #[.int .u64 n] w fun e w'=>e= .returned (.int .u32 ((n %4294967296:Nat):Int))∧w'=w:=by
 have hu:=zwi n;generalize n %4294967296=m at*;go_enter func273,ntmps273;go_wp2;go_ret;exact⟨rfl,rfl⟩
theorem zrk(w:World)(n:Nat):Calls prog 274 #[.int .u64 n] w fun e w'=>e= .returned (.int .u16 ((n %65536:Nat):Int))∧w'=w:=by
 have hu:=zu4 n;generalize n %65536=m at*;go_enter func274,ntmps274;go_wp2;go_ret;exact⟨rfl,rfl⟩
theorem zru(w:World)(n0 n1 n2 n3 n4 n5 n6 n7 n8 n9 n10 n11:Nat):Calls prog 219 #[.agg #[.int .u64 (n0:Int),.int .u64 (n1:Int),.int .u64 (n2:Int),.int .u64 (n3:Int),.int .u64 (n4:Int),.int .u64 (n5:Int),.int .u64 (n6:Int),.int .u64 (n7:Int),.int .u64 (n8:Int),.int .u64 (n9:Int),.int .u64 (n10:Int),.int .u64 (n11:Int)]] w fun e w'=>e= .returned (HB.ofNums fun i=> [n0,n1,n2,n3,n4,n5,n6,n7,n8,n9,n10,n11][i]?.getD 0).val∧Fr [] w w':=by
 have a0:=fun w=>zds w n0;have a1:=fun w=>zds w n1;have a3:=fun w=>zds w n3;have a9:=fun w=>zds w n9;have e4:=fun w=>zdt w n4;have e5:=fun w=>zdt w n5;have e6:=fun w=>zdt w n6;have e10:=fun w=>zdt w n10;have e11:=fun w=>zdt w n11;have e8:=fun w=>zrk w n8;simp only[HB.ofNums,HB.val,HB.cells,List.getElem?_cons_zero,List.getElem?_cons_succ,Option.getD_some];generalize n4 %4294967296=m4 at*;generalize n5 %4294967296=m5 at*;generalize n6 %4294967296=m6 at*;generalize n10 %4294967296=m10 at*;generalize n11 %4294967296=m11 at*;generalize n8 %65536=m8 at*;generalize IntKind.i64.wrap (n0:Int)=s0 at*;generalize IntKind.i64.wrap (n1:Int)=s1 at*;generalize IntKind.i64.wrap (n3:Int)=s3 at*;generalize IntKind.i64.wrap (n9:Int)=s9 at*;have hb2:((n2:Int)==1)=(n2==1):=by rw[Bool.eq_iff_iff];simp;omega
 go_enter func219,ntmps219;go_wp2_with fail;generalize hw:(w.alloc (.cells #[.int .u64 (n0:Int),.int .u64 (n1:Int),.int .u64 (n2:Int),.int .u64 (n3:Int),.int .u64 (n4:Int),.int .u64 (n5:Int),.int .u64 (n6:Int),.int .u64 (n7:Int),.int .u64 (n8:Int),.int .u64 (n9:Int),.int .u64 (n10:Int),.int .u64 (n11:Int)] 224)).alloc (.cells #[.int .i64 0,.int .i64 0,.bool false,.int .i64 0,.int .u32 0,.int .u32 0,.int .u32 0,.int .u32 0,.int .u64 0,.int .u16 0,.int .i64 0,.int .u32 0] 89)=w1;refine wp_region_still_tail 36 (by kernel_rfl) (by kernel_rfl) ?_;simp only[List.take_succ_cons,List.take_zero,List.drop_succ_cons,List.drop_zero];have hb:Blk w1.drew w.heap.size 224 #[.int .u64 (n0:Int),.int .u64 (n1:Int),.int .u64 (n2:Int),.int .u64 (n3:Int),.int .u64 (n4:Int),.int .u64 (n5:Int),.int .u64 (n6:Int),.int .u64 (n7:Int),.int .u64 (n8:Int),.int .u64 (n9:Int),.int .u64 (n10:Int),.int .u64 (n11:Int)] :=by rw[←hw];exact((Blk.new w _ _).alloc _).drew
 have hn:Blk w1.drew (w.heap.size+1) 89 #[.int .i64 0,.int .i64 0,.bool false,.int .i64 0,.int .u32 0,.int .u32 0,.int .u32 0,.int .u32 0,.int .u64 0,.int .u16 0,.int .i64 0,.int .u32 0] :=by rw[←hw,show w.heap.size+1=(w.alloc (.cells #[.int .u64 (n0:Int),.int .u64 (n1:Int),.int .u64 (n2:Int),.int .u64 (n3:Int),.int .u64 (n4:Int),.int .u64 (n5:Int),.int .u64 (n6:Int),.int .u64 (n7:Int),.int .u64 (n8:Int),.int .u64 (n9:Int),.int .u64 (n10:Int),.int .u64 (n11:Int)] 224)).heap.size by simp];exact(Blk.new _ _ _).drew
 have hf:Fr [] w w1.drew:=by rw[←hw];exact(((Fr.refl _ _).alloc _).alloc _).drew
 clear hw;change wpStill _ _ w1.drew (fun a'=>wpList _ _ _ _ a' w1.drew) _ _;generalize w1.drew=w2 at hb hn hf⊢;have c0:=hb.cell 0;have c1:=hb.cell 1;have c2:=hb.cell 2;have c3:=hb.cell 3;have c4:=hb.cell 4;have c5:=hb.cell 5;have c6:=hb.cell 6;have c7:=hb.cell 7;have c8:=hb.cell 8;have c9:=hb.cell 9;have c10:=hb.cell 10;have c11:=hb.cell 11;have d0:=hn.cell 0;have d1:=hn.cell 1;have d2:=hn.cell 2;have d3:=hn.cell 3;have d4:=hn.cell 4;have d5:=hn.cell 5;have d6:=hn.cell 6;have d7:=hn.cell 7;have d8:=hn.cell 8;have d9:=hn.cell 9;have d10:=hn.cell 10;have d11:=hn.cell 11;have z0:=hn.frozen 0;have z1:=hn.frozen 1;have z2:=hn.frozen 2;have z3:=hn.frozen 3;have z4:=hn.frozen 4;have z5:=hn.frozen 5;have z6:=hn.frozen 6;have z7:=hn.frozen 7;have z8:=hn.frozen 8;have z9:=hn.frozen 9;have z10:=hn.frozen 10;have z11:=hn.frozen 11;simp at c0 c1 c2 c3 c4 c5 c6 c7 c8 c9 c10 c11;simp at d0 d1 d2 d3 d4 d5 d6 d7 d8 d9 d10 d11;repeat still_step
 still_call (a0 _);repeat still_step
 still_call (a1 _);repeat still_step
 still_call (a3 _);repeat still_step
 still_call (e4 _);repeat still_step
 still_call (e5 _);repeat still_step
 still_call (e6 _);repeat still_step
 still_call (e8 _);repeat still_step
 still_call (a9 _);repeat still_step
 still_call (e10 _);repeat still_step
 still_call (e11 _);repeat still_step
 refine wpStill_nil ?_;go_wp2_with fail;have hn3:=((((((((((((hn.set 0 (.int .i64 s0)).set 1 (.int .i64 s1)).set 2 (.bool (n2==1))).set 3 (.int .i64 s3)).set 4 (.int .u32 m4)).set 5 (.int .u32 m5)).set 6 (.int .u32 m6)).set 7 (.int .u32 m11)).set 8 (.int .u64 n7)).set 9 (.int .u16 m8)).set 10 (.int .i64 s9)).set 11 (.int .u32 m10));have hf3:=((((((((((((hf.setCell (p:=⟨w.heap.size+1,0,none⟩) (.inr (by simp)) (.int .i64 s0)).setCell (p:=⟨w.heap.size+1,1,none⟩) (.inr (by simp)) (.int .i64 s1)).setCell (p:=⟨w.heap.size+1,2,none⟩) (.inr (by simp)) (.bool (n2==1))).setCell (p:=⟨w.heap.size+1,3,none⟩) (.inr (by simp)) (.int .i64 s3)).setCell (p:=⟨w.heap.size+1,4,none⟩) (.inr (by simp)) (.int .u32 m4)).setCell (p:=⟨w.heap.size+1,5,none⟩) (.inr (by simp)) (.int .u32 m5)).setCell (p:=⟨w.heap.size+1,6,none⟩) (.inr (by simp)) (.int .u32 m6)).setCell (p:=⟨w.heap.size+1,7,none⟩) (.inr (by simp)) (.int .u32 m11)).setCell (p:=⟨w.heap.size+1,8,none⟩) (.inr (by simp)) (.int .u64 n7)).setCell (p:=⟨w.heap.size+1,9,none⟩) (.inr (by simp)) (.int .u16 m8)).setCell (p:=⟨w.heap.size+1,10,none⟩) (.inr (by simp)) (.int .i64 s9)).setCell (p:=⟨w.heap.size+1,11,none⟩) (.inr (by simp)) (.int .u32 m10));generalize((((((((((((w2.setCell ⟨w.heap.size+1,0,none⟩ (.int .i64 s0)).setCell ⟨w.heap.size+1,1,none⟩ (.int .i64 s1)).setCell ⟨w.heap.size+1,2,none⟩ (.bool (n2==1))).setCell ⟨w.heap.size+1,3,none⟩ (.int .i64 s3)).setCell ⟨w.heap.size+1,4,none⟩ (.int .u32 m4)).setCell ⟨w.heap.size+1,5,none⟩ (.int .u32 m5)).setCell ⟨w.heap.size+1,6,none⟩ (.int .u32 m6)).setCell ⟨w.heap.size+1,7,none⟩ (.int .u32 m11)).setCell ⟨w.heap.size+1,8,none⟩ (.int .u64 n7)).setCell ⟨w.heap.size+1,9,none⟩ (.int .u16 m8)).setCell ⟨w.heap.size+1,10,none⟩ (.int .i64 s9)).setCell ⟨w.heap.size+1,11,none⟩ (.int .u32 m10))=w3 at hn3 hf3⊢;have q0:=hn3.cell 0;have q1:=hn3.cell 1;have q2:=hn3.cell 2;have q3:=hn3.cell 3;have q4:=hn3.cell 4;have q5:=hn3.cell 5;have q6:=hn3.cell 6;have q7:=hn3.cell 7;have q8:=hn3.cell 8;have q9:=hn3.cell 9;have q10:=hn3.cell 10;have q11:=hn3.cell 11;simp at q0 q1 q2 q3 q4 q5 q6 q7 q8 q9 q10 q11;refine bodyPost_ret (by simp[results,results219,go_sem,q0,q1,q2,q3,q4,q5,q6,q7,q8,q9,q10,q11];try rfl) rfl ?_;exact⟨rfl,hf3⟩
def HB.zero:HB:={tag:=0,cls:=0,used:=false,label:=0,name:=0,next:=0,prev:=0,refs:=0,expiry:=0,typ:=0,size:=0,hash:=0}
def zd9:Array Value:= #[.int .i64 0,.int .i64 0,.bool false,.int .i64 0,.int .u32 0,.int .u32 0,.int .u32 0,.int .u32 0,.int .u64 0,.int .u16 0,.int .i64 0,.int .u32 0]
def zcz(n:Nat→Nat)(k:Nat):Array Value:=((List.range 12).map fun i=>Value.int .u64 ((if i<k then n i else 0:Nat):Int)).toArray
theorem zcv(n:Nat→Nat)(k i:Nat)(hi:i<12):(zcz n k)[i]?=some (.int .u64 ((if i<k then n i else 0:Nat):Int)):=by
 simp[zcz,hi]
theorem zn4(n:Nat→Nat)(k:Nat)(hk:k<12):(zcz n k).setIfInBounds k (.int .u64 (n k:Int))=zcz n (k+1):=by
 apply Array.ext_getElem?;intro i;rw[Array.getElem?_setIfInBounds];by_cases hi:i<12
 ·rw[zcv n _ i hi,zcv n _ i hi]
  by_cases e:k=i
  ·subst e
   rw[if_pos rfl,if_pos (by simp[zcz];omega),if_pos (by omega)]
  ·rw[if_neg e]
   by_cases c:i<k
   ·rw[if_pos c,if_pos (by omega)]
   ·rw[if_neg c,if_neg (by omega)]
 ·rw[if_neg (by omega),Array.getElem?_eq_none (by simp[zcz];omega),Array.getElem?_eq_none (by simp[zcz];omega)]
theorem zwo(n:Nat→Nat):zcz n 0= #[.int .u64 0,.int .u64 0,.int .u64 0,.int .u64 0,.int .u64 0,.int .u64 0,.int .u64 0,.int .u64 0,.int .u64 0,.int .u64 0,.int .u64 0,.int .u64 0] :=by
 simp[zcz,List.range,List.range.loop]
theorem zlc(n:Nat→Nat):zcz n 12= #[.int .u64 (n 0:Int),.int .u64 (n 1:Int),.int .u64 (n 2:Int),.int .u64 (n 3:Int),.int .u64 (n 4:Int),.int .u64 (n 5:Int),.int .u64 (n 6:Int),.int .u64 (n 7:Int),.int .u64 (n 8:Int),.int .u64 (n 9:Int),.int .u64 (n 10:Int),.int .u64 (n 11:Int)] :=by
 simp[zcz,List.range,List.range.loop]
theorem zn9(n:Nat→Nat):(HB.ofNums fun i=> [n 0,n 1,n 2,n 3,n 4,n 5,n 6,n 7,n 8,n 9,n 10,n 11][i]?.getD 0)=HB.ofNums n:=by
 simp[HB.ofNums]
theorem zoh(w:World)(n:Nat→Nat):Calls prog 219 #[.agg (zcz n 12)] w fun e w'=>e= .returned (HB.ofNums n).val∧Fr [] w w':=by
 rw[zlc,←zn9];exact zru w _ _ _ _ _ _ _ _ _ _ _ _
theorem zou{w w0:World}{g:Nat}{t:TypeId}{cs:Array Value}{S:List Nat}{v0 v1 v2 v3 v4 v5 v6 v7 v8 v9 v10 v11:Value}(C:World→Prop)(h:Blk w g t cs)(hs:cs.size=12)(hf:Fr S w0 w)(hg:g∈S∨w0.heap.size≤g)
  (K:∀w9,Blk w9 g t #[v0,v1,v2,v3,v4,v5,v6,v7,v8,v9,v10,v11]→Fr S w0 w9→C w9):C ((((((((((((w.setCell ⟨g,0,none⟩ v0).setCell ⟨g,1,none⟩ v1).setCell ⟨g,2,none⟩ v2).setCell ⟨g,3,none⟩ v3).setCell ⟨g,4,none⟩ v4).setCell ⟨g,5,none⟩ v5).setCell ⟨g,6,none⟩ v6).setCell ⟨g,7,none⟩ v7).setCell ⟨g,8,none⟩ v8).setCell ⟨g,9,none⟩ v9).setCell ⟨g,10,none⟩ v10).setCell ⟨g,11,none⟩ v11):=by
 have:=K (w.setCells g 0 [v0,v1,v2,v3,v4,v5,v6,v7,v8,v9,v10,v11]) (by
  have:=h.setCells [v0,v1,v2,v3,v4,v5,v6,v7,v8,v9,v10,v11] 0;rw[zdi _ _ (by rw[hs];rfl)]at this;exact this) (hf.setCells hg _ _)
 exact this
theorem zfd(t k:Nat)(ht:t<3)(hk:k<12):whZ t k=wh t k:=by unfold whZ;rw[if_pos (by omega),Int.toNat_natCast,Int.toNat_natCast]
theorem zep(z:Int)(h: -9223372036854775808≤z∧z≤9223372036854775807):IntKind.i64.wrap (w64 z:Int)=z:=by
 rw[IntKind.wrap_i64,w64];omega
theorem zl7(x:HB)(hx:x.Ok):HB.ofNums x.num=x:=by
 obtain⟨tag,cls,used,label,name,next,prev,refs,expiry,typ,size,hash⟩:=x;obtain⟨h1,h2,h3,h4,h5,h6,h7,h8,h9,h10,h11⟩:=hx;simp only at h1 h2 h3 h4 h5 h6 h7 h8 h9 h10 h11;simp only[HB.ofNums,HB.num,HB.nums,List.getElem?_cons_zero,List.getElem?_cons_succ,Option.getD_some,zep _ h1,zep _ h2,zep _ h3,zep _ h10,Nat.mod_eq_of_lt h4,Nat.mod_eq_of_lt h5,Nat.mod_eq_of_lt h6,Nat.mod_eq_of_lt h7,Nat.mod_eq_of_lt h9,Nat.mod_eq_of_lt h11];cases used<;>rfl
theorem zla(x:HB):∀k,x.lackTo k=false→∀f,f<k→(whZ x.tag f).2=0→x.num f=0
 |0,_,f,hf,_=>by omega
 |k+1,h,f,hf,hw=>by
  simp only[HB.lackTo,Bool.or_eq_false_iff]at h;by_cases e:f=k
  ·subst e
   have:=h.2;simp[HB.lackAt,hw]at this;exact this
  ·exact zla x k h.1 f (by omega) hw
theorem zp2(x:HB)(hx:x.Ok)(t:Nat)(ht:t<3)(htag:x.tag=t)(hr:x.right=true)(f:Nat)(hf:f<12)(hw:(wh t f).2≠0):x.num f<256^(wh t f).2:=by
 obtain⟨tag,cls,used,label,name,next,prev,refs,expiry,typ,size,hash⟩:=x;obtain⟨h1,h2,h3,h4,h5,h6,h7,h8,h9,h10,h11⟩:=hx;simp only at h1 h2 h3 h4 h5 h6 h7 h8 h9 h10 h11 htag;subst htag
 have hcl:0≤cls∧cls≤9∧0≤label∧label≤63∧0≤size∧size≤480:=by
  simp only[HB.right,zck,Bool.and_eq_true,decide_eq_true_eq]at hr;obtain⟨⟨⟨_,_,hs⟩,_⟩,hr⟩:=hr;split at hr
  ·simp at hr;omega
  ·rw[Bool.and_eq_true]at hr
   obtain⟨hr1,hr⟩:=hr;split at hr<;>simp at hr hr1<;>omega
 have hv:∀z:Int,0≤z→z≤480→w64 z≤480:=fun z _ _=>by unfold w64;omega
 have hv2:∀z:Int,0≤z→z≤63→w64 z≤63:=fun z _ _=>by unfold w64;omega
 have c1:=hv2 cls (by omega) (by omega);have c2:=hv2 label (by omega) (by omega);have c3:=hv size (by omega) (by omega);have c4:=hv2 (t:Int) (by omega) (by omega);have c5:(if used=true then 1 else 0:Nat)≤1:=by split<;>omega
 revert hw;rcases t with _|_|_|t<;>try omega
 all_goals
  rcases f with _|_|_|_|_|_|_|_|_|_|_|_|f<;>try omega
  all_goals
   simp only[HB.num,HB.nums,List.getElem?_cons_zero,List.getElem?_cons_succ,Option.getD_some];simp[wh,zjo,ownL];try first|omega|decide
end Go.Proofs.YtolhkhdbgnciiaaGreatDoor
