/- Several texts in one. -/
import Derived.Test.YtolhkhdbgnciiaaGreatDoorVA
import Derived.Test.YtolhkhdbgnciiaaGreatDoorMJ
namespace Go.Proofs.YtolhkhdbgnciiaaGreatDoor
open _root_.Go.Proofs.Tryz
open Go.Lib (hid)
open Go.IntWalk (i64_in)
set_option linter.unusedVariables false
set_option linter.unusedSimpArgs false
open Go.RowKit
set_option maxRecDepth 100000
set_option maxHeartbeats 4000000
section
open Go.ChangeShapes Go.WideShapes Go.ChangeAt Go.RowKit
theorem zyq{α:Type}{cs:List α}(h:cs.length=6):∃c0 c1 c2 c3 c4 c5,cs= [c0,c1,c2,c3,c4,c5] :=by
 match cs,h with
 | [a0,a1,a2,a3,a4,a5],_=>exact⟨a0,a1,a2,a3,a4,a5,rfl⟩
theorem zry{n:Int}(h:(Lit.int .u16 n).wf=true):∃k:Nat,n=k∧k<65536:=by
 simp only[Lit.wf,IntKind.min,IntKind.max,IntKind.signed,IntKind.bits,Bool.and_eq_true,decide_eq_true_eq]at h;simp at h;exact⟨n.toNat,by omega,by omega⟩
structure BytW(w:World)(a:Option Addr)(l:List Nat):Prop where
 at_: ∀i,i<l.length→ ∃g o,a=some ⟨g,o,none⟩∧w.cell? ⟨g,o+i,none⟩=some (.int .u8 ((l[i]?.getD 0:Nat):Int))∧g<w.heap.size
 byte: ∀b∈l,b<256
 len:l.length≤9223372036854775807
theorem BytW.byt{w:World}{a:Option Addr}{l:List Nat}(h:BytW w a l)(hl:l.length≤1099511627776):Byt w a l:=⟨h.at_,h.byte,hl⟩
theorem BytW.fr0{w w':World}{a:Option Addr}{l:List Nat}(h:BytW w a l)(hf:Fr [] w w'):BytW w' a l:=
 ⟨fun i hi=>by
  obtain⟨g,o,e,hc,hg⟩:=h.at_ i hi;exact⟨g,o,e,(hf.cell (p:=⟨g,o+i,none⟩) hg (by simp)).trans hc,Nat.lt_of_lt_of_le hg hf.size⟩,h.byte,h.len⟩
structure RecW(w:World)(ad:Option Addr)(L:List (List Nat)):Prop where
 at_: ∀i,i<L.length→ ∃g o a c,ad=some ⟨g,o,none⟩∧w.cell? ⟨g,o+i,none⟩=some (.slice a (L[i]?.getD []).length c)∧BytW w a (L[i]?.getD [])∧g<w.heap.size∧(L[i]?.getD []).length≤c
 len:L.length≤9223372036854775807
theorem RecW.fr0{w w':World}{ad:Option Addr}{L:List (List Nat)}(h:RecW w ad L)(hf:Fr [] w w'):RecW w' ad L:=
 ⟨fun i hi=>by
  obtain⟨g,o,a,c,e,h1,h2,h3,h4⟩:=h.at_ i hi;exact⟨g,o,a,c,e,(hf.cell (p:=⟨g,o+i,none⟩) h3 (by simp)).trans h1,h2.fr0 hf,Nat.lt_of_lt_of_le h3 hf.size,h4⟩,h.len⟩
theorem RecW.recA{w:World}{ad:Option Addr}{L:List (List Nat)}(h:RecW w ad L)(hl:∀x∈L,x.length≤3000):RecA (fun _=>True) w ad L:=
 ⟨fun i hi=>by
  obtain⟨g,o,a,c,e,h1,h2,h3,_⟩:=h.at_ i hi
  have hx:(L[i]?.getD []).length≤3000:=by
   rw[List.getElem?_eq_getElem hi];exact hl _ (List.getElem_mem hi)
  exact⟨g,o,a,c,e,h1,h2.byt (by omega),h3,trivial,fun _ _ _=>trivial⟩,h.len⟩
theorem zp1{H:Type}{enc:TypeId×Value→H}{w:World}{base:Nat}{spare:Nat→Bool}{held:Bool}{fuel:Nat}{v:Value}{x:DataW H×List MemPlace}(hf:DataW.trod enc prog w base spare held fuel 44 [v] =some x):∃a c l,v= .slice a l.length c∧l.length≤c∧BytW w a l:=by
 rcases open_ints underlying44 underlying5 (by kernel_rfl) hf with⟨hcs,hx⟩|⟨ad,len',cap',zs,hcs,_,hl,hm,hz,hx,hcell,hwz⟩
 ·simp at hcs
  exact⟨none,0,[],hcs,Nat.zero_le _,fun i hi=>by simp at hi,fun b hb=>by simp at hb,by simp⟩
 ·simp at hcs
  have hzl:len'≤zs.length:=by rw[hz];split<;>omega
  have hrange:∀z∈zs,0≤z∧z<256:=fun z hz=>by
   have:=hwz z hz;simp only[Lit.wf,IntKind.min,IntKind.max,IntKind.signed,IntKind.bits,Bool.and_eq_true,decide_eq_true_eq]at this;simp at this;omega
  obtain⟨b,off,spot⟩:=ad;have hll:((zs.take len').map Int.toNat).length=len':=by simp[Nat.min_eq_left hzl]
  refine⟨some ⟨b,off,spot⟩,cap',(zs.take len').map Int.toNat,by rw[hll];exact hcs,by rw[hll];exact hl,fun i hi=> ?_,fun x hx=> ?_,by unfold maxLen at hm;omega⟩
  ·have hil:i<len':=by omega
   have hc:=hcell i (by omega)
   have hspot:spot=none:=by
    have:=World.cell?_spot (hcell 0 (by omega));simpa[Addr.add]using this
   subst hspot;have hadd:(⟨b,off,none⟩:Addr).add i=⟨b,off+i,none⟩:=by unfold Addr.add;split<;>simp_all
   rw[hadd]at hc;refine⟨b,off,rfl,?_,zgr hc⟩;rw[hc];have hz0:=hrange (zs[i]'(by omega)) (List.getElem_mem _)
   have e:(((zs.take len').map Int.toNat)[i]?.getD 0:Nat)=(zs[i]'(by omega)).toNat:=by
    rw[List.getElem?_map,List.getElem?_take_of_lt hil,List.getElem?_eq_getElem (by omega)];rfl
   rw[e,List.getD_eq_getElem?_getD,List.getElem?_eq_getElem (by omega),Option.getD_some,Int.toNat_of_nonneg hz0.1]
  ·obtain⟨z,hz1,rfl⟩:=List.mem_map.1 hx
   have:=hrange z (List.mem_of_mem_take hz1);omega
theorem zph{H:Type}{enc:TypeId×Value→H}{w:World}{base:Nat}{spare:Nat→Bool}{held:Bool}{fuel:Nat}{v:Value}{x:DataW H×List MemPlace}(hf:DataW.trod enc prog w base spare held fuel 34 [v] =some x):∃a c l,v= .slice a l.length c∧RecW w a l:=by
 rcases Go.Deep.open_slice1 underlying34 (by kernel_rfl) hf with⟨h0,_⟩|⟨ad,len,cap,m,n,V,D,Pl,hcs,hb,hl,hm,hmm,hx,hi⟩
 ·simp at h0
  exact⟨none,0,[],h0,fun i hi=>by simp at hi,by simp⟩
 ·simp at hcs
  by_cases h0:len=0
  ·subst h0
   exact⟨_,_,[],hcs,fun i hi=>by simp at hi,by simp⟩
  obtain⟨b,off,spot⟩:=ad
  have hval0:∀i,i<len→∃d:List Nat,∃a c,w.cell? ((⟨b,off,spot⟩:Addr).add i)=some (.slice a d.length c)∧BytW w a d∧d.length≤c:=fun i him=>by
   obtain⟨hc,ht⟩:=hi i (by rw[hmm];split<;>omega);obtain⟨a1,c1,l1,e,hcc,hs⟩:=zp1 ht;exact⟨l1,a1,c1,by rw[hc,e],hs,hcc⟩
  have hspot:spot=none:=by
   obtain⟨d,a,c,hd,_⟩:=hval0 0 (by omega);simpa[Addr.add]using World.cell?_spot hd
  subst hspot;have hadd:∀n,(⟨b,off,none⟩:Addr).add n=⟨b,off+n,none⟩:=fun n=>by unfold Addr.add;split<;>simp_all
  have hval:∀i,i<len→∃d:List Nat,(∃a c,w.cell? ⟨b,off+i,none⟩=some (.slice a d.length c)∧BytW w a d∧d.length≤c)∧True:=fun i him=>by
   obtain⟨d,a,c,hd,hb,hc⟩:=hval0 i him;exact⟨d,⟨a,c,by rwa[hadd]at hd,hb,hc⟩,trivial⟩
  obtain⟨l,hl2,hp⟩:=zgn _ len hval;refine⟨_,_,l,by rw[hl2,hcs],fun i hi=> ?_,by rw[hl2];unfold maxLen at hm;omega⟩;obtain⟨a,c,h1,h2,h3⟩:=(hp i hi).1;rw[List.getElem?_eq_getElem hi];exact⟨b,off,a,c,rfl,h1,h2,zgr h1,h3⟩
theorem zmf{H:Type}{enc:TypeId×Value→H}{w:World}{base:Nat}{spare:Nat→Bool}{held:Bool}{fuel:Nat}{v:Value}{x:DataW H×List MemPlace}(hf:DataW.trod enc prog w base spare held fuel 31 [v] =some x):∃a c l,v= .slice a l.length c∧l.length≤c∧StrA w a l:=by
 rcases Go.Deep.open_slice1 underlying31 (by kernel_rfl) hf with⟨h0,_⟩|⟨ad,len,cap,m,n,V,D,Pl,hcs,hb,hl,hm,hmm,hx,hi⟩
 ·simp at h0
  exact⟨none,0,[],h0,Nat.zero_le _,fun i hi=>by simp at hi,fun d hd=>by simp at hd,fun d hd=>by simp at hd,by simp⟩
 ·simp at hcs
  by_cases h0:len=0
  ·subst h0
   exact⟨_,_,[],hcs,Nat.zero_le _,fun i hi=>by simp at hi,fun d hd=>by simp at hd,fun d hd=>by simp at hd,by simp⟩
  obtain⟨b,off,spot⟩:=ad
  have hval0:∀i,i<len→∃d:List Nat,((∀b∈d,b<256)∧d.length≤9223372036854775807)∧w.cell? ((⟨b,off,spot⟩:Addr).add i)=some (.string (zaf d)):=fun i him=>by
   obtain⟨hc,ht⟩:=hi i (by rw[hmm];split<;>omega);obtain⟨q4,g4,_,w4⟩:=DataW.trod_string underlying9 ht;simp at g4;refine⟨q4.data.toList.map UInt8.toNat,⟨fun x hx=> ?_,?_⟩,?_⟩
   ·obtain⟨y,_,rfl⟩:=List.mem_map.1 hx
    exact y.toNat_lt
   ·rw[List.length_map]
    unfold maxLen at w4;exact w4
   ·rw[zqp,hc,g4]
  have hspot:spot=none:=by
   obtain⟨d,_,hd⟩:=hval0 0 (by omega);simpa[Addr.add]using World.cell?_spot hd
  subst hspot;have hadd:∀n,(⟨b,off,none⟩:Addr).add n=⟨b,off+n,none⟩:=fun n=>by unfold Addr.add;split<;>simp_all
  have hval:∀i,i<len→∃d:List Nat,w.cell? ⟨b,off+i,none⟩=some (.string (zaf d))∧((∀b∈d,b<256)∧d.length≤9223372036854775807):=fun i him=>by
   obtain⟨d,ok,hd⟩:=hval0 i him;exact⟨d,by rwa[hadd]at hd,ok⟩
  obtain⟨l,hl2,hp⟩:=zgn _ len hval;refine⟨_,_,l,by rw[hl2,hcs],by rw[hl2];exact hl,fun i hi=>⟨b,off,rfl,?_,zgr (hp i hi).1⟩,fun d hd=> ?_,fun d hd=> ?_,by rw[hl2];unfold maxLen at hm;omega⟩
  ·rw[(hp i hi).1,List.getElem?_eq_getElem hi];rfl
  ·obtain⟨j,hj,rfl⟩:=List.mem_iff_getElem.1 hd
   exact(hp j hj).2.1
  ·obtain⟨j,hj,rfl⟩:=List.mem_iff_getElem.1 hd
   exact(hp j hj).2.2
structure A24 where
 k:Int
 n:Int
 a:Option Addr
 c:Nat
 l:List (List Nat)
 ty:Nat
 en:Nat
 ra:Option Addr
 rc:Nat
 rl:List (List Nat)
def A24.cells(d:A24):List Value:= [.int .i64 d.k,.int .i64 d.n,.slice d.a d.l.length d.c,.int .u16 d.ty,.int .u64 d.en,.slice d.ra d.rl.length d.rc]
structure A24.Ok(w:World)(d:A24):Prop where
 k: -9223372036854775808≤d.k∧d.k≤9223372036854775807
 n: -9223372036854775808≤d.n∧d.n≤9223372036854775807
 s:StrA w d.a d.l
 c:d.l.length≤d.c
 ty:d.ty<65536
 en:d.en<18446744073709551616
 r:RecW w d.ra d.rl
def zzf(w:World)(b o:Nat)(d:A24):Prop:= ∀j,j<6→w.cell? ⟨b,o+j,none⟩=d.cells[j]?
structure zk3(w:World)(a:Option Addr)(c:Nat)(l:List A24):Prop where
 row:0<l.length→ ∃b off,a=some ⟨b,off,none⟩∧b<w.heap.size∧ ∀i (h:i<l.length),zzf w b (off+i*6) l[i]
 each: ∀d∈l,d.Ok w
 len:l.length≤9223372036854775807
section
variable {H : Type} {enc : TypeId × Value → H} {w : World} {base b0 : Nat} {spare : Nat → Bool} {held : Bool} {r : Reach} {v : Value} {d : DataW H} {p : List MemPlace}
theorem zq1{fuel:Nat}{cs:List Value}{x:DataW H×List MemPlace}(hf:DataW.trod enc prog w base spare held fuel 36 cs=some x):∃d:A24,cs=d.cells∧d.Ok w:=by
 obtain⟨ys,n,rfl,hx,hl,hyl,hp⟩:=DataW.trod_struct underlying36 hf;have hg:∀i,i<6→∃y,ys[i]?=some y:=fun i hi=>⟨_,List.getElem?_eq_getElem (by rw[hyl];exact hi)⟩;have k0:prog.cellsOf 36=6:=by kernel_rfl
 have k1:prog.cellsOf 3=1:=by kernel_rfl
 have k2:prog.cellsOf 32=1:=by kernel_rfl
 have k3:prog.cellsOf 33=1:=by kernel_rfl
 have k4:prog.cellsOf 31=1:=by kernel_rfl
 have k5:prog.cellsOf 34=1:=by kernel_rfl
 rw[k0]at hl;obtain⟨c0,c1,c2,c3,c4,c5,rfl⟩:=zyq hl;obtain⟨y0,e0⟩:=hg 0 (by decide);obtain⟨y1,e1⟩:=hg 1 (by decide);obtain⟨y2,e2⟩:=hg 2 (by decide);obtain⟨y3,e3⟩:=hg 3 (by decide);obtain⟨y4,e4⟩:=hg 4 (by decide);obtain⟨y5,e5⟩:=hg 5 (by decide);have t0:=(hp 0 _ rfl).trans e0;have t1:=(hp 1 _ rfl).trans e1;have t2:=(hp 2 _ rfl).trans e2;have t3:=(hp 3 _ rfl).trans e3;have t4:=(hp 4 _ rfl).trans e4;have t5:=(hp 5 _ rfl).trans e5;simp only[List.getElem_toArray,List.getElem_cons_zero,List.getElem_cons_succ,k1,k2,k3,k4,k5,List.drop_succ_cons,List.drop_zero,List.take_succ_cons,List.take_zero]at t0 t1 t2 t3 t4 t5;obtain⟨q0,g0,_,w0⟩:=DataW.trod_int underlying3 t0;obtain⟨q1,g1,_,w1⟩:=DataW.trod_int underlying3 t1;obtain⟨q2,m2,s2,e2,hc2,hs2⟩:=zmf t2;obtain⟨q3,g3,_,w3⟩:=DataW.trod_int underlying32 t3;obtain⟨q4,g4,_,w4⟩:=DataW.trod_int underlying33 t4;obtain⟨q5,m5,s5,e5,hs5⟩:=zph t5;simp at g0 g1 g3 g4;obtain⟨n3,hn3,hl3⟩:=zry w3;obtain⟨n4,hn4,hl4⟩:=zxv w4;subst g0 g1 g3 g4 e2 e5 hn3 hn4;exact⟨⟨q0,q1,q2,m2,s2,n3,n4,q5,m5,s5⟩,rfl,⟨znd w0,znd w1,hs2,hc2,hl3,hl4,hs5⟩⟩
theorem open_acts24(hv:Value.okWide prog w r b0 22 v)(h:DataW.Trod enc prog w base spare held 22 v d p):∃a c l,v= .slice a l.length c∧zk3 w a c l:=by
 obtain⟨a0,len,cap,rfl⟩:=okWide_slice underlying22 hv;obtain⟨fuel,hf⟩:=h;rcases Go.Deep.open_slice underlying22 hf with h0|⟨a,len',cap',m,n,D,Pl,hcs,hb,hl,hm,hmm,hx,hi⟩
 ·have hcs:=h0.1
  simp[Value.cells]at hcs;obtain⟨rfl,rfl,rfl⟩:=hcs;exact⟨none,0,[],rfl,fun h=>by simp at h,fun d hd=>by simp at hd,by simp⟩
 ·simp[Value.cells]at hcs
  obtain⟨rfl,rfl,rfl⟩:=hcs;by_cases h0:len=0
  ·subst h0
   exact⟨_,_,[],rfl,fun h=>by simp at h,fun d hd=>by simp at hd,by simp⟩
  obtain⟨b,off,spot⟩:=a;have k0:prog.cellsOf 36=6:=by kernel_rfl
  have hval0:∀i,i<len→∃d:A24,d.Ok w∧∀j,j<6→w.cell? (((⟨b,off,spot⟩:Addr).add (i*6)).add j)=d.cells[j]?:=fun i him=>by
   obtain⟨cs',hc,ht⟩:=hi i (by rw[hmm];split<;>omega);rw[k0]at hc;obtain⟨d,rfl,ok⟩:=zq1 ht;obtain⟨_,hcl,hat⟩:=World.cells?_some hc;exact⟨d,ok,fun j hj=>hat j hj⟩
  have hspot:spot=none:=by
   obtain⟨d,_,hd⟩:=hval0 0 (by omega);have:=hd 0 (by decide);have c0:w.cell? (((⟨b,off,spot⟩:Addr).add (0*6)).add 0)=some (.int .i64 d.k):=this;simpa[Addr.add]using World.cell?_spot c0
  subst hspot;have hadd:∀n,(⟨b,off,none⟩:Addr).add n=⟨b,off+n,none⟩:=fun n=>by unfold Addr.add;split<;>simp_all
  have hadd2:∀n j,(⟨b,off+n,none⟩:Addr).add j=⟨b,off+n+j,none⟩:=fun n j=>by unfold Addr.add;split<;>simp_all
  have hval:∀i,i<len→∃d:A24,zzf w b (off+i*6) d∧d.Ok w:=fun i him=>by
   obtain⟨d,ok,hd⟩:=hval0 i him;exact⟨d,fun j hj=>by have:=hd j hj;rwa[hadd,hadd2]at this,ok⟩
  obtain⟨l,hl2,hp⟩:=zgn _ len hval;refine⟨_,_,l,by rw[hl2],fun _=>⟨b,off,rfl,?_,fun i h=>(hp i h).1⟩,fun d hd=> ?_,by rw[hl2];unfold maxLen at hm;omega⟩
  ·obtain⟨q,hq,_⟩:=hval 0 (by omega)
   exact zgr (hq 0 (by decide))
  ·obtain⟨j,hj,rfl⟩:=List.mem_iff_getElem.1 hd
   exact(hp j hj).2
end
end
def Few6(L:List (List Nat))(w:World)(e:Ending)(w':World):Prop:= ∃b,e= .returned (.bool b)∧w'=w∧(b=true→L.length≤60∧ ∀x∈L,x.length≤3000)
theorem few6(w:World)(ad:Option Addr)(cap:Nat)(L:List (List Nat))(h:RecW w ad L):Calls prog 17 #[.slice ad L.length cap] w (Few6 L w):=by
 have HA:=hid h;have hle:=h.len;obtain⟨n,hn⟩:∃n,L.length=n:=⟨_,rfl⟩;rw[hn]at hle⊢;have HN:=hid hn;clear hn h;go_enter func17,ntmps17;go_wp2_with fail;go_loopg [3,4] (n+1) (fun gk v3 v4 W=>∃t i:Nat,v3= .int .i64 t∧v4= .int .i64 i∧(i+gk=n+1∧i≤n)∧(t≤3000+9999)∧Hid (t≤3000→∀x∈L.take i,x.length≤t)∧w=W);case atStart=>exact⟨0,0,rfl,rfl,by omega,by omega,hid (fun _ d hd=>by simp at hd),rfl⟩
 case round=>
  obtain⟨t,i,rfl,rfl,hi,ht,HD,rfl⟩:=hrel;by_cases hlt:i<n∧t≤3000
  ·have b6':decide (i<n)=true:=by simp;omega
   have b7:decide ((t:Int)≤3000)=true:=by simp;omega
   have b7':decide (t≤3000)=true:=by simp;omega
   have hL:i<L.length:=by rw[HN.out];exact hlt.1
   obtain⟨g,o,a,c,rfl,hc,hb,hg,_⟩:=HA.out.at_ i hL;have hgd:L[i]?=some L[i] :=List.getElem?_eq_getElem hL;rw[hgd]at hc hb;simp only[Option.getD_some]at hc hb;have hbl:=hb.len;generalize L[i]'hL=x at*;obtain⟨m,hm⟩:∃m,x.length=m:=⟨_,rfl⟩;rw[hm]at hc hbl;obtain⟨k,hk⟩:∃k:Nat,min (m:Int) 9999=k:=⟨min m 9999,by omega⟩;have hk2:k≤9999∧(k≤3000→m=k):=by omega
   have HD2:=hid (show t+k≤3000→∀y∈L.take (i+1),y.length≤t+k from fun h y hy=>by
    rw[List.take_add_one,hgd,Option.toList_some]at hy;rcases List.mem_append.1 hy with h1|h1
    ·have:=HD.out (by omega) y h1;omega
    ·rw[List.mem_singleton]at h1
     rw[h1,hm,hk2.2 (by omega)];omega)
   have i0:(0:Int)≤i:=by omega
   have i1:(i:Int)<n:=by omega
   have wi:=i64_in ((i:Int)+1) (by omega);have wt:IntKind.i64.wrap ((t:Int)+k)=((t+k:Nat):Int):=by rw[i64_in _ (by omega)];push_cast;rfl
   clear hgd hL hb hbl hm;go_wp2_with fail;go_roundg (gk-1);case measure=>omega
   case rel=>exact⟨t+k,i+1,by first|rfl|(push_cast;rfl),by go_num,by omega,by omega,HD2,rfl⟩
  ·obtain⟨b6,h6⟩:∃b6,decide ((i:Int)<n)=b6:=⟨_,rfl⟩
   have h6':decide (i<n)=b6:=by rw[←h6];exact decide_eq_decide.2 (by omega)
   obtain⟨b7,h7⟩:∃b7,decide ((t:Int)≤3000)=b7:=⟨_,rfl⟩;have h7':decide (t≤3000)=b7:=by rw[←h7];exact decide_eq_decide.2 (by omega)
   obtain⟨b8,h8⟩:∃b8,decide ((n:Int)≤60)=b8:=⟨_,rfl⟩;have h8':decide (n≤60)=b8:=by rw[←h8];exact decide_eq_decide.2 (by omega)
   have HR:=hid (show b8=true→b7=true→L.length≤60∧∀x∈L,x.length≤3000 from fun e1 e2=>by
    rw[e1]at h8';rw[e2]at h7';have k1:=of_decide_eq_true h8';have k2:=of_decide_eq_true h7';have k3:i=n:=by omega
    have:=HD.out k2;rw[k3,←HN.out,List.take_length]at this;exact⟨by rw[HN.out];exact k1,fun x hx=>Nat.le_trans (this x hx) k2⟩)
   have hnb:b6=false∨b7=false:=by
    by_cases e:i<n
    ·exact .inr (by rw[←h7'];exact decide_eq_false (fun k=>hlt ⟨e,k⟩))
    ·exact .inl (by rw[←h6'];exact decide_eq_false e)
   clear hlt;cases b6 with
   |true=>
    have e7:b7=false:=hnb.resolve_left (by decide);subst e7;cases b8 with
    |true=>
     clear hnb;go_wp2_with fail;go_ret;exact⟨_,rfl,rfl,fun h=>by cases h⟩
    |false=>
     clear hnb;go_wp2_with fail;go_ret;exact⟨_,rfl,rfl,fun h=>by cases h⟩
   |false=>
    clear hnb;cases b8 with
    |true=>
     go_wp2_with fail;go_ret;exact⟨b7,rfl,rfl,fun h=>HR.out trivial h⟩
    |false=>
     go_wp2_with fail;go_ret;exact⟨_,rfl,rfl,fun h=>by cases h⟩
def zrt(l:List A24)(w:World)(e:Ending)(w':World):Prop:= ∃b,e= .returned (.bool b)∧Fr [] w w'∧(b=true→l.length≤60∧ ∀d∈l,d.l.length≤130∧za2 d.l≤1131∧ ∀x∈d.rl,x.length≤3000)
theorem zsy{dl:List (List Nat)}{k:Nat}{s:List Nat}(h:dl[k]?=some s):s.length≤za2 dl:=by
 have h1:=zdl dl k s 1 h
 have h2:(dl.take (k+1)).foldl (fun n s=>n+(s.length+1)) 1≤za2 dl:=by
  unfold za2;conv=>rhs;rw[←List.take_append_drop (k+1) dl,List.foldl_append]
  exact zco _ _
 omega
theorem z2d(w:World)(z:Int)(ad:Option Addr)(cap:Nat)(l:List A24)(h:zk3 w ad cap l):Calls prog 7 #[.int .i64 z,.slice ad l.length cap] w (zrt l w):=by
 have HA:=hid h;have hle:=h.len;obtain⟨n,hn⟩:∃n,l.length=n:=⟨_,rfl⟩;rw[hn];rw[hn]at hle;have HN:=hid hn;clear hn h;go_enter func7,ntmps7;go_wp2_with fail;go_loopg [5,6] (n+1) (fun gk v5 v6 W=>∃(t:Int) (i:Nat),v5= .int .i64 t∧v6= .int .i64 i∧(i+gk=n+1∧i≤n∧i≤100)∧(8000-400000*(i:Int)≤t∧t≤8000)∧Hid (∀d∈l.take i,d.l.length≤130∧za2 d.l≤1131∧∀x∈d.rl,x.length≤3000)∧Hid (Fr [] w W));case atStart=>exact⟨8000,0,rfl,rfl,by omega,by omega,hid (fun d hd=>by simp at hd),hid (Fr.refl [] w)⟩
 case round=>
  obtain⟨t,i,rfl,rfl,hi,ht,HD,F3⟩:=hrel;obtain⟨G,hG⟩:∃G,G=gk:=⟨_,rfl⟩;subst hG;by_cases hlt:i<n∧i<100
  ·have b6':decide (i<n)=true:=by simp;omega
   have b7:decide ((i:Int)<100)=true:=by simp;omega
   have b7':decide (i<100)=true:=by simp;omega
   have hL:i<l.length:=by rw[HN.out];exact hlt.1
   obtain⟨B,off,rfl,hBl,hr⟩:=HA.out.row (by omega);have hrj:=hr i hL;have hok:=HA.out.each _ (List.getElem_mem hL);have hgd:l[i]?=some l[i] :=List.getElem?_eq_getElem hL;generalize l[i]'hL=d at*;obtain⟨dk,dn,da,dc,dl,dt,de,dra,drc,drl⟩:=d;have hc2:=hrj 2 (by decide);have hc5:=hrj 5 (by decide);have hs:=hok.s;have hrw:=hok.r;simp only[A24.cells,List.getElem?_cons_succ,List.getElem?_cons_zero]at hc2 hc5 hs hrw;have HC2:=hid (fun W (hW:Fr [] w W)=>And.intro ((hW.cell (p:=⟨B,off+i*6+2,none⟩) hBl (by simp)).trans hc2) ((hW.cell (p:=⟨B,off+i*6+5,none⟩) hBl (by simp)).trans hc5));have HF4:=hid (fun W (hW:Fr [] w W)=>(show Calls prog 25 #[.slice da dl.length dc,.int .i64 130,.int .i64 1000] W (Few4 dl 130 1000 W)from few4 W da dc dl (hs.fr hW) 130 1000 (by decide) (by decide)));have HF6:=hid (fun W (hW:Fr [] w W)=>few6 W dra drc drl (hrw.fr0 hW));have HSA:=hid hs;have HRW:=hid hrw;have HLw:=hid (fun k s (hs:dl[k]?=some s)=>zsy hs)
   have HD':=hid (fun(hd:dl.length≤130∧za2 dl≤1131∧∀x∈drl,x.length≤3000)=>(show∀d∈l.take (i+1),d.l.length≤130∧za2 d.l≤1131∧∀x∈d.rl,x.length≤3000 from fun d hm=>by
    rw[List.take_add_one,hgd,Option.toList_some]at hm;rcases List.mem_append.1 hm with h|h
    ·exact HD.out d h
    ·rw[List.mem_singleton]at h;subst h;exact hd))
   obtain⟨c2,c5⟩:=HC2.out _ F3.out;have hle2:=hs.len;have hle3:=hrw.len;generalize hdn:dl.length=m at*;have HDN:=hid hdn;generalize hdr:drl.length=mr at*;have HDR:=hid hdr;have i0:(0:Int)≤i:=by omega
   have i1:(i:Int)<n:=by omega
   have wi:=i64_in ((i:Int)+1) (by omega);clear hr hrj hok hgd hc2 hc5 hs hrw hdn hdr hL;go_wp2_with fail;with_reducible refine(HF4.out _ F3.out).mono ?_
   rintro e w4 ⟨b4,rfl,f4,hb4⟩;have F4:=hid (F3.out.trans f4);obtain⟨c2,c5⟩:=HC2.out _ F4.out;cases b4 with
   |false=>
    clear hb4 f4;go_wp2_with fail;go_ret;exact⟨false,rfl,F4.out,fun h=>by cases h⟩
   |true=>
    obtain⟨hb1,hb2⟩:=hb4 rfl;rw[HDN.out]at hb1 hb2;have hwm:za2 dl≤1131:=by omega
    have HW1:=hid (And.intro hb1 hwm);clear hb4 f4 HF4 F3;go_wp2_with fail;with_reducible refine(HF6.out _ F4.out).mono ?_
    rintro e w5 ⟨b5,rfl,hw5,hb5⟩;have hw5:=hw5.symm;subst hw5;cases b5 with
    |false=>
     clear hb5;go_wp2_with fail;go_ret;exact⟨false,rfl,F4.out,fun h=>by cases h⟩
    |true=>
     have hb5:=hb5 rfl;rw[HDR.out]at hb5;obtain⟨hr60,hr3⟩:=hb5;have HD2:=hid (HD'.out ⟨hb1,hwm,hr3⟩);have HR3:=hid hr3;clear hr3 HD' HF6;go_wp2_with fail;go_loopg [5,7] (mr+1) (fun gk v5 v7 W=>∃(t2:Int) (k:Nat),v5= .int .i64 t2∧v7= .int .i64 k∧(k+gk=mr+1∧k≤mr)∧(t-3001*k≤t2∧t2≤t)∧Hid (Fr [] w W));case atStart=>exact⟨t,0,rfl,rfl,by omega,by omega,F4⟩
     case round=>
      clear F4 c2 c5;obtain⟨t2,k,rfl,rfl,hk,ht2,F5⟩:=hrel;obtain⟨c2,c5⟩:=HC2.out _ F5.out;by_cases hkm:k<mr
      ·have hL:k<drl.length:=by rw[HDR.out];exact hkm
       obtain⟨g,o,a,c,rfl,hc,hbw,hg,_⟩:=(HRW.out.fr0 F5.out).at_ k hL;have hgd:drl[k]?=some drl[k] :=List.getElem?_eq_getElem hL;rw[hgd]at hc;simp only[Option.getD_some]at hc;have hx3:=HR3.out _ (List.getElem_mem hL);generalize drl[k]'hL=x at*;obtain⟨xn,hxn⟩:∃xn,x.length=xn:=⟨_,rfl⟩;rw[hxn]at hc hx3;have b8':decide (k<mr)=true:=by simp;omega
       have k0:(0:Int)≤k:=by omega
       have k1':(k:Int)<mr:=by omega
       have wk:=i64_in ((k:Int)+1) (by omega);have w1:=i64_in (t2-1) (by omega);have w2:=i64_in (t2-1-(xn:Int)) (by omega);clear hgd hL hbw hxn;go_wp2_with fail;go_roundg (gk-1);case measure=>omega
       case rel=>exact⟨_,k+1,rfl,by go_num,by omega,by push_cast;omega,F5⟩
      ·obtain rfl:k=mr:=by omega
       have b8':decide (k<k)=false:=by simp
       go_wp2_with fail;go_loopg [5,8] (m+1) (fun gk v5 v8 W=>∃(t3:Int) (j:Nat),v5= .int .i64 t3∧v8= .int .i64 j∧(j+gk=m+1∧j≤m)∧(t2-1132*j≤t3∧t3≤t2)∧Hid (Fr [] w W));case atStart=>exact⟨t2,0,rfl,rfl,by omega,by omega,F5⟩
       case round=>
        clear F5 c2 c5 b8';obtain⟨t3,j,rfl,rfl,hj,ht3,F6⟩:=hrel;obtain⟨c2,c5⟩:=HC2.out _ F6.out;by_cases hjm:j<m
        ·have hL:j<dl.length:=by rw[HDN.out];exact hjm
         obtain⟨g,o,rfl,hc,hg⟩:=HSA.out.at_ j hL;have k1:=(F6.out.cell (p:=⟨g,o+j,none⟩) hg (by simp)).trans hc;have hgd:dl[j]?=some dl[j] :=List.getElem?_eq_getElem hL;rw[hgd]at k1;simp only[Option.getD_some]at k1;have hx:=HLw.out j _ hgd;generalize dl[j]'hL=s at*;have hsz:=zat s;obtain⟨sn,hsn⟩:∃sn,s.length=sn:=⟨_,rfl⟩;rw[hsn]at hx hsz;have hsn2:sn≤1131:=by have:=HW1.out.2;omega
         have b8':decide (j<m)=true:=by simp;omega
         have k0:(0:Int)≤j:=by omega
         have k1':(j:Int)<m:=by omega
         have wk:=i64_in ((j:Int)+1) (by omega);have w1:=i64_in (t3-1) (by omega);have w2:=i64_in (t3-1-(sn:Int)) (by omega);generalize zaf s=S at*;clear hc hgd hL hx hsn;go_wp2_with fail;go_roundg (gk-1);case measure=>omega
         case rel=>exact⟨_,j+1,rfl,by go_num,by omega,by push_cast;omega,F6⟩
        ·obtain rfl:j=m:=by omega
         have b8':decide (j<j)=false:=by simp
         have hm130:=HW1.out.1;go_wp2_with fail;go_roundg (G-1);case measure=>omega
         case rel=>exact⟨_,i+1,rfl,by go_num,by omega,by push_cast;omega,HD2,F6⟩
  ·obtain⟨b6,h6⟩:∃b6,decide ((i:Int)<n)=b6:=⟨_,rfl⟩
   have h6':decide (i<n)=b6:=by rw[←h6];exact decide_eq_decide.2 (by omega)
   obtain⟨b7,h7⟩:∃b7,decide ((i:Int)<100)=b7:=⟨_,rfl⟩;have h7':decide (i<100)=b7:=by rw[←h7];exact decide_eq_decide.2 (by omega)
   obtain⟨b8,h8⟩:∃b8,decide ((n:Int)≤60)=b8:=⟨_,rfl⟩;have h8':decide (n≤60)=b8:=by rw[←h8];exact decide_eq_decide.2 (by omega)
   obtain⟨b9,h9⟩:∃b9,decide ((0:Int)≤t)=b9:=⟨_,rfl⟩
   have HR:=hid (show b8=true→zrt l w (.returned (.bool b9)) wr from fun h=>⟨b9,rfl,F3.out,fun _=>by
    rw[h]at h8';have h60:=of_decide_eq_true h8';have:i=n:=by omega
    subst this;have hd:=HD.out;rw[←HN.out,List.take_length]at hd;exact⟨by rw[HN.out];exact h60,hd⟩⟩)
   have HFa:=hid (show zrt l w (.returned (.bool false)) wr from⟨false,rfl,F3.out,fun h=>by cases h⟩)
   have hbb:(b6&&b7)=false:=by
    rw[←h6',←h7'];simp;omega
   cases b6<;>cases b7<;>cases b8<;>first|(exact absurd hbb (by decide))|(go_wp2_with fail;go_ret;first|exact HFa.out|exact HR.out trivial|exact HR.out rfl)
end Go.Proofs.YtolhkhdbgnciiaaGreatDoor
