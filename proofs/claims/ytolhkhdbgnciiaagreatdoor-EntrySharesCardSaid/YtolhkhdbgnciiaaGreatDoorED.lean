/- Several texts in one. -/
import Derived.Test.YtolhkhdbgnciiaaGreatDoorMJ
namespace Go.Proofs.YtolhkhdbgnciiaaGreatDoor
open _root_.Go.Proofs.Tryz
open Go.Lib (hid)
open Go.IntWalk (i64_in)
set_option linter.unusedVariables false
set_option linter.unusedSimpArgs false
open Go.RowKit
set_option maxRecDepth 1000000
set_option maxHeartbeats 4000000
structure ND4 where
 y:Nat
 p:Nat
 r:Nat
 s:List Nat
def ND4.cells(b:ND4):Array Value:= #[.int .i64 b.y,.int .i64 b.p,.string (zag b.s),.int .i64 b.r]
theorem zu9:(prog.info? 122).map (fun i=>(i.zero,i.size,i.bytes))=some (some (.agg #[.int .i64 0,.int .i64 0,.string ⟨#[]⟩,.int .i64 0]),4,40):=by kernel_rfl
theorem zrx:∃i,prog.info? 122=some i∧i.zero=some (.agg #[.int .i64 0,.int .i64 0,.string ⟨#[]⟩,.int .i64 0])∧i.size=4∧i.bytes=40:=by
 have h:=zu9;cases e:prog.info? 122 with
 |none=>rw[e]at h;cases h
 |some i=>
  rw[e]at h;simp at h;exact⟨i,rfl,h.1,h.2.1,h.2.2⟩
def ND4.cl(b:ND4):List Value:= [.int .i64 b.y,.int .i64 b.p,.string (zag b.s),.int .i64 b.r]
theorem ND4.cl_len(b:ND4):b.cl.length=4:=rfl
def ndL:List ND4→List Value
 | [] => []
 |b::l=>b.cl++ndL l
theorem zgs:∀l:List ND4,(ndL l).length=l.length*4
 | [] =>rfl
 |b::l=>by rw[ndL,List.length_append,zgs l,ND4.cl_len,List.length_cons];omega
theorem zmt:∀l m:List ND4,ndL (l++m)=ndL l++ndL m
 | [],m=>rfl
 |b::l,m=>by rw[List.cons_append,ndL,ndL,zmt l m,List.append_assoc]
theorem zjk:∀(l:List ND4) (i:Nat) (hi:i<l.length) (j:Nat),j<4→(ndL l)[i*4+j]?=l[i].cl[j]?
 |b::l,0,hi,j,hj=>by
  rw[ndL,Nat.zero_mul,Nat.zero_add,List.getElem?_append_left (by rw[ND4.cl_len];exact hj)];rfl
 |b::l,i+1,hi,j,hj=>by
  rw[ndL,List.getElem?_append_right (by rw[ND4.cl_len];omega),ND4.cl_len,show(i+1)*4+j-4=i*4+j by omega,zjk l i (by simpa using hi) j hj];rfl
theorem zoq:∀(l:List ND4),∀u∈ndL l,u.oneCell'=true
 | [],u,hu=>by cases hu
 |b::l,u,hu=>by
  rw[ndL]at hu;rcases List.mem_append.1 hu with hu|hu
  ·simp only[ND4.cl,List.mem_cons,List.not_mem_nil,or_false]at hu
   rcases hu with rfl|rfl|rfl|rfl<;>rfl
  ·exact zoq l u hu
def Rkn(W:World)(base:Nat)(v:Value)(L:List ND4):Prop:=W.ownsRow base 122 4 v L.length (ndL L)
theorem Rkn.lt{W:World}{base:Nat}{v:Value}{L:List ND4}(h:Rkn W base v L)(g:Nat)(e:v.ownBlock=some g):base≤g∧g<W.heap.size:=by
 obtain⟨h1,⟨rfl,h2⟩|⟨g',cap,cur,rfl,hb,hg,_⟩⟩:=h
 ·cases e
 ·injection e with e
  have e:g'=g:=e;subst e;exact⟨hb,(Array.getElem?_eq_some_iff.1 hg).1⟩
theorem Rkn.fr{W W':World}{base:Nat}{v:Value}{L:List ND4}{S:List Nat}(h:Rkn W base v L)(hf:Fr S W W')(hS:∀k∈S,v.ownBlock≠some k):Rkn W' base v L:=by
 obtain⟨h1,⟨h2,h3⟩|⟨g,cap,cur,rfl,hb,hg,r1,r2,r3,r4⟩⟩:=h
 ·exact⟨h1,.inl ⟨h2,h3⟩⟩
 ·exact⟨h1,.inr ⟨g,cap,cur,rfl,hb,(hf.block g (Array.getElem?_eq_some_iff.1 hg).1 (fun hm=>hS g hm rfl)).trans hg,r1,r2,r3,r4⟩⟩
theorem Rkn.fr0{W W':World}{base:Nat}{v:Value}{L:List ND4}(h:Rkn W base v L)(hf:Fr [] W W'):Rkn W' base v L:=h.fr hf (by simp)
theorem Rkn.lo{W:World}{base base':Nat}{v:Value}{L:List ND4}(h:Rkn W base' v L)(hb:base≤base'):Rkn W base v L:=by
 obtain⟨h1,⟨h2,h3⟩|⟨g,cap,cur,rfl,hb',hg,r⟩⟩:=h
 ·exact⟨h1,.inl ⟨h2,h3⟩⟩
 ·exact⟨h1,.inr ⟨g,cap,cur,rfl,Nat.le_trans hb hb',hg,r⟩⟩
theorem Rkn.nil(W:World)(base:Nat):Rkn W base (.slice none 0 0) [] :=⟨rfl,.inl ⟨rfl,rfl⟩⟩
def RowKn(w:World)(g cap:Nat)(l:List ND4):Prop:= ∃cur,Blk w g 122 cur∧cur.size=cap*4∧l.length≤cap∧cur.toList.take (l.length*4)=ndL l
theorem RowKn.fr{w w':World}{g cap:Nat}{l:List ND4}{S:List Nat}(h:RowKn w g cap l)(hf:Fr S w w')(hg:g∉S):RowKn w' g cap l:=by
 obtain⟨cur,hb,h1,h2,h3⟩:=h;exact⟨cur,hb.fr hf hg,h1,h2,h3⟩
theorem RowKn.lt{w:World}{g cap:Nat}{l:List ND4}(h:RowKn w g cap l):g<w.heap.size:=by
 obtain⟨cur,hb,_⟩:=h;exact hb.lt
theorem RowKn.le{w:World}{g cap:Nat}{l:List ND4}(h:RowKn w g cap l):l.length≤cap:=by
 obtain⟨cur,hb,h1,h2,_⟩:=h;exact h2
theorem RowKn.cell{w:World}{g cap:Nat}{l:List ND4}(h:RowKn w g cap l)(i:Nat)(hi:i<l.length)(j:Nat)(hj:j<4):w.cell? ⟨g,i*4+j,none⟩=l[i].cl[j]?:=by
 obtain⟨cur,hb,h1,h2,h3⟩:=h;rw[hb.cell,←zjk l i hi j hj,←h3,List.getElem?_take_of_lt (by omega),Array.getElem?_toList]
theorem Rkn.row{W:World}{base:Nat}{v:Value}{L:List ND4}(h:Rkn W base v L):∃ad cap,v= .slice ad L.length cap∧(0<L.length→∃g,ad=some ⟨g,0,none⟩∧base≤g∧RowKn W g cap L):=by
 obtain⟨h1,⟨h2,h3⟩|⟨g,cap,cur,rfl,hb,hg,r1,r2,r3,r4⟩⟩:=h
 ·exact⟨none,0,by rw[h2,h3],fun h=>by omega⟩
 ·exact⟨_,cap,rfl,fun _=>⟨g,rfl,hb,⟨cur,hg,r3,r1,r4⟩⟩⟩
theorem zmf(g o j:Nat):(⟨g,o,none⟩:Addr).add j=⟨g,o+j,none⟩:=by unfold Addr.add;split<;>simp_all
theorem zdu(w:World)(base:Nat)(v:Value)(l:List ND4)(h:Rkn w base v l)(A:Option Addr)(c:Nat)(m:List ND4)(hm:0<m.length→∃g o,A=some ⟨g,o,none⟩∧∀j (hj:j<m.length) i,i<4→w.cell? ⟨g,o+(j*4+i),none⟩=m[j].cl[i]?)(hl:l.length+m.length≤1048576)(hbase:base≤w.heap.size):∃v' w',(Builtin.append_ #[69,69] 69 #[v,.slice A m.length c]).run prog w= .ok v' w'∧Rkn w' base v' (l++m)∧w.grownBy w' v.ownBlock∧(v'.ownBlock=v.ownBlock∨v'.ownBlock=some w.heap.size):=by
 obtain⟨i,hi,hz,hs,hb⟩:=zrx;rcases A with _|ad
 ·have hm0:m= [] :=by
   rcases m with _|⟨x,m⟩
   ·rfl
   ·obtain⟨g,o,e,_⟩:=hm (by simp)
    cases e
  subst hm0;refine⟨v,w,?_,by simpa using h,World.grownBy.refl w _,.inl rfl⟩;obtain⟨h1,⟨rfl,h2⟩|⟨g,cap,cur,rfl,hg,hh,hc,_⟩⟩:=h
  ·have:l= [] :=List.eq_nil_of_length_eq_zero h2
   subst this;simp[Builtin.append_,run_underlying underlying69,sizeOf,typeInfo,hi,Builtin.lenOf,Builtin.firstCells]
  ·simp[Builtin.append_,run_underlying underlying69,sizeOf,typeInfo,hi,Builtin.lenOf,Builtin.firstCells,hc,storeCells]
 ·have hcells:∀j u,(ndL m)[j]?=some u→w.cell? (ad.add j)=some u:=by
   intro j u hu;have hj:=(List.getElem?_eq_some_iff.1 hu).1;rw[zgs]at hj;obtain⟨g,o,e,hc⟩:=hm (by omega);injection e with e;subst e;have hj2:j/4<m.length:=by omega
   rw[zmf,show o+j=o+(j/4*4+j %4)by omega,hc (j/4) hj2 (j %4) (by omega),←zjk m (j/4) hj2 (j %4) (by omega),show j/4*4+j %4=j by omega,hu]
  obtain⟨v',w',hrun,h2,h3,_,h5⟩:=run_append_own_at (P:=prog) w base 69 69 122 i (.agg #[.int .i64 0,.int .i64 0,.string ⟨#[]⟩,.int .i64 0]) 4 40 underlying69 hi hz hs hb rfl (by decide) v l.length (ndL l) h ad m.length c (ndL m) (zgs m) hcells (zoq m) (by unfold maxLen;omega) (by omega) hbase;refine⟨v',w',hrun,?_,h3,h5⟩;unfold Rkn;rw[List.length_append,zmt];exact h2
theorem zth(w:World):Rkn (w.alloc (.cells #[] 122)) w.heap.size (.slice (some ⟨w.heap.size,0,none⟩) 0 0) [] :=
 ⟨rfl,.inr ⟨_,0,#[],rfl,Nat.le_refl _,Blk.new _ _ _,Nat.le_refl _,by unfold maxLen;omega,rfl,rfl⟩⟩
theorem Rkn.grow{w W W':World}{base:Nat}{v:Value}{l:List ND4}(h:Rkn W base v l)(hg:W.grownBy W' v.ownBlock)(hf:Fr [] w W)(hb:w.heap.size≤base):Fr [] w W':=
 ⟨hg.os.trans hf.os,hg.tape.trans hf.tape,hg.output.trans hf.output,Nat.le_trans hf.size hg.size,fun k hk hn=>(hg.block k (Nat.lt_of_lt_of_le hk hf.size) (fun e=>by
  have:=(h.lt k e.symm).1;omega)).trans (hf.block k hk hn)⟩
def cutN(L:List ND4)(k:Nat):List ND4:=L.take k++L.drop (k+1)
theorem zsl{w:World}{L:List ND4}{g cap k:Nat}(hr:RowKn w g cap L)(hk:k<L.length)(hl:L.length≤1048576):∃v1 w1 v2 w2,(Builtin.append_ #[69,69] 69 #[.slice (some ⟨w.heap.size,0,none⟩) 0 0,.slice (some ⟨g,0,none⟩) k cap]).run prog (w.alloc (.cells #[] 122)).drew= .ok v1 w1
   ∧(Builtin.append_ #[69,69] 69 #[v1,.slice (if cap-(k+1)=0 then some ⟨g,0,none⟩else some ⟨g,(k+1)*4,none⟩) (L.length-(k+1)) (cap-(k+1))]).run prog w1= .ok v2 w2
   ∧Rkn w2 w.heap.size v2 (cutN L k)∧Fr [] w w2:=by
 have hO0:Rkn (w.alloc (.cells #[] 122)).drew w.heap.size (.slice (some ⟨w.heap.size,0,none⟩) 0 0) [] :=zth w
 have f0:Fr [] w (w.alloc (.cells #[] 122)).drew:=((Fr.refl [] w).alloc _).drew
 have hl1:(L.take k).length=k:=by rw[List.length_take];omega
 have hl2:(L.drop (k+1)).length=L.length-(k+1):=List.length_drop
 have hcap:=hr.le
 obtain⟨v1,w1,e1,hO1,g1,_⟩:=zdu _ _ _ [] hO0 (some ⟨g,0,none⟩) cap (L.take k) (fun _=>⟨g,0,rfl,fun j hj i hi=>by
  rw[hl1]at hj
  have:=(hr.fr f0 (by simp)).cell j (by omega) i hi
  rw[Nat.zero_add,this,List.getElem_take]⟩) (by rw[hl1];simp;omega) f0.size
 rw[hl1]at e1
 rw[List.nil_append]at hO1
 have f1:Fr [] w w1:=hO0.grow g1 f0 (Nat.le_refl _)
 obtain⟨v2,w2,e2,hO2,g2,_⟩:=zdu w1 w.heap.size v1 (L.take k) hO1 (if cap-(k+1)=0 then some ⟨g,0,none⟩else some ⟨g,(k+1)*4,none⟩) (cap-(k+1)) (L.drop (k+1)) (fun h0=>by
  rw[hl2]at h0
  refine⟨g,(k+1)*4,by rw[if_neg (by omega)],fun j hj i hi=> ?_⟩
  rw[hl2]at hj
  have:=(hr.fr f1 (by simp)).cell (k+1+j) (by omega) i hi
  rw[show(k+1)*4+(j*4+i)=(k+1+j)*4+i by omega,this,List.getElem_drop]) (by rw[hl1,hl2];omega) f1.size
 rw[hl2]at e2
 exact⟨v1,w1,v2,w2,e1,e2,hO2,hO1.grow g2 f1 (Nat.le_refl _)⟩
structure IsN(w:World)(p:Nat)(v:Value)(L:List ND4):Prop where
 st:Blk w p 71 #[v]
 r:Rkn w (p+1) v L
section
variable {w w' W : World} {p : Nat} {v : Value} {L : List ND4} {x : Nat}
theorem IsN.fr{S:List Nat}(h:IsN w p v L)(hf:Fr S w w')(hp:p∉S)(hS:∀k∈S,v.ownBlock≠some k):IsN w' p v L:=⟨h.st.fr hf hp,h.r.fr hf hS⟩
theorem IsN.fr0(h:IsN w p v L)(hf:Fr [] w w'):IsN w' p v L:=h.fr hf (by simp) (by simp)
theorem IsN.row(h:IsN w p v L):∃ad cap,v= .slice ad L.length cap∧(0<L.length→∃g,ad=some ⟨g,0,none⟩∧p+1≤g∧RowKn w g cap L):=h.r.row
theorem RowKn.four{g cap:Nat}(h:RowKn w g cap L){i:Nat}{d:ND4}(hi:L[i]?=some d):w.cell? ⟨g,i*4,none⟩=some (.int .i64 d.y)∧w.cell? ⟨g,i*4+1,none⟩=some (.int .i64 d.p)∧w.cell? ⟨g,i*4+2,none⟩=some (.string (zag d.s))∧w.cell? ⟨g,i*4+3,none⟩=some (.int .i64 d.r):=by
 obtain⟨hlt,e⟩:=List.getElem?_eq_some_iff.1 hi;have h0:=h.cell i hlt 0 (by decide);have h1:=h.cell i hlt 1 (by decide);have h2:=h.cell i hlt 2 (by decide);have h3:=h.cell i hlt 3 (by decide);rw[e]at h0 h1 h2 h3;exact⟨h0,h1,h2,h3⟩
def AtN(L:List ND4)(x:Nat)(e:Ending):Prop:=(∃(i:Nat) (d:ND4),e= .returned (.int .i64 (i:Nat))∧L[i]?=some d∧d.y=x)∨(e= .returned (.int .i64 (-1))∧ ∀d∈L,d.y≠x)
theorem xnat(h:IsN w p v L)(hl:L.length≤100000)(x:Nat):Calls prog 105 #[.pointer (some ⟨p,0,none⟩),.int .i64 x] w fun e w'=>AtN L x e∧w'=w:=by
 obtain⟨ad,cap,rfl,hrow⟩:=h.row;have hst:=h.st.cell 0;simp at hst;have HR:=hid hrow;obtain⟨n,hn⟩:∃n,L.length=n:=⟨_,rfl⟩;have HN:=hid hn;rw[hn]at hst hl;clear h hrow hn;go_enter func105,ntmps105;go_wp2_with fail;go_loopg [5] (n+1) (fun gk v5 W=>∃i:Nat,v5= .int .i64 i∧(i+gk=n+1∧i≤n)∧Hid (∀d∈L.take i,d.y≠x)∧w=W);case atStart=>exact⟨0,rfl,by omega,hid (fun d hd=>by simp at hd),rfl⟩
 case round=>
  obtain⟨i,rfl,hi,HD,rfl⟩:=hrel;by_cases hlt:i<n
  ·have b6':decide (i<n)=true:=by simp;omega
   obtain⟨d,hd⟩:∃d,L[i]?=some d:=⟨_,List.getElem?_eq_getElem (by rw[HN.out];exact hlt)⟩;obtain⟨g,rfl,hg,hr⟩:=HR.out (by rw[HN.out];omega);have c0:=(hr.four hd).1;have HDd:=hid hd;have i0:(0:Int)≤i:=by omega
   have i1:(i:Int)<n:=by omega
   have wi:=i64_in ((i:Int)+1) (by omega);clear hr hd;by_cases hx:d.y=x
   ·have HX:=hid hx
    have b1:((d.y:Int)==(x:Int))=true:=by simp;omega
    have b1':(d.y==x)=true:=by simp;omega
    clear hx;go_wp2_with fail;go_ret;exact⟨.inl ⟨i,d,rfl,HDd.out,HX.out⟩,rfl⟩
   ·have HD':=hid (show∀d∈L.take (i+1),d.y≠x from fun d' hd'=>by
     rw[List.take_add_one,HDd.out,Option.toList_some]at hd';rcases List.mem_append.1 hd' with h|h
     ·exact HD.out d' h
     ·rw[List.mem_singleton]at h;rw[h];exact hx)
    have b1:((d.y:Int)==(x:Int))=false:=by simp;omega
    have b1':(d.y==x)=false:=by simp;omega
    clear hx;go_wp2_with fail;go_roundg (gk-1);case measure=>omega
    case rel=>exact⟨i+1,by go_num,by omega,HD',rfl⟩
  ·obtain rfl:i=n:=by omega
   have b6':decide (i<i)=false:=by simp
   have HNo:=hid (show∀d∈L,d.y≠x from by have:=HD.out;rwa[←HN.out,List.take_length]at this);go_wp2_with fail;go_ret;exact⟨.inr ⟨rfl,HNo.out⟩,rfl⟩
def FndN(L:List ND4)(a:Nat)(s:List Nat)(e:Ending):Prop:=(∃(i:Nat) (d:ND4),e= .returned (.tuple #[.int .i64 (d.y:Nat),.bool true])∧L[i]?=some d∧d.p=a∧d.s=s)∨(e= .returned (.tuple #[.int .i64 0,.bool false])∧ ∀d∈L,d.p=a→d.s≠s)
theorem ztd(h:IsN w p v L)(hl:L.length≤100000)(hL:∀d∈L,∀c∈d.s,c<256)(a:Nat)(s:List Nat)(hs:∀c∈s,c<256)(hs2:s.length≤1048576):Calls prog 258 #[.pointer (some ⟨p,0,none⟩),.int .i64 a,.string (zag s)] w fun e w'=>FndN L a (s.map lowB) e∧Fr [] w w':=by
 have HI:=hid h;have HLc:=hid hL;have HLow:=hid (fun V=>zp5 V s hs hs2);have hsl:=zkf hs;have HEq:=hid (fun d (hd:d∈L)=>zkp d.s (s.map lowB) (hL d hd) hsl);generalize zag s=S0 at*;generalize hS1:s.map lowB=s1 at*;obtain⟨n,hn⟩:∃n,L.length=n:=⟨_,rfl⟩;have HN:=hid hn;obtain⟨ad,cap,rfl,-⟩:=h.row;rw[hn]at HI hl;clear h hL hn hs hs2 hsl hS1;go_enter func258,ntmps258;go_wp2_with fail;go_loopg [8] (n+1) (fun gk v8 W=>∃i:Nat,v8= .int .i64 i∧(i+gk=n+1∧i≤n)∧Hid (∀d∈L.take i,d.p=a→d.s≠s1)∧Hid (Fr [] w W));case atStart=>exact⟨0,rfl,by omega,hid (fun d hd=>by simp at hd),hid (Fr.refl [] w)⟩
 case round=>
  obtain⟨i,rfl,hi,HD,F3⟩:=hrel;have I3:=HI.out.fr0 F3.out;have hst:=I3.st.cell 0;simp at hst;by_cases hlt:i<n
  ·have b6':decide (i<n)=true:=by simp;omega
   obtain⟨d,hd⟩:∃d,L[i]?=some d:=⟨_,List.getElem?_eq_getElem (by rw[HN.out];exact hlt)⟩;have hdm:=List.mem_of_getElem? hd;have F3d:=hid F3.out.drew;have Id:=HI.out.fr0 F3d.out;obtain⟨ad',cap',ev,hrow⟩:=Id.row;rw[HN.out]at ev;injection ev with e1 _ e3;subst e1 e3;obtain⟨g,rfl,hg,hr⟩:=hrow (by rw[HN.out];omega);have hstd:=Id.st.cell 0;simp at hstd;obtain⟨c0,c1,c2,-⟩:=hr.four hd;have hgV:=hr.lt;have hpV:=Id.st.lt;have HDd:=hid hd;have i0:(0:Int)≤i:=by omega
   have i1:(i:Int)<n:=by omega
   have wi:=i64_in ((i:Int)+1) (by omega);have hY:=And.intro hstd (And.intro c0 (And.intro c1 c2));have heq0:=HEq.out d hdm;clear hrow hd Id I3;by_cases hx:d.p=a
   ·have b1:((d.p:Int)==(a:Int))=true:=by simp;omega
    have b1':(d.p==a)=true:=by simp;omega
    obtain⟨be,hbe⟩:∃be,(d.s==s1)=be:=⟨_,rfl⟩;rw[hbe]at heq0;have HX:=hid (And.intro hx hbe);generalize zag d.s=S2 at*;generalize zag s1=S3 at*;clear hx hbe c0 c1 c2 hstd hr hst;go_wp2_with fail;refine wp_region_held_drew (S:=fun W=>W.cell? ⟨p,0,none⟩=some (.slice (some ⟨g,0,none⟩) n cap)∧W.cell? ⟨g,i*4,none⟩=some (.int .i64 d.y)∧W.cell? ⟨g,i*4+1,none⟩=some (.int .i64 d.p)∧W.cell? ⟨g,i*4+2,none⟩=some (.string S2)) (by kernel_rfl) (hY) (fun yH=> ?_);refine tkY 0 yH ?_;refine tkY 1 yH ?_;refine tkY 2 yH ?_;refine tkY 3 yH ?_;refine tkY 4 yH ?_;refine tkY 5 yH ?_;refine tkY 6 yH ?_;refine tkY 7 yH ?_;refine tkY 8 yH ?_;refine tkY 9 yH ?_;refine tkY 10 yH ?_;refine tkY 11 yH ?_;refine tkY 12 yH ?_;refine tkY 13 yH ?_;refine tkY 14 yH ?_;refine tkY 15 yH ?_;refine tkY 16 yH ?_;refine tkY 17 yH ?_;refine tkY 18 yH ?_;refine tkY 19 yH ?_;refine tkC 20 fun K hK=> ?_;go_simp;with_reducible refine(HLow.out _).mono ?_
    rintro e w5 ⟨rfl,f5⟩;have F5:=hid (F3d.out.trans f5);have hY:=And.intro ((f5.cell (p:=⟨p,0,none⟩) hpV (by simp)).trans hY.1) (And.intro ((f5.cell (p:=⟨g,i*4,none⟩) hgV (by simp)).trans hY.2.1) (And.intro ((f5.cell (p:=⟨g,i*4+1,none⟩) hgV (by simp)).trans hY.2.2.1) ((f5.cell (p:=⟨g,i*4+2,none⟩) hgV (by simp)).trans hY.2.2.2)));clear f5;go_wp2_with fail;refine hK.out _ _ _ hY fun yH=> ?_;clear hK K;refine tkY 21 yH ?_;refine tkY 22 yH ?_;refine wpAnyH_done (by kernel_rfl) ?_ _;try simp only[Act.put,List.getElem_toArray,List.getElem_cons_zero,List.getElem_cons_succ,List.setIfInBounds_toArray,List.set_cons_zero,List.set_cons_succ]
    cases be with
    |true=>
     have HR:=hid (show FndN L a s1 (.returned (.tuple #[.int .i64 d.y,.bool true]))from .inl ⟨i,d,rfl,HDd.out,HX.out.1,by simpa using HX.out.2⟩);have hstd:=hY.1;have c0:=hY.2.1;clear HX hY;go_wp2_with fail;go_ret2;exact⟨HR.out,F5.out⟩
    |false=>
     have HD':=hid (show∀d∈L.take (i+1),d.p=a→d.s≠s1 from fun d' hd'=>by
      rw[List.take_add_one,HDd.out,Option.toList_some]at hd';rcases List.mem_append.1 hd' with h|h
      ·exact HD.out d' h
      ·rw[List.mem_singleton]at h;subst h;intro _;simpa using HX.out.2)
     clear HX hY;go_wp2_with fail;go_roundg (gk-1);case measure=>omega
     case rel=>exact⟨i+1,by go_num,by omega,HD',F5⟩
   ·have HD':=hid (show∀d∈L.take (i+1),d.p=a→d.s≠s1 from fun d' hd'=>by
     rw[List.take_add_one,HDd.out,Option.toList_some]at hd';rcases List.mem_append.1 hd' with h|h
     ·exact HD.out d' h
     ·rw[List.mem_singleton]at h;subst h;exact fun e=>absurd e hx)
    have b1:((d.p:Int)==(a:Int))=false:=by simp;omega
    have b1':(d.p==a)=false:=by simp;omega
    generalize zag d.s=S2 at*;clear hx c0 c1 c2 hstd hr hst heq0;go_wp2_with fail;refine wp_region_held_drew (S:=fun W=>W.cell? ⟨p,0,none⟩=some (.slice (some ⟨g,0,none⟩) n cap)∧W.cell? ⟨g,i*4,none⟩=some (.int .i64 d.y)∧W.cell? ⟨g,i*4+1,none⟩=some (.int .i64 d.p)∧W.cell? ⟨g,i*4+2,none⟩=some (.string S2)) (by kernel_rfl) (hY) (fun yH=> ?_);refine tkY 0 yH ?_;refine tkY 1 yH ?_;refine tkY 2 yH ?_;refine tkY 3 yH ?_;refine tkY 4 yH ?_;refine tkY 5 yH ?_;refine tkY 6 yH ?_;refine tkY 7 yH ?_;refine tkY 8 yH ?_;refine tkY 9 yH ?_;refine tkY 10 yH ?_;refine tkN 11 yH ?_;refine tkN 12 yH ?_;refine tkN 13 yH ?_;refine tkN 14 yH ?_;refine tkN 15 yH ?_;refine tkN 16 yH ?_;refine tkN 17 yH ?_;refine tkN 18 yH ?_;refine tkN 19 yH ?_;refine tkN 20 yH ?_;refine tkN 21 yH ?_;refine tkY 22 yH ?_;refine wpAnyH_done (by kernel_rfl) ?_ _;try simp only[Act.put,List.getElem_toArray,List.getElem_cons_zero,List.getElem_cons_succ,List.setIfInBounds_toArray,List.set_cons_zero,List.set_cons_succ]
    go_wp2_with fail;go_roundg (gk-1);case measure=>omega
    case rel=>exact⟨i+1,by go_num,by omega,HD',F3d⟩
  ·obtain rfl:i=n:=by omega
   have b6':decide (i<i)=false:=by simp
   have HNo:=hid (show FndN L a s1 (.returned (.tuple #[.int .i64 0,.bool false]))from .inr ⟨rfl,by have:=HD.out;rwa[←HN.out,List.take_length]at this⟩);clear I3;go_wp2_with fail;go_ret2;exact⟨HNo.out,F3.out⟩
end
theorem zph:∀(l:List ND4) (i r:Nat) (hi:i<l.length),(ndL l).set (i*4+3) (.int .i64 r)=ndL (l.set i {l[i]with r:=r})
 |b::l,0,r,hi=>rfl
 |b::l,i+1,r,hi=>by
  rw[show(i+1)*4+3=i*4+3+1+1+1+1 by omega];show(.int .i64 b.y:: .int .i64 b.p:: .string (zag b.s):: .int .i64 b.r::ndL l).set (i*4+3+1+1+1+1) (.int .i64 r)=_;rw[List.set_cons_succ,List.set_cons_succ,List.set_cons_succ,List.set_cons_succ,zph l i r (by simpa using hi)];rfl
theorem Rkn.setR{W:World}{base g cap n:Nat}{L:List ND4}(h:Rkn W base (.slice (some ⟨g,0,none⟩) n cap) L)(i r:Nat)(hi:i<L.length):Rkn (W.setCell ⟨g,i*4+3,none⟩ (.int .i64 r)) base (.slice (some ⟨g,0,none⟩) n cap) (L.set i {L[i]with r:=r}):=by
 obtain⟨h1,⟨h2,h3⟩|⟨g',cap',cur,e,hb,hg,r1,r2,r3,r4⟩⟩:=h
 ·omega
 ·injection e with e1 e2 e3
  injection e1 with e1;injection e1 with e1;subst e1 e3;have hs:=Blk.set (g:=g) (t:=122) (cs:=cur) hg (i*4+3) (.int .i64 r);refine⟨by rw[zgs,List.length_set],.inr ⟨g,cap,_,by rw[e2,List.length_set],hb,hs,by rw[List.length_set];exact r1,r2,by simpa using r3,?_⟩⟩;rw[List.length_set,Array.toList_setIfInBounds,List.take_set,r4,zph _ _ _ hi]
theorem RowKn.frozen{w:World}{g cap:Nat}{l:List ND4}(h:RowKn w g cap l)(i:Nat):w.frozen? ⟨g,i,none⟩=false:=by
 obtain⟨cur,hb,_⟩:=h;exact hb.frozen i
theorem zkk{α:Type}{f g:Nat→α}{u:Nat}:∀{l:List Nat} {k:Nat},l.Nodup→l[k]?=some u→(∀y,y≠u→f y=g y)→(l.map f).set k (g u)=l.map g
 | [],k,_,h,_=>by simp at h
 |a::l,0,hn,h,hf=>by
  simp at h;subst h;rw[List.nodup_cons]at hn;rw[List.map_cons,List.set_cons_zero,List.map_cons];congr 1;exact List.map_congr_left fun y hy=>hf y (fun e=>hn.1 (by rw[←e];exact hy))
 |a::l,k+1,hn,h,hf=>by
  rw[List.getElem?_cons_succ]at h;rw[List.nodup_cons]at hn;rw[List.map_cons,List.set_cons_succ,List.map_cons,zkk hn.2 h hf,hf a (fun e=>hn.1 (by rw[e];exact List.mem_of_getElem? h))]
theorem zku{f:Nat→ND4}{u:Nat}:∀{l:List Nat} {k:Nat},l.Nodup→l[k]?=some u→cutN (l.map f) k=(l.erase u).map f
 | [],k,_,h=>by simp at h
 |a::l,0,hn,h=>by
  simp at h;subst h;rw[List.erase_cons_head];rfl
 |a::l,k+1,hn,h=>by
  rw[List.getElem?_cons_succ]at h;rw[List.nodup_cons]at hn;have hne:a≠u:=fun e=>hn.1 (by rw[e];exact List.mem_of_getElem? h);rw[List.erase_cons_tail (by simpa using hne),List.map_cons,List.map_cons];show f a::cutN (l.map f) k=_;rw[zku hn.2 h]
def nd4(par R:Nat→Nat)(lb:Nat→List Nat)(y:Nat):ND4:=⟨y,par y,R y,lb y⟩
def IsD(w:World)(p:Nat)(v:Value)(l:List Nat)(par R:Nat→Nat)(lb:Nat→List Nat):Prop:=IsN w p v (l.map (nd4 par R lb))
section
variable {w w' W : World} {p : Nat} {v : Value} {l : List Nat} {par R : Nat → Nat} {lb : Nat → List Nat} {x : Nat}
theorem IsD.congr{par' R':Nat→Nat}{lb':Nat→List Nat}(h:IsD w p v l par R lb)(hc:∀y∈l,par' y=par y∧R' y=R y∧lb' y=lb y):IsD w p v l par' R' lb':=by
 unfold IsD at h⊢;rwa[List.map_congr_left fun y hy=>show nd4 par' R' lb' y=nd4 par R lb y from by rw[nd4,(hc y hy).1,(hc y hy).2.1,(hc y hy).2.2];rfl]
theorem zu0{i:Nat}{d:ND4}(h:(l.map (nd4 par R lb))[i]?=some d):l[i]?=some d.y∧d=nd4 par R lb d.y:=by
 rw[List.getElem?_map]at h;cases e:l[i]? with
 |none=>rw[e]at h;cases h
 |some u=>
  rw[e]at h;injection h with h;subst h;exact⟨rfl,rfl⟩
theorem zg7(h:IsD w p v l par R lb)(hl:l.length≤100000)(hx:x∈l):Calls prog 105 #[.pointer (some ⟨p,0,none⟩),.int .i64 x] w fun e w'=>(∃i:Nat,e= .returned (.int .i64 (i:Nat))∧l[i]?=some x)∧w'=w:=
 (xnat h (by rw[List.length_map];exact hl) x).mono fun e w' ⟨ha,hw⟩=>⟨by
  rcases ha with⟨i,d,he,hd,hdx⟩|⟨_,hno⟩
  ·exact⟨i,he,hdx▸(zu0 hd).1⟩
  ·exact absurd rfl (hno _ (List.mem_map_of_mem hx)),hw⟩
theorem IsD.rowg{g n cap:Nat}(h:IsD w p (.slice (some ⟨g,0,none⟩) n cap) l par R lb)(h0:0<l.length):RowKn w g cap (l.map (nd4 par R lb))∧p<g:=by
 obtain⟨ad,cap',e,hrow⟩:=IsN.row h;rw[List.length_map]at hrow;injection e with e1 _ e3;obtain⟨g',e4,hg,hr⟩:=hrow h0;rw[e4]at e1;injection e1 with e1;injection e1 with e1;subst e1 e3;exact⟨hr,hg⟩
theorem IsD.set(h:IsD w p v l par R lb)(hn:l.Nodup){i:Nat}(hi:l[i]?=some x)(r:Nat):∃g cap,v= .slice (some ⟨g,0,none⟩) l.length cap∧p<g∧RowKn w g cap (l.map (nd4 par R lb))∧l.length≤cap∧∀W,Fr [] w W→IsD (W.setCell ⟨g,i*4+3,none⟩ (.int .i64 r)) p v l par (up R x r) lb∧Fr [g] W (W.setCell ⟨g,i*4+3,none⟩ (.int .i64 r)):=by
 have hlt:=(List.getElem?_eq_some_iff.1 hi).1;obtain⟨ad,cap,e,hrow⟩:=IsN.row h;rw[List.length_map]at e hrow;obtain⟨g,rfl,hg,hr⟩:=hrow (by omega);subst e;refine⟨g,cap,rfl,hg,hr,by have:=hr.le;rwa[List.length_map]at this,fun W hW=> ?_⟩;have f:Fr [g] W (W.setCell ⟨g,i*4+3,none⟩ (.int .i64 r)):=(Fr.refl [g] W).setCell (p:=⟨g,i*4+3,none⟩) (.inl (by simp)) _;have h':=IsN.fr0 h hW;refine⟨⟨h'.st.fr f (by simp;omega),?_⟩,f⟩;have:=h'.r.setR i r (by rw[List.length_map];exact hlt)
 rwa[show({(l.map (nd4 par R lb))[i]'(by rw[List.length_map];exact hlt)with r:=r}:ND4)=nd4 par (up R x r) lb x from by
  rw[List.getElem_map];have e:l[i] =x:=(List.getElem?_eq_some_iff.1 hi).2;rw[e,nd4,nd4,zaa],zkk hn hi (fun y hy=>by rw[nd4,nd4,zac _ _ hy])]at this
theorem zn5(h:IsD w p v l par R lb)(hn:l.Nodup)(hl:l.length≤100000)(hx:x∈l)(hR:R x≤1000000000):Calls prog 190 #[.pointer (some ⟨p,0,none⟩),.int .i64 x] w fun e w'=>e= .returned (.int .i64 0)∧IsD w' p v l par (up R x (R x+1)) lb∧Fr (ownS v) w w':=by
 have hat:=zg7 h hl hx;have hst:=h.st.cell 0;simp at hst;have HI:=hid h;have HN:=hid hn;generalize hr0:R x=r at*;have HR0:=hid hr0;clear h hn hx hr0;go_enter func190,ntmps190;go_wp2_with fail;with_reducible refine hat.mono ?_
 rintro e w1 ⟨⟨i,rfl,hi⟩,rfl⟩;obtain⟨g,cap,rfl,hpg,hr,hcap,hset⟩:=HI.out.set HN.out hi (r+1);have c3:=(hr.four (d:=nd4 par R lb x) (by rw[List.getElem?_map,hi];rfl)).2.2.2;have e3:(nd4 par R lb x).r=r:=HR0.out;rw[e3]at c3;have zf:=hr.frozen (i*4+3);have hlt:=(List.getElem?_eq_some_iff.1 hi).1;have HSt:=hid hset;obtain⟨n,hnl⟩:∃n,l.length=n:=⟨_,rfl⟩;rw[hnl]at hlt hcap hst hl;have b0:decide ((i:Int)<0)=false:=decide_eq_false (by omega);have i0:(0:Int)≤i:=by omega
 have i1:(i:Int)<n:=by omega
 have wi:IntKind.i64.wrap ((r:Int)+1)=((r+1:Nat):Int):=i64_in _ (by omega);have HNL:=hid hnl;clear hset hr hat hi hnl hpg e3;go_wp2_with fail;go_ret;obtain⟨k1,k2⟩:=HSt.out _ (Fr.refl [] _);exact⟨rfl,k1,k2⟩
end
theorem zin{P:Program}{ops:Array Oper}{o:Oper}{a:Act}{w:World}{K:Act→World→Prop}{Q:Exit→Act→World→Prop}{E:Prop}
  (hg:o.guard=none) (s x:Operand) (t:TypeId) (hop:o.op=Op.call {callee:=Callee.builtin Builtin.append,args:= #[s,x],argTypes:= #[t,t]}) (hty:o.type=t)
  (vs vx v':Value) (w':World) (hs:a.eval s=vs) (hx:a.eval x=vx) (hrun:(Builtin.append_ #[t,t] t #[vs,vx]).run P w= .ok v' w')
  (hK:K (a.put o.dst v') w'):if Region.wanted o (yielded ops a.tmps)=true then Oper.wp P o a w K Q else E:=by
 have hw:Region.wanted o (yielded ops a.tmps)=true:=by simp[Region.wanted,hg]
 rw[if_pos hw]
 subst hty
 unfold Oper.wp
 simp[execOp,hop,resolve,invoke,builtin,hs,hx,hrun,Result.andThen]
 exact hK
theorem z0s{G H:Prop}(f:G→H)(g:G):H:=f g
structure Nx(p:Nat)(v:Value)(w:World)(v':Value)(w':World):Prop where
 f:Fr (p::ownS v) w w'
 o: ∀k∈ownS v',k∈ownS v∨w.heap.size≤k
theorem Nx.trans{p:Nat}{v v' v2:Value}{w w' w2:World}(h:Nx p v w v' w')(h2:Nx p v' w' v2 w2):Nx p v w v2 w2:=
 ⟨h.f.step h2.f (fun k hk=>by
  rcases List.mem_cons.1 hk with rfl|hk
  ·exact .inl (by simp)
  rcases h.o k hk with h|h
  ·exact .inl (List.mem_cons_of_mem _ h)
  ·exact .inr h),fun k hk=>by
  rcases h2.o k hk with h3|h3
  ·exact h.o k h3
  ·exact .inr (Nat.le_trans h.f.size h3)⟩
def LetX(p:Nat)(v:Value)(w:World)(l:List Nat)(par own:Nat→Nat)(lb:Nat→List Nat)(e:Ending)(w':World):Prop:=
 ∃(k:Nat) (l1:List Nat) (R1:Nat→Nat) (v':Value),e= .returned (.tuple #[.int .i64 (k:Nat),.int .i64 0])∧IsD w' p v' l1 par R1 lb∧Rem own par l l1∧k+l1.length=l.length∧(∀y∈l1,R1 y=own y+bel par l1 y)∧Firm own par l1∧Nx p v w v' w'
structure LetQ(l:List Nat)(par own R:Nat→Nat)(x:Nat):Prop where
 nd:l.Nodup
 ix:x∈l
 rf: ∀y∈l,R y=own y+bel par l y+(if y=x then 1 else 0)
 nf: ∀y∈l,y≠x→own y=0→ ∃z∈l,par z=y
 u: ∀y∈l,par y=0∨par y∈l
 z: ∀y∈l,y≠0
 o: ∀y∈l,own y≤900000000
section
variable {l : List Nat} {par own R : Nat → Nat} {x : Nat}
theorem LetQ.at_x(h:LetQ l par own R x):∃r,R x=r+1∧r=own x+bel par l x:=⟨own x+bel par l x,by rw[h.rf x h.ix,if_pos rfl],rfl⟩
theorem LetQ.keep(h:LetQ l par own R x){r:Nat}(hr:r=own x+bel par l x)(h0:r≠0):(∀y∈l,up R x r y=own y+bel par l y)∧Firm own par l:=by
 refine⟨fun y hy=> ?_,fun y hy ho=> ?_⟩
 ·by_cases e:y=x
  ·rw[e,zaa,hr]
  ·rw[zac _ _ e,h.rf y hy,if_neg e];rfl
 ·by_cases e:y=x
  ·subst e
   exact bel_pos.1 (by omega)
  ·exact h.nf y hy e ho
theorem LetQ.gone(h:LetQ l par own R x)(h0:own x+bel par l x=0):own x=0∧∀z∈l,par z≠x:=⟨by omega,fun z hz e=>by
 have:bel par l x≠0:=bel_pos.2 ⟨z,hz,e⟩;omega⟩
theorem LetQ.rem(h:LetQ l par own R x)(h0:own x+bel par l x=0):Rem own par l (l.erase x):= .step (.refl l) h.ix (h.gone h0).1 (h.gone h0).2
theorem LetQ.mem(h:LetQ l par own R x){y:Nat}:y∈l.erase x↔y≠x∧y∈l:=by rw[h.nd.mem_erase_iff]
theorem LetQ.stop(h:LetQ l par own R x)(h0:own x+bel par l x=0)(hp:par x=0):(∀y∈l.erase x,R y=own y+bel par (l.erase x) y)∧Firm own par (l.erase x):=by
 refine⟨fun y hy=> ?_,fun y hy ho=> ?_⟩
 ·obtain⟨hne,hm⟩:=h.mem.1 hy
  have:=h.z y hm;rw[h.rf y hm,if_neg hne,ze8 h.ix,hp,if_neg (by omega)];rfl
 ·obtain⟨hne,hm⟩:=h.mem.1 hy
  obtain⟨z,hz,e⟩:=h.nf y hm hne ho;exact⟨z,h.mem.2 ⟨fun e2=>by subst e2;exact h.z y hm (by rw[←e,hp]),hz⟩,e⟩
theorem LetQ.next(h:LetQ l par own R x)(h0:own x+bel par l x=0)(hp:par x≠0):LetQ (l.erase x) par own R (par x):=by
 have hg:=(h.gone h0).2;refine⟨h.nd.erase x,h.mem.2 ⟨hg x h.ix,(h.u x h.ix).resolve_left hp⟩,fun y hy=> ?_,fun y hy hne ho=> ?_,fun y hy=> ?_,fun y hy=>h.z y (h.mem.1 hy).2,fun y hy=>h.o y (h.mem.1 hy).2⟩
 ·obtain⟨hne,hm⟩:=h.mem.1 hy
  rw[h.rf y hm,if_neg hne,ze8 h.ix];by_cases e:par x=y
  ·rw[if_pos e,if_pos e.symm];omega
  ·rw[if_neg e,if_neg (fun e2=>e e2.symm)];omega
 ·obtain⟨hnx,hm⟩:=h.mem.1 hy
  obtain⟨z,hz,e⟩:=h.nf y hm hnx ho;exact⟨z,h.mem.2 ⟨fun e2=>by subst e2;exact hne e.symm,hz⟩,e⟩
 ·obtain⟨hnx,hm⟩:=h.mem.1 hy
  rcases h.u y hm with e|e
  ·exact .inl e
  ·exact .inr (h.mem.2 ⟨hg y hm,e⟩)
end
section
variable {W : World} {p : Nat} {l : List Nat} {par R : Nat → Nat} {lb : Nat → List Nat} {x : Nat}
theorem IsD.cut{g cap n:Nat}(h:IsD W p (.slice (some ⟨g,0,none⟩) n cap) l par R lb)(hn:l.Nodup){i:Nat}(hi:l[i]?=some x)(hl:l.length≤100000)(hln:l.length=n):∃v1 w1 v2 w2,(Builtin.append_ #[69,69] 69 #[.slice (some ⟨W.heap.size,0,none⟩) 0 0,.slice (some ⟨g,0,none⟩) i cap]).run prog (W.alloc (.cells #[] 122)).drew= .ok v1 w1
   ∧(Builtin.append_ #[69,69] 69 #[v1,.slice (if cap-(i+1)=0 then some ⟨g,0,none⟩else some ⟨g,(i+1)*4,none⟩) (n-(i+1)) (cap-(i+1))]).run prog w1= .ok v2 w2
   ∧(W.alloc (.cells #[] 122)).drew.cell? ⟨p,0,none⟩=some (.slice (some ⟨g,0,none⟩) n cap)∧w1.cell? ⟨p,0,none⟩=some (.slice (some ⟨g,0,none⟩) n cap)∧w2.cell? ⟨p,0,none⟩=some (.slice (some ⟨g,0,none⟩) n cap)∧w2.frozen? ⟨p,0,none⟩=false
   ∧IsD (w2.setCell ⟨p,0,none⟩ v2) p v2 (l.erase x) par R lb∧Fr [p] W (w2.setCell ⟨p,0,none⟩ v2)∧ ∀k∈ownS v2,W.heap.size≤k:=by
 have hlt:=(List.getElem?_eq_some_iff.1 hi).1
 obtain⟨hr,hpg⟩:=h.rowg (by omega)
 obtain⟨v1,w1,v2,w2,e1,e2,o,f⟩:=zsl hr (k:=i) (by rw[List.length_map];exact hlt) (by rw[List.length_map];omega)
 rw[List.length_map,hln]at e2
 have hp:=h.st.lt
 have f2:Fr [p] w2 (w2.setCell ⟨p,0,none⟩ v2):=(Fr.refl [p] w2).setCell (p:=⟨p,0,none⟩) (.inl (by simp)) _
 have c0:=h.st.cell 0
 simp at c0
 have fa:Fr [] W (W.alloc (.cells #[] 122)).drew:=((Fr.refl [] W).alloc _).drew
 have f1:Fr [] W w1:=by
  have hO0:Rkn (W.alloc (.cells #[] 122)).drew W.heap.size (.slice (some ⟨W.heap.size,0,none⟩) 0 0) [] :=zth W
  have hg:=hr.lt
  obtain⟨v1',w1',e1',hO1,g1,_⟩:=zdu _ _ _ [] hO0 (some ⟨g,0,none⟩) cap ((l.map (nd4 par R lb)).take i) (fun _=>⟨g,0,rfl,fun j hj k hk=>by
   rw[List.length_take,List.length_map]at hj
   have:=(hr.fr fa (by simp)).cell j (by rw[List.length_map];omega) k hk
   rw[Nat.zero_add,this,List.getElem_take]⟩) (by simp;omega) fa.size
  rw[List.length_take,List.length_map,Nat.min_eq_left (by omega)]at e1'
  rw[e1']at e1
  injection e1 with _ e1
  subst e1
  exact hO0.grow g1 fa (Nat.le_refl _)
 refine⟨v1,w1,v2,w2,e1,e2,(fa.cell (p:=⟨p,0,none⟩) hp (by simp)).trans c0,(f1.cell (p:=⟨p,0,none⟩) hp (by simp)).trans c0,(f.cell (p:=⟨p,0,none⟩) hp (by simp)).trans c0,(h.st.fr f (by simp)).frozen 0,⟨?_,?_⟩,f.nil.trans f2,fun k hk=>(o.lt k (zbw hk)).1⟩
 ·exact(h.st.fr f (by simp)).set 0 v2
 ·rw[zku hn hi]at o
  exact(o.fr f2 (fun k hk e=>by
   simp at hk
   subst hk
   have:=(o.lt _ e).1
   omega)).lo (by omega)
end
theorem zun(own par:Nat→Nat)(lb:Nat→List Nat)(p:Nat):∀(n:Nat) {w:World} {v:Value} {l:List Nat} {R:Nat→Nat} {x:Nat},l.length=n→n≤100000→IsD w p v l par R lb→LetQ l par own R x→
  Calls prog 116 #[.pointer (some ⟨p,0,none⟩),.int .i64 x] w (LetX p v w l par own lb)
 |0,w,v,l,R,x,hl,_,_,hq=>by
  have:=List.length_pos_of_mem hq.ix;omega
 |n+1,w,v,l,R,x,hln,hl,h,hq=>by
  have hat:=zg7 h (by omega) hq.ix;have hst:=h.st.cell 0;simp at hst;have HI:=hid h;have HQ:=hid hq;obtain⟨r,hr0,hrx⟩:=hq.at_x;have hbl:=zim par l x;have hox:=hq.o x hq.ix;have HR:=hid hrx;have hr9:r≤1000000000:=by omega
  obtain⟨rr,hrr⟩:∃rr,r+1=rr:=⟨_,rfl⟩;rw[hrr]at hr0;have HR0:=hid hr0;have IH:=hid (fun w v l R x=>zun own par lb p n (w:=w) (v:=v) (l:=l) (R:=R) (x:=x));have HLN:=hid hln;have hp:=h.st.lt;clear h hq hr0 hrx hbl hox hln;go_enter func116,ntmps116;go_wp2_with fail;with_reducible refine hat.mono ?_
  rintro e w1 ⟨⟨i,rfl,hi⟩,rfl⟩;obtain⟨g,cap,rfl,hpg,hr,hcap,hset⟩:=HI.out.set HQ.out.nd hi r;obtain⟨c0,c1,c2,c3⟩:=hr.four (d:=nd4 par R lb x) (by rw[List.getElem?_map,hi];rfl);have e3:(nd4 par R lb x).r=rr:=HR0.out;rw[e3]at c3;have zf:=hr.frozen (i*4+3);have hlt:=(List.getElem?_eq_some_iff.1 hi).1;obtain⟨h1,f1⟩:=hset _ (Fr.refl [] w1);rw[HLN.out]at hlt hcap hst;have HI1:=hid h1;have HF1:=hid f1;obtain⟨d0,d1,d2,d3⟩:=(h1.rowg (by rw[HLN.out];omega)).1.four (d:=nd4 par (up R x r) lb x) (by rw[List.getElem?_map,hi];rfl);have e4:(nd4 par (up R x r) lb x).r=r:=zaa _ _ _;rw[e4]at d3;have hst1:=h1.st.cell 0;simp at hst1;rw[HLN.out]at hst1;have HIi:=hid hi;generalize hN:n+1=N at*;have b0:decide ((i:Int)<0)=false:=decide_eq_false (by omega);have i0:(0:Int)≤i:=by omega
  have i1:(i:Int)<N:=by omega
  have wi:IntKind.i64.wrap ((rr:Int)-1)=(r:Int):=by rw[show(rr:Int)-1=(r:Int)by omega];exact i64_in _ (by omega)
  have br:((rr:Int)==0)=false:=by rw[beq_eq_false_iff_ne];omega
  have br':(rr==0)=false:=by rw[beq_eq_false_iff_ne];omega
  have hs1:w1.heap.size≤(w1.setCell ⟨g,i*4+3,none⟩ (.int .i64 r)).heap.size:=f1.size;clear hset hr hat h1 f1 e3 e4 hi;rw[show(nd4 par R lb x).y=x from rfl]at c0;rw[show(nd4 par R lb x).p=par x from rfl]at c1;rw[show(nd4 par R lb x).s=lb x from rfl]at c2;rw[show(nd4 par (up R x r) lb x).y=x from rfl]at d0;rw[show(nd4 par (up R x r) lb x).p=par x from rfl]at d1;rw[show(nd4 par (up R x r) lb x).s=lb x from rfl]at d2;generalize zag (lb x)=S0 at*;generalize hpx:par x=px at*;by_cases hr1:r=0
  ·have b1:decide ((0:Int)<r)=false:=decide_eq_false (by omega)
   have b1':decide (0<r)=false:=decide_eq_false (by omega);have h00:own x+bel par l x=0:=HR.out.symm.trans hr1;have HR1:=hid hr1;have H00:=hid h00;clear hr1 hrr h00;go_wp2_with fail;have hIW:IsD ((w1.setCell ⟨g,i*4+3,none⟩ (.int .i64 r)).alloc (.cells #[.int .i64 x,.int .i64 px,.string S0,.int .i64 r] 122)) p (.slice (some ⟨g,0,none⟩) l.length cap) l par (up R x r) lb:=IsN.fr0 HI1.out ((Fr.refl [] _).alloc _);have hFW:Fr [g] w1 ((w1.setCell ⟨g,i*4+3,none⟩ (.int .i64 r)).alloc (.cells #[.int .i64 x,.int .i64 px,.string S0,.int .i64 r] 122)):=HF1.out.alloc _
   have hB7:Blk ((w1.setCell ⟨g,i*4+3,none⟩ (.int .i64 r)).alloc (.cells #[.int .i64 x,.int .i64 px,.string S0,.int .i64 r] 122)) w1.heap.size 122 #[.int .i64 x,.int .i64 px,.string S0,.int .i64 r] :=by
    have:=Blk.new (w1.setCell ⟨g,i*4+3,none⟩ (.int .i64 r)) 122 #[.int .i64 x,.int .i64 px,.string S0,.int .i64 r];rwa[show(w1.setCell ⟨g,i*4+3,none⟩ (.int .i64 r)).heap.size=w1.heap.size by simp[World.setCell]]at this
   have hstW:=hIW.st.cell 0;simp only[List.getElem?_toArray,List.getElem?_cons_zero]at hstW;rw[HLN.out]at hstW;generalize(w1.setCell ⟨g,i*4+3,none⟩ (.int .i64 r)).alloc (.cells #[.int .i64 x,.int .i64 px,.string S0,.int .i64 r] 122)=W at*;obtain⟨v1,wa,v2,wb,e1,e2,ca,cb,cc,zc,hI3,hF3,ho3⟩:=hIW.cut HQ.out.nd HIi.out (by rw[HLN.out];exact hl) rfl;rw[HLN.out]at e2 ca cb cc
   obtain⟨ad3,n3,cap3,hv2⟩:∃ad3 n3 cap3,v2= .slice ad3 n3 cap3:=by
    obtain⟨ad3,cap3,e,-⟩:=IsN.row hI3;exact⟨ad3,_,cap3,e⟩
   subst hv2;have HE1:=hid e1;have HE2:=hid e2;have HI3:=hid (show IsD _ p (.slice ad3 n3 cap3) (l.erase x) par R lb from IsD.congr hI3 (fun y hy=>⟨rfl,(zac _ _ (HQ.out.mem.1 hy).1).symm,rfl⟩));have hs3:=hF3.size;have hpb:p≠w1.heap.size:=by omega
   have hB3:=hB7.fr hF3 (by simp;omega);have HNx:=hid (show Nx p (.slice (some ⟨g,0,none⟩) l.length cap) w1 (.slice ad3 n3 cap3) _ from⟨(hFW.mono (fun k hk=> .inl (List.mem_cons_of_mem p hk))).step hF3 (fun k hk=>by simp at hk;subst hk;exact .inl (by simp)),fun k hk=> .inr (Nat.le_trans hFW.size (ho3 k hk))⟩);have q0:=hB3.cell 1;simp only[List.getElem?_toArray,List.getElem?_cons_zero,List.getElem?_cons_succ]at q0;have g2:(i:Int)≤cap:=by omega
   have g2':i≤cap:=by omega
   have g3:(i:Int)+1≤N:=by omega
   have g3':i+1≤N:=by omega
   have g4:(N:Int)≤cap:=by omega
   have g5:=i64_in ((i:Int)+1) (by omega);have g6:(0:Int)≤(i:Int)+1:=by omega
   have g8:((i:Int)+1).toNat=i+1:=by omega
   clear e1 e2 hI3 hF3 ho3 hB7 hB3 hFW hIW HI HI1 HF1 c0 c1 c2 c3 d0 d1 d2 d3 zf hst hst1 wi br br' b0 b1 b1' hs1;generalize hc2:(if cap-(i+1)=0 then(some ⟨g,0,none⟩:Option Addr)else some ⟨g,(i+1)*4,none⟩)=ad2 at*
   have hc3:(if cap=i+1 then(some ⟨g,0,none⟩:Option Addr)else some ⟨g,(i+1)*4,none⟩)=ad2:=by
    rw[←hc2];by_cases e:cap=i+1
    ·rw[if_pos e,if_pos (by omega)]
    ·rw[if_neg e,if_neg (by omega)]
   generalize w1.heap.size=b7 at*;apply z0s
   ·intro key
    go_region_law (first|(refine zin rfl (.tmp 45) (.tmp 51) 69 rfl rfl _ _ _ _ (by simp[Act.eval,Act.put]) (by simp[Act.eval,Act.put]) HE1.out ?_)|(refine zin rfl (.tmp 52) (.tmp 59) 69 rfl rfl _ _ _ _ (by simp[Act.eval,Act.put]) (by simp[Act.eval,Act.put,hc3]) HE2.out ?_));all_goals exact key
   ·clear hc2 hc3 HE1 HE2 ca cb cc zc hstW
    try simp only[Act.put,List.getElem_toArray,List.getElem_cons_zero,List.getElem_cons_succ,List.setIfInBounds_toArray,List.set_cons_zero,List.set_cons_succ]
    generalize wb.setCell ⟨p,0,none⟩ (.slice ad3 n3 cap3)=W3 at*;by_cases hp0:px=0
    ·have b2:((px:Int) !=0)=false:=by subst hp0;rfl
     have HP0:=hid (hpx.trans hp0);clear hp0;go_wp2_with fail;go_ret2;obtain⟨k1,k2⟩:=HQ.out.stop H00.out HP0.out;exact⟨1,l.erase x,R,_,rfl,HI3.out,HQ.out.rem H00.out,by rw[List.length_erase_of_mem HQ.out.ix,HLN.out];omega,k1,k2,HNx.out⟩
    ·have b2:((px:Int) !=0)=true:=by rw[bne_iff_ne];omega
     have hih:=IH.out W3 (.slice ad3 n3 cap3) (l.erase x) R px (by rw[List.length_erase_of_mem HQ.out.ix,HLN.out];omega) (by omega) HI3.out (by rw[←hpx];exact HQ.out.next H00.out (by rw[hpx];exact hp0));have hlen:(l.erase x).length≤100000:=by rw[List.length_erase_of_mem HQ.out.ix,HLN.out];omega
     clear hp0;go_wp2_with fail;with_reducible refine hih.mono ?_
     rintro e w4 ⟨k,l1,R1,v4,rfl,h1,h2,h3,h4,h5,h6⟩;have wk:IntKind.i64.wrap ((k:Int)+1)=((k+1:Nat):Int):=i64_in _ (by omega);have HX:=hid (show LetX p (.slice (some ⟨g,0,none⟩) l.length cap) _ l par own lb (.returned (.tuple #[.int .i64 (k+1:Nat),.int .i64 0])) w4 from⟨k+1,l1,R1,v4,rfl,h1,(HQ.out.rem H00.out).trans h2,by rw[List.length_erase_of_mem HQ.out.ix]at h3;have:=List.length_pos_of_mem HQ.out.ix;omega,h4,h5,HNx.out.trans h6⟩);clear hih h1 h2 h3 h4 h5 h6;go_wp2_with fail;go_ret2;exact HX.out
  ·have b1:decide ((0:Int)<r)=true:=decide_eq_true (by omega)
   have b1':decide (0<r)=true:=decide_eq_true (by omega);have HR1:=hid hr1;clear hr1 hrr;go_wp2_with fail;go_ret2;obtain⟨k1,k2⟩:=HQ.out.keep HR.out HR1.out;exact⟨0,l,_,_,rfl,IsN.fr0 HI1.out ((Fr.refl [] _).alloc _),.refl l,by omega,k1,k2,(HF1.out.alloc _).mono (fun k hk=> .inl (List.mem_cons_of_mem p hk)),fun k hk=> .inl hk⟩
theorem zgb{ops:Array Oper}{o:Oper}{a:Act}{w:World}{K:Act→World→Prop}{Q:Exit→Act→World→Prop}{E:Prop}
  (hg:o.guard=none) (s x:Operand) (ho:o.op= .call {callee:= .builtin .append,args:= #[s,x],argTypes:= #[69,69]}) (hty:o.type=69)
  (base:Nat) (v:Value) (l:List ND4) (hs:a.eval s=v) (y:ND4) (W0:World) (hW:w=W0.alloc (.cells y.cells 122)) (hown:Rkn W0 base v l) (hx:a.eval x= .slice (some ⟨W0.heap.size,0,none⟩) 1 1)
  (n:Nat) (hn:l.length=n) (hl:n≤1000000) (hbase:base≤W0.heap.size)
  (h: ∀g cap w',Rkn w' base (.slice (some ⟨g,0,none⟩) (n+1) cap) (l++ [y])→Fr (ownS v) W0 w'→(v.ownBlock=some g∨W0.heap.size≤g)→K (a.put o.dst (.slice (some ⟨g,0,none⟩) (n+1) cap)) w'):if Region.wanted o (yielded ops a.tmps)=true then Oper.wp prog o a w K Q else E:=by
 have hw:Region.wanted o (yielded ops a.tmps)=true:=by simp[Region.wanted,hg]
 rw[if_pos hw]
 subst hW hn
 obtain⟨v',w',hrun,h2,h3,h5⟩:=zdu (W0.alloc (.cells y.cells 122)) base v l (hown.fr0 ((Fr.refl [] W0).alloc _)) (some ⟨W0.heap.size,0,none⟩) 1 [y] (fun _=>⟨_,0,rfl,fun j hj i hi=>by
  obtain rfl:j=0:=by simp at hj;omega
  rw[Nat.zero_mul,Nat.zero_add,Nat.zero_add,(Blk.new W0 122 y.cells).cell]
  show(#[.int .i64 (y.y:Int),.int .i64 (y.p:Int),.string (zag y.s),.int .i64 (y.r:Int)] :Array Value)[i]?=y.cl[i]?
  rw[List.getElem?_toArray]
  rfl⟩) (by simp;omega) (by simp;omega)
 rw[show([y] :List ND4).length=1 from rfl]at hrun
 obtain⟨g,cap,rfl⟩:=ownsRow_succ (show w'.ownsRow base 122 4 v' (l.length+1) (ndL (l++ [y]))from by
  have:=h2
  unfold Rkn at this
  rwa[List.length_append]at this)
 have hK':=h g cap w' h2 (zdm h3) (by
  rw[World.size_alloc]at h5
  rcases h5 with h5|h5
  ·exact .inl h5.symm
  ·refine .inr ?_
   have:g=W0.heap.size+1:=Option.some.inj h5
   omega)
 unfold Oper.wp execOp
 simp only[ho,hty,resolve,invoke,builtin,Sem.run_bind,Sem.run_pure,Result.andThen_ok,List.map_toArray,List.map_cons,List.map_nil,hs,hx,hrun]
 exact hK'
def zg1(R:Nat→Nat)(a:Nat):Nat→Nat:=if a=0 then R else up R a (R a+1)
def MkX(p:Nat)(v:Value)(w:World)(l:List Nat)(par R:Nat→Nat)(lb:Nat→List Nat)(x a:Nat)(s:List Nat)(e:Ending)(w':World):Prop:=
 ∃v',e= .returned (.int .i64 0)∧IsD w' p v' (l++ [x]) (up par x a) (up R x 0) (up lb x s)∧Nx p v w v' w'
section
variable {w w' W W' : World} {p : Nat} {v v' : Value} {l : List Nat} {par R : Nat → Nat} {lb : Nat → List Nat} {x a : Nat} {s : List Nat}
theorem IsD.app (h : IsD W p v l par R lb) (hx : x ∉ l) (hr : Rkn W' (p + 1) v' (l.map (nd4 par R lb) ++ [⟨x, a, 0, s⟩])) (hf : Fr (ownS v) W W') :
    IsD (W'.setCell ⟨p, 0, none⟩ v') p v' (l ++ [x]) (up par x a) (up R x 0) (up lb x s) ∧ Fr (p :: ownS v) W (W'.setCell ⟨p, 0, none⟩ v') ∧ W'.frozen? ⟨p, 0, none⟩ = false ∧ W'.cell? ⟨p, 0, none⟩ = some v := by
  have hpn : p ∉ ownS v := fun hm => by
    have := (h.r.lt p (zbw hm)).1
    omega
  have f : Fr [p] W' (W'.setCell ⟨p, 0, none⟩ v') := (Fr.refl [p] W').setCell (p := ⟨p, 0, none⟩) (.inl (by simp)) _
  have hst := h.st.fr hf hpn
  have c := hst.cell 0
  simp only [List.getElem?_toArray, List.getElem?_cons_zero] at c
  refine ⟨⟨hst.set 0 v', ?_⟩, (hf.mono (fun k hk => .inl (List.mem_cons_of_mem p hk))).step f (fun k hk => by simp at hk; subst hk; exact .inl (by simp)), hst.frozen 0, c⟩
  rw [List.map_append, List.map_cons, List.map_nil, List.map_congr_left (g := nd4 par R lb) fun y hy => by
    have hne : y ≠ x := fun e => hx (e ▸ hy)
    rw [nd4, nd4, zac _ _ hne, zac _ _ hne, zac _ _ hne], show nd4 (up par x a) (up R x 0) (up lb x s) x = ⟨x, a, 0, s⟩ from by rw [nd4, zaa, zaa, zaa]]
  exact hr.fr f (fun k hk e => by
    simp at hk
    subst hk
    have := (hr.lt _ e).1
    omega)
theorem zq1(h:IsD w p v l par R lb)(hl:l.length≤100000)(hL:∀y∈l,∀c∈lb y,c<256)(a:Nat)(s:List Nat)(hs:∀c∈s,c<256)(hs2:s.length≤1048576)(hno:∀y∈l,par y=a→lb y≠s.map lowB):Calls prog 258 #[.pointer (some ⟨p,0,none⟩),.int .i64 a,.string (zag s)] w fun e w'=>e= .returned (.tuple #[.int .i64 0,.bool false])∧Fr [] w w':=
 (ztd h (by rw[List.length_map];exact hl) (fun d hd=>by
  obtain⟨y,hy,rfl⟩:=List.mem_map.1 hd;exact hL y hy) a s hs hs2).mono fun e w' ⟨hf,h2⟩=>⟨by
  rcases hf with⟨i,d,_,hd,h3,h4⟩|⟨he,_⟩
  ·obtain⟨y,hy,rfl⟩:=List.mem_map.1 (List.mem_of_getElem? hd)
   exact absurd h4 (hno y hy h3)
  ·exact he,h2⟩
theorem zxy(h:IsD w p v l par R lb)(hn:l.Nodup)(hl:l.length≤1000)(hL:∀y∈l,∀c∈lb y,c<256)(hx:x∉l)(ha:a=0∨a∈l)(hR:R a≤1000000000)(hs:∀c∈s,c<256)(hk:zap s=true)(hno:∀y∈l,par y=a→lb y≠s.map lowB):Calls prog 195 #[.pointer (some ⟨p,0,none⟩),.int .i64 x,.int .i64 a,.string (zag s)] w (MkX p v w l par (zg1 R a) lb x a (s.map lowB)):=by
 have hk1:=(zga hk).2;have HLb:=hid (fun V=>zog V s hs (by omega));rw[if_pos hk]at HLb;have HLw:=hid (fun V=>zp5 V s hs (by omega));have HFd:=hid (fun W (hf:Fr [] w W)=>zq1 (IsN.fr0 h hf) (by omega) hL a s hs (by omega) hno)
 obtain⟨ad,cap,hv⟩:∃ad cap,v= .slice ad l.length cap:=by
  obtain⟨ad,cap,e,-⟩:=IsN.row h;rw[List.length_map]at e;exact⟨ad,cap,e⟩
 subst hv;have HI:=hid h;have HX:=hid hx;have HN:=hid hn;have hp:=h.st.lt;obtain⟨n,hnl⟩:∃n,l.length=n:=⟨_,rfl⟩;have HNL:=hid hnl;have hn1:n≤1000:=by omega
 generalize hS0:zag s=S0 at*;generalize hS1:zag (s.map lowB)=S1 at*;have HS1:=hid hS1;have HHo:=hid (fun(h0:a≠0) W (hf:Fr [] w W)=>zn5 (IsN.fr0 h hf) hn (by omega) (ha.resolve_left h0) hR);have HAt:=hid (fun(h0:a≠0) W (hf:Fr [] w W)=>zg7 (IsN.fr0 h hf) (by omega) (ha.resolve_left h0));clear h hn hl hL hx ha hR hs hk hno hk1 hnl hS1 hS0;go_enter func195,ntmps195;go_wp2_with fail;with_reducible refine(HLb.out _).mono ?_
 rintro e w1 ⟨rfl,rfl⟩;by_cases h0:a=0
 ·subst h0
  have HF0:=hid (fun W (hf:Fr [] w1 W)=>(show Calls prog 258 #[.pointer (some ⟨p,0,none⟩),.int .i64 0,.string S0] W fun e w'=>e= .returned (.tuple #[.int .i64 0,.bool false])∧Fr [] W w' from HFd.out W hf));go_wp2_with fail;with_reducible refine(HF0.out _ (Fr.refl [] _)).mono ?_
  rintro e w2 ⟨rfl,f2⟩;have hI3:=IsN.fr0 HI.out f2;have FW:=hid (f2.nil (S:=ownS (.slice ad l.length cap)));clear HF0 f2;go_wp2_with fail;have hpW:=hI3.st.lt;have cW:=hI3.st.cell 0;simp only[List.getElem?_toArray,List.getElem?_cons_zero]at cW;rw[HNL.out]at cW;have HI3:=hid hI3;clear hI3
  go_region_law
   (first
    |(refine zgb rfl (.tmp 39) (.tmp 45) rfl rfl (p+1) (.slice ad n cap) _ (by simp[Act.eval,Act.put]) ⟨x,0,0,s.map lowB⟩ W4 (by rw[ND4.cells,HS1.out];rfl) HR4.out (by simp[Act.eval,Act.put]) n (by rw[List.length_map];exact HNL.out) (by omega) (by omega) ?_;intro g5 cap5 W5 hr5 hf5 ho5;obtain⟨a1,a2,a3,a4⟩:=IsD.app (a:=0) HI4.out HX.out hr5 (by rw[HNL.out];exact hf5);rw[HNL.out]at a4;have A1:=hid a1;have A2:=hid a2;have HO5:=hid (And.intro ho5 hf5.size);clear hr5 hf5 ho5 a1 a2)
    |(go_simp;with_reducible refine(HLw.out _).mono ?_;rintro e W4 ⟨rfl,f4⟩;have HI4:=hid (IsN.fr0 HI3.out ((Fr.refl [] _).drew.trans f4));have FF4:=hid ((Fr.refl [] _).drew.trans f4);have HR4:=hid (show Rkn W4 (p+1) (.slice ad n cap) _ from by rw[←HNL.out];exact HI4.out.r);have c4:=HI4.out.st.cell 0;have c5:=((HI4.out.st).fr ((Fr.refl [] W4).alloc (.cells #[.int .i64 x,.int .i64 0,.string S1,.int .i64 0] 122)) (by simp)).cell 0;simp only[List.getElem?_toArray,List.getElem?_cons_zero]at c4 c5;rw[HNL.out]at c4 c5;have hp4:=HI4.out.st.lt;clear f4))
  all_goals
   clear HLw HHo HAt HFd HLb;go_wp2_with fail;go_ret
   exact⟨_,rfl,A1.out,(FW.out.trans FF4.out.nil|>.mono (fun k hk=> .inl (List.mem_cons_of_mem p hk))).trans A2.out,fun k hk=>by
    have e5:=zbw hk;injection e5 with e5;subst e5;rcases HO5.out.1 with h|h
    ·have h':(Value.slice ad l.length cap).ownBlock=some g5:=by rw[HNL.out];exact h
     exact .inl (by unfold ownS;rw[h'];simp)
    ·exact .inr (Nat.le_trans FW.out.size (Nat.le_trans FF4.out.size h))⟩
 ·have b1:((a:Int) !=0)=true:=by rw[bne_iff_ne];omega
  have hat:=HAt.out h0 _ (Fr.refl [] _);have H0:=hid h0;have b1':(a !=0)=true:=by rw[bne_iff_ne];exact h0
  go_wp2_with fail;clear h0;with_reducible refine hat.mono ?_
  rintro e w2 ⟨⟨i,rfl,hi⟩,rfl⟩;have b2:decide ((i:Int)<0)=false:=decide_eq_false (by omega);clear hi hat;go_wp2_with fail;with_reducible refine(HFd.out _ (Fr.refl [] _)).mono ?_
  rintro e w2 ⟨rfl,f2⟩;have hho:=HHo.out H0.out _ f2;have F2:=hid f2;clear f2 b2;go_wp2_with fail;with_reducible refine hho.mono ?_
  rintro e w3 ⟨rfl,hI3',f3⟩;have hI3:IsN w3 p (.slice ad l.length cap) (l.map (nd4 par (zg1 R a) lb)):=by rw[zg1,if_neg H0.out];exact hI3'
  have FW:=hid (F2.out.nil.trans f3);clear hho hI3' f3;go_wp2_with fail;have hpW:=hI3.st.lt;have cW:=hI3.st.cell 0;simp only[List.getElem?_toArray,List.getElem?_cons_zero]at cW;rw[HNL.out]at cW;have HI3:=hid hI3;clear hI3
  go_region_law
   (first
    |(refine zgb rfl (.tmp 39) (.tmp 45) rfl rfl (p+1) (.slice ad n cap) _ (by simp[Act.eval,Act.put]) ⟨x,a,0,s.map lowB⟩ W4 (by rw[ND4.cells,HS1.out];rfl) HR4.out (by simp[Act.eval,Act.put]) n (by rw[List.length_map];exact HNL.out) (by omega) (by omega) ?_;intro g5 cap5 W5 hr5 hf5 ho5;obtain⟨a1,a2,a3,a4⟩:=IsD.app HI4.out HX.out hr5 (by rw[HNL.out];exact hf5);rw[HNL.out]at a4;have A1:=hid a1;have A2:=hid a2;have HO5:=hid (And.intro ho5 hf5.size);clear hr5 hf5 ho5 a1 a2)
    |(go_simp;with_reducible refine(HLw.out _).mono ?_;rintro e W4 ⟨rfl,f4⟩;have HI4:=hid (IsN.fr0 HI3.out ((Fr.refl [] _).drew.trans f4));have FF4:=hid ((Fr.refl [] _).drew.trans f4);have HR4:=hid (show Rkn W4 (p+1) (.slice ad n cap) _ from by rw[←HNL.out];exact HI4.out.r);have c4:=HI4.out.st.cell 0;have c5:=((HI4.out.st).fr ((Fr.refl [] W4).alloc (.cells #[.int .i64 x,.int .i64 a,.string S1,.int .i64 0] 122)) (by simp)).cell 0;simp only[List.getElem?_toArray,List.getElem?_cons_zero]at c4 c5;rw[HNL.out]at c4 c5;have hp4:=HI4.out.st.lt;clear f4))
  all_goals
   clear HLw HHo HAt HFd HLb;go_wp2_with fail;go_ret
   exact⟨_,rfl,A1.out,(FW.out.trans FF4.out.nil|>.mono (fun k hk=> .inl (List.mem_cons_of_mem p hk))).trans A2.out,fun k hk=>by
    have e5:=zbw hk;injection e5 with e5;subst e5;rcases HO5.out.1 with h|h
    ·have h':(Value.slice ad l.length cap).ownBlock=some g5:=by rw[HNL.out];exact h
     exact .inl (by unfold ownS;rw[h'];simp)
    ·exact .inr (Nat.le_trans FW.out.size (Nat.le_trans FF4.out.size h))⟩
end
def hdL(nm:Nat→List (List Nat))(y:Nat):List Nat:=(nm y).headD []
structure DN(l:List Nat)(par own:Nat→Nat)(nm:Nat→List (List Nat)):Prop where
 z0:nm 0= []
 sx: ∀y∈l,nm y=hdL nm y::nm (par y)
 ux: ∀y∈l,par y=0∨par y∈l
 nz: ∀y∈l,y≠0
 nd:l.Nodup
 few:l.length≤224
 bx: ∀y∈l,∀c∈hdL nm y,c<256
 inj: ∀x y,(x=0∨x∈l)→(y=0∨y∈l)→nm x=nm y→x=y
 len: ∀y,(y=0∨y∈l)→(nm y).length≤224
 firm:Firm own par l
 lab: ∀y∈l,zap (hdL nm y)=true
section
variable {w0 w W : World} {q : MH} {u0 : EW} {l : List Nat} {par own : Nat → Nat} {nm : Nat → List (List Nat)} {fr x p a c : Nat} {b : List Nat} {v : Value}
theorem CP.dn(h:CP w0 q u0 l par own nm fr W):DN l par own nm:=by
 have hs:∀y∈l,nm y=hdL nm y::nm (par y)∧∀c∈hdL nm y,c<256:=fun y hy=>by
  obtain⟨s,e,hb,_⟩:=h.hd hy;have e2:hdL nm y=s:=by rw[hdL,e];rfl
  rw[e2];exact⟨e,hb⟩
 exact⟨h.z,fun y hy=>(hs y hy).1,fun y hy=>h.up hy,fun y hy=>(h.rng hy).1,h.nd,h.few,fun y hy=>(hs y hy).2,fun x y hx hy e=>h.inj hx hy e,fun y hy=>h.nmlen hy,h.firm,fun y hy=>(h.lab hy _ (by rw[(hs y hy).1];exact List.mem_cons_self)).1⟩
def DD(w:World)(p:Nat)(v:Value)(l:List Nat)(par own:Nat→Nat)(nm:Nat→List (List Nat)):Prop:=IsD w p v l par (fun y=>own y+bel par l y) (hdL nm)
theorem DD.fr0(h:DD w p v l par own nm)(hf:Fr [] w W):DD W p v l par own nm:=IsN.fr0 h hf
theorem Kn.uniq{N:List (List Nat)}{a1 k1 a2 k2:Nat}(d:DN l par own nm)(h1:Kn l nm N a1 k1)(h2:Kn l nm N a2 k2):a1=a2∧k1=k2:=by
 have key:∀{a1 k1 a2 k2:Nat},Kn l nm N a1 k1→Kn l nm N a2 k2→k1<k2→False:=fun{a1 k1 a2 k2} h1 h2 hlt=>by
  have hsuf:∀(j y:Nat),(y=0∨y∈l)→nm y=sfx N (k1+1+j)→k1+1+j≤N.length→∃z∈l,nm z=sfx N (k1+1):=by
   intro j;induction j with
   |zero=>
    intro y hy e hle;refine⟨y,hy.resolve_left (fun h0=> ?_),e⟩;subst h0;rw[d.z0]at e;have:=congrArg List.length e;rw[zed (by omega)]at this;simp at this
   |succ j ih=>
    intro y hy e hle
    have hyl:y∈l:=hy.resolve_left (fun h0=>by
     subst h0;rw[d.z0]at e;have:=congrArg List.length e;rw[zed (by omega)]at this;simp at this)
    rw[show k1+1+(j+1)=(k1+1+j)+1 by omega,zc3 (by omega),d.sx y hyl]at e;injection e with _ e;exact ih (par y) (d.ux y hyl) e (by omega)
  obtain⟨z,hz,e⟩:=hsuf (k2-(k1+1)) a2 h2.pl (by rw[show k1+1+(k2-(k1+1))=k2 by omega];exact h2.ew) (by have:=h2.le;omega);exact h1.no (by have:=h2.le;omega) z hz e
 have hk:k1=k2:=by
  rcases Nat.lt_trichotomy k1 k2 with h|h|h
  ·exact(key h1 h2 h).elim
  ·exact h
  ·exact(key h2 h1 h).elim
 subst hk;exact⟨d.inj _ _ h1.pl h2.pl (h1.ew.trans h2.ew.symm),rfl⟩
theorem zxh(w:World)(ad:Option Addr)(cap:Nat)(L:List (List Nat))(h:StrA w ad L)(hb:zb4 L≤1099511627776):Calls prog 257 #[.slice ad L.length cap] w fun e w'=>e= .returned (.int .i64 (zb4 L))∧w'=w:=by
 have HA:=hid h;have hle:=h.len;obtain⟨n,hn⟩:∃n,L.length=n:=⟨_,rfl⟩;have HX:=hid (fun k s (hs:L[k]?=some s)=>zh9 L k s 1 hs)
 have HB:=hid (fun k=>(show(L.take k).foldl (fun n s=>n+(s.length+1)) 1≤1099511627776 from by
  refine Nat.le_trans ?_ hb;unfold zb4;conv=>rhs;rw[←List.take_append_drop k L,List.foldl_append]
  exact zd0 _ _))
 have HZ:=hid (show(L.take 0).foldl (fun n s=>n+(s.length+1)) 1=1 from rfl);have HF:=hid (show(L.take n).foldl (fun n s=>n+(s.length+1)) 1=zb4 L from by rw[←hn,List.take_length];rfl);rw[←HF.out];obtain⟨M,hM⟩:∃M:Nat→Nat,(fun k=>(L.take k).foldl (fun n s=>n+(s.length+1)) 1)=M:=⟨_,rfl⟩;have hM':∀k,(L.take k).foldl (fun n s=>n+(s.length+1)) 1=M k:=fun k=>by rw[←hM]
 simp only[hM']at HX HB HZ⊢;rw[hn];rw[hn]at hle;have HN:=hid hn;clear hn h hM hM' HF hb;go_enter func257,ntmps257;go_wp2_with fail;go_loopg [3,4] (n+1) (fun gk v3 v4 W=>∃i:Nat,v3= .int .i64 (M i)∧v4= .int .i64 i∧(i+gk=n+1∧i≤n)∧w=W);case atStart=>exact⟨0,by rw[HZ.out];rfl,rfl,by omega,rfl⟩
 case round=>
  obtain⟨i,rfl,rfl,hi,rfl⟩:=hrel;by_cases hlt:i<n
  ·have hL:i<L.length:=by rw[HN.out];exact hlt
   obtain⟨g,o,rfl,hc,hg⟩:=HA.out.at_ i hL;have hgd:L[i]?=some L[i] :=List.getElem?_eq_getElem hL;rw[hgd]at hc;simp only[Option.getD_some]at hc;have hx:=HX.out i _ hgd;generalize L[i]'hL=s at*;have hb1:=HB.out (i+1);have hsz:=za4 s;obtain⟨k,hk⟩:∃k,s.length=k:=⟨_,rfl⟩;rw[hk]at hx hsz;have b6':decide (i<n)=true:=by simp;omega
   have i0:(0:Int)≤i:=by omega
   have i1:(i:Int)<n:=by omega
   have wi:=i64_in ((i:Int)+1) (by omega);have wk:=i64_in ((M i:Int)+1) (by omega);have HS:=hid hx;have wm:=i64_in ((M i:Int)+1+(k:Int)) (by omega);generalize zag s=S at*;clear hk hgd hL hx;go_wp2_with fail;go_roundg (gk-1);case measure=>omega
   case rel=>exact⟨i+1,by rw[HS.out];congr 1;push_cast;omega,by go_num,by omega,rfl⟩
  ·obtain rfl:i=n:=by omega
   have b6':decide (i<i)=false:=by simp
   go_wp2_with fail;go_ret;exact⟨rfl,rfl⟩
theorem zu8(w:World)(ad:Option Addr)(cap:Nat)(L:List (List Nat))(h:StrA w ad L)(hb:zb4 L≤1099511627776):Calls prog 188 #[.slice ad L.length cap] w fun e w'=>e= .returned (.int .i64 (chkN L))∧w'=w:=by
 have HA:=hid h;have HW:=hid (zxh w ad cap L h hb);have hle:=h.len;obtain⟨n,hn⟩:∃n,L.length=n:=⟨_,rfl⟩;obtain⟨wn,hwn⟩:∃wn,zb4 L=wn:=⟨_,rfl⟩;rw[hn,hwn]at HW;have HWN:=hid hwn;rw[hn];rw[hn]at hle;have HN:=hid hn;clear hn h hb hwn;go_enter func188,ntmps188;go_wp2_with fail;go_loopg [3] (n+1) (fun gk v3 W=>∃i:Nat,v3= .int .i64 i∧(i+gk=n+1∧i≤n)∧Hid (∀s∈L.take i,zap s=true)∧w=W);case atStart=>exact⟨0,rfl,by omega,hid (fun s hs=>by simp at hs),rfl⟩
 case round=>
  obtain⟨i,rfl,hi,HT,rfl⟩:=hrel;by_cases hlt:i<n
  ·have hL:i<L.length:=by rw[HN.out];exact hlt
   obtain⟨g,o,rfl,hc,hg⟩:=HA.out.at_ i hL;have hgd:L[i]?=some L[i] :=List.getElem?_eq_getElem hL;rw[hgd]at hc;simp only[Option.getD_some]at hc;have hs:=HA.out.lt _ (List.getElem_mem hL);have hs2:=HA.out.each _ (List.getElem_mem hL);have HGD:=hid hgd;have HM:=hid (List.getElem_mem hL);generalize L[i]'hL=s at*;have HLb:=hid (fun V=>zog V s hs hs2);have b6':decide (i<n)=true:=by simp;omega
   have i0:(0:Int)≤i:=by omega
   have i1:(i:Int)<n:=by omega
   have wi:=i64_in ((i:Int)+1) (by omega);generalize zag s=S at*;clear hgd hL hs hs2;by_cases hk:zap s=true
   ·rw[if_pos hk]at HLb
    have HT':=hid (show∀t∈L.take (i+1),zap t=true from fun t ht=>by
     rw[List.take_add_one,HGD.out,Option.toList_some]at ht;rcases List.mem_append.1 ht with h|h
     ·exact HT.out t h
     ·rw[List.mem_singleton]at h;rw[h];exact hk)
    clear hk;go_wp2_with fail;with_reducible refine(HLb.out _).mono ?_
    rintro e w5 ⟨rfl,rfl⟩;go_wp2_with fail;go_roundg (gk-1);case measure=>omega
    case rel=>exact⟨i+1,by go_num,by omega,HT',rfl⟩
   ·rw[if_neg hk]at HLb
    have HC:=hid (show chkN L=20 from by
     rw[chkN,if_neg];intro hall;rw[List.all_eq_true]at hall;exact hk (hall s HM.out))
    clear hk;go_wp2_with fail;with_reducible refine(HLb.out _).mono ?_
    rintro e w5 ⟨rfl,rfl⟩;go_wp2_with fail;go_ret;exact⟨by rw[HC.out];rfl,rfl⟩
  ·obtain rfl:i=n:=by omega
   have b6':decide (i<i)=false:=by simp
   have hall:L.all zap=true:=by
    rw[List.all_eq_true];have:=HT.out;rwa[←HN.out,List.take_length]at this
   by_cases h5:255<wn
   ·have b5:decide ((255:Int)<wn)=true:=by simp;omega
    have b5':decide (255<wn)=true:=by simp;omega
    have HC:=hid (show chkN L=21 from by rw[chkN,if_pos hall,HWN.out,if_pos h5]);clear hall h5;go_wp2_with fail;with_reducible refine HW.out.mono ?_
    rintro e w5 ⟨rfl,rfl⟩;go_wp2_with fail;go_ret;exact⟨by rw[HC.out];rfl,rfl⟩
   ·have b5:decide ((255:Int)<wn)=false:=by simp;omega
    have b5':decide (255<wn)=false:=by simp;omega
    have HC:=hid (show chkN L=0 from by rw[chkN,if_pos hall,HWN.out,if_neg h5]);clear hall h5;go_wp2_with fail;with_reducible refine HW.out.mono ?_
    rintro e w5 ⟨rfl,rfl⟩;go_wp2_with fail;go_ret;exact⟨by rw[HC.out];rfl,rfl⟩
theorem zxk(h:DD w p v l par own nm)(d:DN l par own nm)(ha:a=0∨a∈l)(hb:∀k∈b,k<256)(hb2:b.length≤1048576):Calls prog 258 #[.pointer (some ⟨p,0,none⟩),.int .i64 a,.string (zag b)] w fun e w'=>Fr [] w w'∧((∃x:Nat,e= .returned (.tuple #[.int .i64 x,.bool true])∧x∈l∧nm x=b.map lowB::nm a)∨(e= .returned (.tuple #[.int .i64 0,.bool false])∧∀x∈l,nm x≠b.map lowB::nm a)):=
 (ztd h (by rw[List.length_map];have:=d.few;omega) (fun d' hd=>by
  obtain⟨y,hy,rfl⟩:=List.mem_map.1 hd;exact d.bx y hy) a b hb hb2).mono fun e w' ⟨hf,h2⟩=>⟨h2,by
  rcases hf with⟨i,d',he,hd,h3,h4⟩|⟨he,hno⟩
  ·obtain⟨y,hy,rfl⟩:=List.mem_map.1 (List.mem_of_getElem? hd)
   exact .inl ⟨y,he,hy,by rw[d.sx y hy,show hdL nm y=b.map lowB from h4,show par y=a from h3]⟩
  ·refine .inr ⟨he,fun x hx e=> ?_⟩
   rw[d.sx x hx]at e;injection e with e1 e2;exact hno _ (List.mem_map_of_mem hx) (d.inj _ _ (d.ux x hx) ha e2) e1⟩
end
section
variable {w W : World} {l : List Nat} {par own : Nat → Nat} {nm : Nat → List (List Nat)} {x p a : Nat} {b : List Nat} {v : Value}
theorem zzo(h:DD w p v l par own nm)(d:DN l par own nm)(ad:Option Addr)(cap:Nat)(L:List (List Nat))(hA:StrA w ad L)(hb:zb4 L≤1000000):Calls prog 189 #[.pointer (some ⟨p,0,none⟩),.slice ad L.length cap] w fun e w'=>∃at_ k:Nat,e= .returned (.tuple #[.int .i64 at_,.int .i64 k])∧Kn l nm (lowN L) at_ k∧Fr [] w w':=by
 have HFi:=hid (fun W (hW:Fr [] w W) (a:Nat) (ha:a=0∨a∈l) (b:List Nat) (hb:∀k∈b,k<256) (hb2:b.length≤1048576)=>zxk (h.fr0 hW) d ha hb hb2);have HA:=hid hA;have HZ:=hid d.z0
 have H6:=hid (show∀s∈L,s.length≤1048576 from fun s hs=>by
  have h1:=List.append_of_mem hs;obtain⟨s1,s2,e⟩:=h1
  have:s.length≤zb4 L:=by
   rw[e,zb4,List.foldl_append,List.foldl_cons];exact Nat.le_trans (by omega) (zd0 s2 _)
  omega)
 have hle:L.length≤1000000:=by
  have:∀(L:List (List Nat)) (n:Nat),n+L.length≤L.foldl (fun n s=>n+(s.length+1)) n:=by
   intro L;induction L with
   |nil=>intro n;simp
   |cons s L ih=>
    intro n;have:=ih (n+(s.length+1));simp only[List.foldl_cons,List.length_cons];omega
  have:=this L 1;unfold zb4 at hb;omega
 obtain⟨n,hn⟩:∃n,L.length=n:=⟨_,rfl⟩;have HN:=hid hn;rw[hn]at hle⊢;clear h d hA hn hb;go_enter func189,ntmps189;have wn:IntKind.i64.wrap ((n:Int)-1)=((n:Int)-1):=i64_in _ (by omega);go_wp2_with fail;go_loopg [6,7,8] (n+1) (fun gk v6 v7 v8 W=>∃(a k:Nat) (i:Int),v6= .int .i64 a∧v7= .int .i64 k∧v8= .int .i64 i∧(k+gk=n+1∧k≤n∧i+k+1=n)∧Hid (a=0∨a∈l)∧Hid (nm a=sfx (lowN L) k)∧Hid (Fr [] w W));case atStart=>exact⟨0,0,(n:Int)-1,rfl,rfl,rfl,by omega,hid (.inl rfl),hid (by rw[HZ.out,zkl]),hid (Fr.refl [] w)⟩
 case round=>
  obtain⟨a,k,i,rfl,rfl,rfl,hi,HP,HE,F3⟩:=hrel;by_cases hlt:k<n
  ·have b6:decide (i≥0)=true:=by simp;omega
   have b6':decide (0≤i)=true:=by simp;omega
   have hL:n-1-k<L.length:=by rw[HN.out];omega
   obtain⟨g,o,rfl,hc,hg⟩:=HA.out.at_ (n-1-k) hL;have k1:=(F3.out.cell (p:=⟨g,o+(n-1-k),none⟩) hg (by simp)).trans hc;have hgd:L[n-1-k]?=some (L[n-1-k]'hL):=List.getElem?_eq_getElem hL;rw[hgd]at k1;simp only[Option.getD_some]at k1;have hs:=HA.out.lt _ (List.getElem_mem hL);have hs6:=H6.out _ (List.getElem_mem hL)
   have HSX:=hid (show sfx (lowN L) (k+1)=(L[n-1-k]'hL).map lowB::sfx (lowN L) k from by
    rw[zc3 (by rw[zas,HN.out];exact hlt)];congr 1;simp only[lowN,List.getElem_map,List.length_map,HN.out])
   generalize L[n-1-k]'hL=s at*;have hfi:=HFi.out _ F3.out a HP.out s hs hs6;have HLE:=hid (show k+1≤(lowN L).length from by rw[zas,HN.out];exact hlt);have e8:i=((n-1-k:Nat):Int):=by omega
   have w3:IntKind.i64.wrap ((k:Int)+1)=((k+1:Nat):Int):=i64_in _ (by omega);subst e8;have i0:(0:Int)≤((n-1-k:Nat):Int):=by omega
   have i1:((n-1-k:Nat):Int)<n:=by omega
   have w4:IntKind.i64.wrap (((n-1-k:Nat):Int)-1)=((n-1-k:Nat):Int)-1:=i64_in _ (by omega);have HI:=hid (show(((n-1-k:Nat):Int)-1)+(k+1:Nat)+1=n from by omega);generalize hix:n-1-k=ix at*;generalize zag s=S at*;clear hc hgd hs hs6;go_wp2_with fail;with_reducible refine hfi.mono ?_
   rintro e w5 ⟨f5,⟨x,rfl,hx,hnx⟩|⟨rfl,hno⟩⟩
   ·have F5:=hid (F3.out.trans f5)
    have HX:=hid (show x=0∨x∈l from .inr hx);have HNX:=hid (show nm x=sfx (lowN L) (k+1)from by rw[HSX.out,←HE.out];exact hnx);clear f5 hx hnx hfi k1;go_wp2_with fail;go_roundg (gk-1);case measure=>omega
    case rel=>exact⟨x,k+1,((ix:Nat):Int)-1,rfl,by go_num,by go_num,by have:=HI.out;omega,HX,HNX,F5⟩
   ·have HK:=hid (show Kn l nm (lowN L) a k from⟨Nat.le_trans (Nat.le_succ _) HLE.out,HP.out,HE.out,fun _ x hx e=>hno x hx (by rw[e,HSX.out,HE.out])⟩)
    have F5:=hid (F3.out.trans f5);clear f5 hno hfi k1;go_wp2_with fail;go_ret2;exact⟨a,k,rfl,HK.out,F5.out⟩
  ·obtain rfl:k=n:=by omega
   obtain rfl:i= -1:=by omega
   have b6:decide ((-1:Int)≥0)=false:=rfl;have HK:=hid (show Kn l nm (lowN L) a k from⟨by rw[zas,HN.out];exact Nat.le_refl _,HP.out,HE.out,fun hlt=>by rw[zas,HN.out]at hlt;omega⟩);go_wp2_with fail;go_ret2;exact⟨a,k,rfl,HK.out,F3.out⟩
def PinX(p:Nat)(v:Value)(w:World)(l:List Nat)(par own:Nat→Nat)(nm:Nat→List (List Nat))(ck:Nat)(N:List (List Nat))(e:Ending)(w':World):Prop:=
 Fr (ownS v) w w'∧((ck≠0∧e= .returned (.tuple #[.int .i64 0,.int .i64 0,.int .i64 ck])∧DD w' p v l par own nm)∨(ck=0∧ ∃at_ k:Nat,e= .returned (.tuple #[.int .i64 at_,.int .i64 k,.int .i64 0])∧Kn l nm N at_ k∧DD w' p v l par (ownP own at_) nm))
theorem DD.hold(h:IsD W p v l par (up (fun y=>own y+bel par l y) a (own a+bel par l a+1)) (hdL nm))(h0:a≠0):DD W p v l par (ownP own a) nm:=
 IsD.congr h (fun y hy=>⟨rfl,by
  rw[ownP,if_neg h0];by_cases e:y=a
  ·rw[e,zaa,zaa];omega
  ·rw[zac _ _ e,zac _ _ e],rfl⟩)
theorem xpin(h:DD w p v l par own nm)(d:DN l par own nm)(ad:Option Addr)(cap:Nat)(L:List (List Nat))(hA:StrA w ad L)(hb:zb4 L≤1000000)(ho:∀y,own y≤900000000):Calls prog 94 #[.pointer (some ⟨p,0,none⟩),.slice ad L.length cap] w (PinX p v w l par own nm (chkN L) (lowN L)):=by
 have hck:=zu8 w ad cap L hA (by omega);have hkn:=zzo h d ad cap L hA hb;have HD:=hid h;have HHo:=hid (fun W (hf:Fr [] w W) (a:Nat) (ha:a∈l)=>zn5 (IsN.fr0 h hf) d.nd (by have:=d.few;omega) ha (by have:=ho a;have:=zim par l a;have:=d.few;omega));obtain⟨n,hn⟩:∃n,L.length=n:=⟨_,rfl⟩;rw[hn]at hck hkn⊢;clear h d hA hn hb ho;generalize chkN L=ck at*;generalize lowN L=N at*;go_enter func94,ntmps94;go_wp2_with fail;with_reducible refine hck.mono ?_
 rintro e w1 ⟨rfl,rfl⟩;clear hck;by_cases hc:ck=0
 ·subst hc
  have b1:(((0:Nat):Int) !=0)=false:=rfl;go_wp2_with fail;with_reducible refine hkn.mono ?_
  rintro e w2 ⟨a,k,rfl,h1,f2⟩;have H1:=hid h1;have F2:=hid f2;clear hkn h1 f2;by_cases h0:a=0
  ·subst h0
   have HR:=hid (show DD w2 p v l par (ownP own 0) nm from by rw[ownP,if_pos rfl];exact HD.out.fr0 F2.out);go_wp2_with fail;go_ret3;exact⟨F2.out.nil,.inr ⟨rfl,0,k,rfl,H1.out,HR.out⟩⟩
  ·have b2:((a:Int) !=0)=true:=by rw[bne_iff_ne];omega
   have b2':(a !=0)=true:=by rw[bne_iff_ne];exact h0
   have hho:=HHo.out _ F2.out a (H1.out.pl.resolve_left h0);have H0:=hid h0;clear h0;go_wp2_with fail;with_reducible refine hho.mono ?_
   rintro e w3 ⟨rfl,h3,f3⟩;have H3:=hid (And.intro h3 f3);clear hho h3 f3;go_wp2_with fail;go_ret3;exact⟨F2.out.nil.trans H3.out.2,.inr ⟨rfl,a,k,rfl,H1.out,DD.hold H3.out.1 H0.out⟩⟩
 ·have b1:((ck:Int) !=0)=true:=by rw[bne_iff_ne];omega
  have b1':(ck !=0)=true:=by rw[bne_iff_ne];exact hc
  have HC:=hid hc;clear hc hkn;go_wp2_with fail;go_ret3;exact⟨Fr.refl _ _,.inl ⟨HC.out,rfl,HD.out⟩⟩
def DrpX(p:Nat)(v:Value)(w:World)(l:List Nat)(par own:Nat→Nat)(nm:Nat→List (List Nat))(e:Ending)(w':World):Prop:=
 ∃(n:Nat) (l1:List Nat) (v':Value),e= .returned (.tuple #[.int .i64 (n:Nat),.int .i64 0])∧DD w' p v' l1 par own nm∧Rem own par l l1∧n+l1.length=l.length∧Firm own par l1∧Nx p v w v' w'
theorem zzn(h:DD w p v l par own nm)(d:DN l par own nm)(hx:x∈l)(k:Nat)(ho:own x=k+1)(ho2:∀y,own y≤900000000):Calls prog 116 #[.pointer (some ⟨p,0,none⟩),.int .i64 x] w (DrpX p v w l par (up own x k) nm):=
 (zun (up own x k) par (hdL nm) p l.length rfl (by have:=d.few;omega) h ⟨d.nd,hx,fun y hy=>by
  by_cases e:y=x
  ·rw[e,if_pos rfl,zaa,ho];omega
  ·rw[if_neg e,zac _ _ e];rfl,fun y hy hne h0=>by
  rw[zac _ _ hne]at h0;exact d.firm y hy h0,d.ux,d.nz,fun y hy=>by
  by_cases e:y=x
  ·rw[e,zaa];have:=ho2 x;omega
  ·rw[zac _ _ e];exact ho2 y⟩).mono fun e w' ⟨n,l1,R1,v',h1,h2,h3,h4,h5,h6,h7⟩=>⟨n,l1,v',h1,IsD.congr h2 (fun y hy=>⟨rfl,(h5 y hy).symm,rfl⟩),h3,h4,h6,h7⟩
theorem z0k(h:DD w p v l par own nm)(d:DN l par own nm)(hx:x∈l)(k:Nat)(ho:own x=k+1)(ho2:∀y,own y≤900000000):Calls prog 41 #[.pointer (some ⟨p,0,none⟩),.int .i64 x] w (DrpX p v w l par (up own x k) nm):=by
 have hlet:=zzn h d hx k ho ho2;have hx0:=d.nz x hx;have b1:((x:Int)==0)=false:=by rw[beq_eq_false_iff_ne];omega
 have b1':(x==0)=false:=by rw[beq_eq_false_iff_ne];omega
 clear h d hx ho ho2 hx0;go_enter func41,ntmps41;go_wp2_with fail;with_reducible refine hlet.mono ?_
 rintro e w1 ⟨n,l1,v',rfl,h2⟩;have H2:=hid h2;clear h2 hlet;go_wp2_with fail;go_ret2;exact⟨n,l1,v',rfl,H2.out⟩
theorem zh2:Calls prog 41 #[.pointer (some ⟨p,0,none⟩),.int .i64 0] w fun e w'=>e= .returned (.tuple #[.int .i64 0,.int .i64 0])∧w'=w:=by
 go_enter func41,ntmps41;go_wp2_with fail;go_ret2;exact⟨rfl,rfl⟩
end
section
variable {w W : World} {l : List Nat} {par own : Nat → Nat} {nm : Nat → List (List Nat)} {x p a : Nat} {b s : List Nat} {v : Value}
theorem zs9(nm:Nat→List (List Nat))(x:Nat)(s:List Nat)(t:List (List Nat))(y:Nat):hdL (up nm x (s::t)) y=up (hdL nm) x s y:=by
 by_cases e:y=x
 ·rw[e,hdL,zaa,zaa];rfl
 ·rw[hdL,zac _ _ e,zac _ _ e];rfl
structure GrQ(l:List Nat)(par own:Nat→Nat)(x a:Nat):Prop where
 nx:x∉l
 x0:x≠0
 pa:a=0∨(a∈l∧own a≠0)
theorem GrQ.ne(g:GrQ l par own x a):a≠x:=fun e=>by
 rcases g.pa with h|⟨h,_⟩
 ·exact g.x0 (e.symm.trans h)
 ·exact g.nx (e▸h)
theorem GrQ.nez(g:GrQ l par own x a){z:Nat}(hz:z∈l):z≠x:=fun e=>g.nx (e▸hz)
theorem GrQ.bel0(g:GrQ l par own x a)(hu:∀y∈l,par y=0∨par y∈l):bel par l x=0:=by
 rcases Nat.eq_zero_or_pos (bel par l x)with h|h
 ·exact h
 ·obtain⟨z,hz,e⟩:=bel_pos.1 (by omega:bel par l x≠0)
  rcases hu z hz with h|h
  ·exact absurd (e.symm.trans h) g.x0
  ·exact absurd (e▸h) g.nx
theorem GrQ.bel(g:GrQ l par own x a)(y:Nat):bel (up par x a) (l++ [x]) y=bel par l y+(if a=y then 1 else 0):=by
 rw[zkn,zaa,zce (fun z hz=>zac _ _ (g.nez hz))]
theorem GrQ.firm(g:GrQ l par own x a)(hf:Firm own par l):Firm (ownG own x a) (up par x a) (l++ [x]):=fun y hy h0=>by
 by_cases ea:y=a
 ·exact⟨x,by simp,by rw[zaa,ea]⟩
 ·by_cases ex:y=x
  ·exfalso
   subst ex;unfold ownG at h0;split at h0
   ·rw[zaa]at h0;cases h0
   ·rw[zac _ _ ea,zaa]at h0;cases h0
  ·have h1:own y=0:=by
    unfold ownG at h0;split at h0
    ·rwa[zac _ _ ex]at h0
    ·rwa[zac _ _ ea,zac _ _ ex]at h0
   obtain⟨z,hz,e⟩:=hf y (by
    rcases List.mem_append.1 hy with h|h
    ·exact h
    ·exact absurd (List.mem_singleton.1 h) ex) h1
   exact⟨z,List.mem_append_left _ hz,by rw[zac _ _ (g.nez hz)];exact e⟩
theorem GrQ.root(g:GrQ l par own x 0)(hu:∀y∈l,par y=0∨par y∈l)(hz:∀y∈l,y≠0):∀y∈l++ [x],ownG own x 0 y+Go.Proofs.YtolhkhdbgnciiaaGreatDoor.bel (up par x 0) (l++ [x]) y=up (up (zg1 (fun y=>own y+Go.Proofs.YtolhkhdbgnciiaaGreatDoor.bel par l y) 0) x 0) x 1 y:=fun y hy=>by
 rw[g.bel,ownG,if_pos rfl,zg1,if_pos rfl];by_cases ex:y=x
 ·rw[ex,zaa,zaa,g.bel0 hu,if_neg (fun e=>g.x0 e.symm)]
 ·rw[zac _ _ ex,zac _ _ ex,zac _ _ ex]
  have hyl:y∈l:=by
   rcases List.mem_append.1 hy with h|h
   ·exact h
   ·exact absurd (List.mem_singleton.1 h) ex
  rw[if_neg (fun e=>hz y hyl e.symm)];rfl
theorem GrQ.letq(g:GrQ l par own x a)(h0:a≠0)(d:DN l par own nm)(ho:∀y,own y≤900000000):LetQ (l++ [x]) (up par x a) (ownG own x a) (up (up (zg1 (fun y=>own y+Go.Proofs.YtolhkhdbgnciiaaGreatDoor.bel par l y) a) x 0) x 1) a:=by
 obtain⟨hal,hoa⟩:=g.pa.resolve_left h0;have hne:=g.ne;refine⟨?_,List.mem_append_left _ hal,fun y hy=> ?_,fun y hy hya h=>g.firm d.firm y hy h,fun y hy=> ?_,fun y hy=> ?_,fun y hy=> ?_⟩
 ·rw[List.nodup_append]
  exact⟨d.nd,by simp,fun y hy z hz e=>by rw[List.mem_singleton]at hz;subst hz;exact g.nx (e▸hy)⟩
 ·rw[g.bel,ownG,if_neg h0,zg1,if_neg h0]
  by_cases ex:y=x
  ·rw[ex,zaa,zac _ _ hne.symm,zaa,g.bel0 d.ux,if_neg hne,if_neg hne.symm]
  ·rw[zac _ _ ex,zac _ _ ex]
   by_cases ea:y=a
   ·rw[ea,zaa,zaa,if_pos rfl];omega
   ·rw[zac _ _ ea,zac _ _ ea,zac _ _ ex,if_neg (fun e=>ea e.symm),if_neg ea];rfl
 ·rcases List.mem_append.1 hy with h|h
  ·rw[zac _ _ (g.nez h)]
   rcases d.ux y h with h|h
   ·exact .inl h
   ·exact .inr (List.mem_append_left _ h)
  ·rw[List.mem_singleton.1 h,zaa]
   exact .inr (List.mem_append_left _ hal)
 ·rcases List.mem_append.1 hy with h|h
  ·exact d.nz y h
  ·rw[List.mem_singleton.1 h];exact g.x0
 ·rw[ownG,if_neg h0]
  by_cases ea:y=a
  ·rw[ea,zaa];have:=ho a;omega
  ·rw[zac _ _ ea]
   by_cases ex:y=x
   ·rw[ex,zaa];omega
   ·rw[zac _ _ ex];exact ho y
def GwX(p:Nat)(v:Value)(w:World)(l:List Nat)(par own:Nat→Nat)(nm:Nat→List (List Nat))(x a:Nat)(s:List Nat)(e:Ending)(w':World):Prop:=
 ∃v',e= .returned (.int .i64 0)∧DD w' p v' (l++ [x]) (up par x a) (ownG own x a) (up nm x (s::nm a))∧Nx p v w v' w'
theorem z1q(h:DD w p v l par own nm)(d:DN l par own nm)(g:GrQ l par own x a)(hb:∀k∈b,k<256)(hk:zap b=true)(hno:∀y∈l,nm y≠b.map lowB::nm a)(ho:∀y,own y≤900000000):Calls prog 97 #[.pointer (some ⟨p,0,none⟩),.int .i64 a,.int .i64 x,.string (zag b)] w (GwX p v w l par own nm x a (b.map lowB)):=by
 have hfew:=d.few;have hmk:=zxy h d.nd (by omega) d.bx g.nx (g.pa.imp id (·.1)) (by have:=ho a;have:=zim par l a;omega) hb hk (fun y hy hp e=>hno y hy (by rw[d.sx y hy,e,hp]));have hlen:(l++ [x]).length=l.length+1:=by simp
 have hnd:(l++ [x]).Nodup:=by
  rw[List.nodup_append];exact⟨d.nd,by simp,fun y hy z hz e=>by rw[List.mem_singleton]at hz;subst hz;exact g.nx (e▸hy)⟩
 have HHo:=hid (fun W v' (hW:IsD W p v' (l++ [x]) (up par x a) (up (zg1 (fun y=>own y+bel par l y) a) x 0) (up (hdL nm) x (b.map lowB)))=>by
  have:=zn5 (x:=x) hW hnd (by omega) (by simp) (by rw[zaa];omega);rwa[zaa]at this)
 have HLt:=hid (fun(h0:a≠0) W v' (hW:IsD W p v' (l++ [x]) (up par x a) (up (up (zg1 (fun y=>own y+bel par l y) a) x 0) x 1) (up (hdL nm) x (b.map lowB)))=>zun (ownG own x a) (up par x a) (up (hdL nm) x (b.map lowB)) p (l++ [x]).length rfl (by omega) hW (g.letq h0 d ho));have HL1:=hid (fun l1 (hr:Rem (ownG own x a) (up par x a) (l++ [x]) l1) (hf:Firm (ownG own x a) (up par x a) l1)=>hr.uniq (.refl _) hf (g.firm d.firm) hnd);have HG:=hid g;have HD:=hid d;have hax:=g.ne;generalize zag b=S at*;generalize b.map lowB=s at*;clear h d g hb hk hno ho hfew hlen hnd;go_enter func97,ntmps97;go_wp2_with fail;with_reducible refine hmk.mono ?_
 rintro e w1 ⟨v1,rfl,h1,n1⟩;have hho:=HHo.out _ _ h1;have N1:=hid n1;clear hmk h1 n1;go_wp2_with fail;with_reducible refine hho.mono ?_
 rintro e w2 ⟨rfl,h2,f2⟩;have N2:=hid (N1.out.trans ⟨f2.mono (fun k hk=> .inl (List.mem_cons_of_mem p hk)),fun k hk=> .inl hk⟩);have H2:=hid h2;clear hho h2 f2;by_cases h0:a=0
 ·subst h0
  have HR:=hid (show DD w2 p v1 (l++ [x]) (up par x 0) (ownG own x 0) (up nm x (s::nm 0))from IsD.congr H2.out (fun y hy=>⟨rfl,HG.out.root HD.out.ux HD.out.nz y hy,zs9 nm x s _ y⟩));clear HLt;go_wp2_with fail;go_ret;exact⟨v1,rfl,HR.out,N2.out⟩
 ·have b1:((a:Int) !=0)=true:=by rw[bne_iff_ne];omega
  have b1':(a !=0)=true:=by rw[bne_iff_ne];exact h0
  have hlt:=HLt.out h0 _ _ H2.out;clear h0;go_wp2_with fail;with_reducible refine hlt.mono ?_
  rintro e w3 ⟨k,l1,R1,v3,rfl,h3,h4,-,h5,h6,h7⟩;obtain rfl:=HL1.out l1 h4 h6;have HR:=hid (show DD w3 p v3 (l++ [x]) (up par x a) (ownG own x a) (up nm x (s::nm a))from IsD.congr h3 (fun y hy=>⟨rfl,(h5 y hy).symm,zs9 nm x s _ y⟩));have N3:=hid (N2.out.trans h7);clear h3 h4 h5 h6 h7 hlt;go_wp2_with fail;go_ret;exact⟨v3,rfl,HR.out,N3.out⟩
end
section
end
section
end
section
variable {w0 w W W' : World} {q : MH} {u0 : EW} {l : List Nat} {par refs own : Nat → Nat} {B : Nat → List Nat} {nm : Nat → List (List Nat)} {fr x p at_ : Nat} {b : List Nat} {v : Value} {N : List (List Nat)} {k j : Nat} {lj : List Nat} {parj : Nat → Nat} {nmj : Nat → List (List Nat)} {frj : Nat}
theorem GwI.undo0(g:GwI w0 q u0 l par own nm N k j 0 lj parj nmj frj W)(hk:k+j≤N.length):CP w0 q u0 l par own nm frj W:=by
 have h0:k+j=0:=by
  have:=congrArg List.length g.ew;rw[g.cp.z,zed hk]at this;exact this.symm
 have hl:l=lj:=g.rem.sub.eq_of_length (by rw[g.len];omega);have:=g.cp;rw[←hl]at this;exact this.congr (fun y hy=>(g.pa y hy).symm) (fun y=>by unfold ownP;rw[if_pos rfl]) (fun y hy=>(g.na y hy).symm)
theorem zu5(h:CP w0 q u0 l par own nm fr W)(hb:∀k∈b,k<256)(hk:zap b=true):Calls prog 95 #[.string (zag b)] W fun e w'=>e= .returned (.tuple #[.int .i64 (clsN (16+b.length)),.int .i64 0])∧Fr [] W w':=by
 obtain⟨refs,B,⟨S,L,u,E,B0,g,_⟩,_⟩:=h;have:=ztv g.wb.h.m.tab b hb;rw[if_pos hk]at this;exact this
theorem StrA.frN{S:List Nat}{ad:Option Addr}{L:List (List Nat)}(h:StrA w ad L)(hf:Fr S w W)(hS:0<L.length→∀g o,ad=some ⟨g,o,none⟩→g∉S):StrA W ad L:=
 ⟨fun i hi=>by
  obtain⟨g,o,ha,hc,hg⟩:=h.at_ i hi;exact⟨g,o,ha,(hf.cell (p:=⟨g,o+i,none⟩) hg (hS (by omega) g o ha)).trans hc,Nat.lt_of_lt_of_le hg hf.size⟩,h.lt,h.each,h.len⟩
theorem zp1(hx0:x≠0)(h0:own x=0)(hp:at_≠x):ownG (ownP own at_) x at_=ownP own x:=funext fun y=>by
 by_cases ha:at_=0
 ·subst ha
  unfold ownG;rw[if_pos rfl];by_cases e:y=x
  ·subst e
   rw[zaa,zbe _ hx0,h0]
  ·rw[zac _ _ e,zbr _ e]
   unfold ownP;rw[if_pos rfl]
 ·unfold ownG
  rw[if_neg ha];by_cases e:y=x
  ·subst e
   rw[zac _ _ (fun e=>hp e.symm),zaa,zbe _ hx0,h0]
  ·by_cases e2:y=at_
   ·subst e2
    rw[zaa,zbe _ ha,zbr _ e];omega
   ·rw[zac _ _ e2,zac _ _ e,zbr _ e,zbr _ e2]
theorem GwI.back(g:GwI w0 q u0 l par own nm N k j at_ lj parj nmj frj W')(h:DD W p v l parj own nmj):DD W p v l par own nm:=
 IsD.congr h (fun y hy=>⟨(g.pa y hy).symm,by rw[zce (fun z hz=>(g.pa z hz).symm)],by rw[hdL,hdL,g.na y (.inr hy)]⟩)
theorem GwI.undoD(g:GwI w0 q u0 l par own nm N k j at_ lj parj nmj frj W')(hF:Firm own par l)(hat:at_≠0){l1:List Nat}(h1:DD W p v l1 parj (up (ownP own at_) at_ (own at_)) nmj)(h2:Rem (up (ownP own at_) at_ (own at_)) parj lj l1)(h3:Firm (up (ownP own at_) at_ (own at_)) parj l1):DD W p v l par own nm:=by
 have eo:up (ownP own at_) at_ (own at_)=own:=funext fun y=>by
  by_cases e:y=at_
  ·rw[e,zaa]
  ·rw[zac _ _ e,zbr _ e]
 rw[eo]at h1 h2 h3
 have hF':Firm own parj l:=fun y hy h0=>by
  obtain⟨z,hz,e⟩:=hF y hy h0;exact⟨z,hz,by rw[g.pa z hz];exact e⟩
 have hl:l1=l:=h2.uniq g.rem h3 hF' g.cp.nd;subst hl;exact g.back h1
theorem GwI.undoD0(g:GwI w0 q u0 l par own nm N k j 0 lj parj nmj frj W')(hk:k+j≤N.length)(h1:DD W p v lj parj (ownP own 0) nmj):DD W p v l par own nm:=by
 have h0:k+j=0:=by
  have:=congrArg List.length g.ew;rw[g.cp.z,zed hk]at this;exact this.symm
 have hl:l=lj:=g.rem.sub.eq_of_length (by rw[g.len];omega);rw[←hl]at h1;have eo:ownP own 0=own:=by unfold ownP;rw[if_pos rfl]
 rw[eo]at h1;exact g.back h1
end
end Go.Proofs.YtolhkhdbgnciiaaGreatDoor
