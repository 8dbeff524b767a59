/- Several texts in one. -/
import Derived.Test.YtghllbkjghnmhaaGreatDoorMJ
import Derived.Lib.SmallJoins
namespace Go.Proofs.YtghllbkjghnmhaaGreatDoor
open _root_.Go.Proofs.Tryz
open Go.Lib (hid)
open Go.IntWalk (i64_in)
set_option linter.unusedVariables false
set_option linter.unusedSimpArgs false
open Go.RowKit
set_option maxRecDepth 100000
set_option maxHeartbeats 8000000
structure ED where
 y:Nat
 p:Nat
 ty:Nat
 en:Nat
 ad:Option Addr
 n:Nat
 cp:Nat
 us:Bool
def ED.cells(b:ED):Array Value:= #[.int .i64 b.y,.int .i64 b.p,.int .u16 b.ty,.int .u64 b.en,.slice b.ad b.n b.cp,.bool b.us]
theorem z1z:(prog.info? 82).map (fun i=>(i.zero,i.size,i.bytes))=some (some (.agg #[(0:Int),(0:Int),.int .u16 0,.int .u64 0,.slice none 0 0,false]),6,64):=by kernel_rfl
theorem z12:∃i,prog.info? 82=some i∧i.zero=some (.agg #[(0:Int),(0:Int),.int .u16 0,.int .u64 0,.slice none 0 0,false])∧i.size=6∧i.bytes=64:=by
 have h:=z1z;cases e:prog.info? 82 with
 |none=>rw[e]at h;cases h
 |some i=>
  rw[e]at h;simp at h;exact⟨i,rfl,h.1,h.2.1,h.2.2⟩
def ED.cl(b:ED):List Value:= [.int .i64 b.y,.int .i64 b.p,.int .u16 b.ty,.int .u64 b.en,.slice b.ad b.n b.cp,.bool b.us]
theorem ED.cl_len(b:ED):b.cl.length=6:=rfl
def edL:List ED→List Value
 | [] => []
 |b::l=>b.cl++edL l
theorem z13:∀l:List ED,(edL l).length=l.length*6
 | [] =>rfl
 |b::l=>by rw[edL,List.length_append,z13 l,ED.cl_len,List.length_cons];omega
theorem z14:∀l m:List ED,edL (l++m)=edL l++edL m
 | [],m=>rfl
 |b::l,m=>by rw[List.cons_append,edL,edL,z14 l m,List.append_assoc]
theorem z15:∀(l:List ED) (i:Nat) (hi:i<l.length) (j:Nat),j<6→(edL l)[i*6+j]?=l[i].cl[j]?
 |b::l,0,hi,j,hj=>by
  rw[edL,Nat.zero_mul,Nat.zero_add,List.getElem?_append_left (by rw[ED.cl_len];exact hj)];rfl
 |b::l,i+1,hi,j,hj=>by
  rw[edL,List.getElem?_append_right (by rw[ED.cl_len];omega),ED.cl_len,show(i+1)*6+j-6=i*6+j by omega,z15 l i (by simpa using hi) j hj];rfl
theorem z16:∀(l:List ED),∀u∈edL l,u.oneCell'=true
 | [],u,hu=>by cases hu
 |b::l,u,hu=>by
  rw[edL]at hu;rcases List.mem_append.1 hu with hu|hu
  ·simp only[ED.cl,List.mem_cons,List.not_mem_nil,or_false]at hu
   rcases hu with rfl|rfl|rfl|rfl|rfl|rfl<;>rfl
  ·exact z16 l u hu
def Rke(W:World)(base:Nat)(v:Value)(L:List ED):Prop:=W.ownsRow base 82 6 v L.length (edL L)
theorem Rke.lt{W:World}{base:Nat}{v:Value}{L:List ED}(h:Rke W base v L)(g:Nat)(e:v.ownBlock=some g):base≤g∧g<W.heap.size:=by
 obtain⟨_,⟨rfl,_⟩|⟨g',cap,cur,rfl,hb,hg,_⟩⟩:=h
 ·cases e
 ·injection e with e
  have e:g'=g:=e;subst e;exact⟨hb,(Array.getElem?_eq_some_iff.1 hg).1⟩
theorem Rke.fr{W W':World}{base:Nat}{v:Value}{L:List ED}{S:List Nat}(h:Rke W base v L)(hf:Fr S W W')(hS:∀k∈S,v.ownBlock≠some k):Rke W' base v L:=by
 obtain⟨h1,⟨h2,h3⟩|⟨g,cap,cur,rfl,hb,hg,r1,r2,r3,r4⟩⟩:=h
 ·exact⟨h1,.inl ⟨h2,h3⟩⟩
 ·exact⟨h1,.inr ⟨g,cap,cur,rfl,hb,(hf.block g (Array.getElem?_eq_some_iff.1 hg).1 (fun hm=>hS g hm rfl)).trans hg,r1,r2,r3,r4⟩⟩
theorem Rke.fr0{W W':World}{base:Nat}{v:Value}{L:List ED}(h:Rke W base v L)(hf:Fr [] W W'):Rke W' base v L:=h.fr hf (by simp)
theorem Rke.frq{W W':World}{base:Nat}{v:Value}{L:List ED}{S:List Nat}(h:Rke W base v L)(hf:Fr S W W')(hS:∀k∈S,k<base):Rke W' base v L:=h.fr hf (fun k hk e=>by
 have:=(h.lt k e).1;have:=hS k hk;omega)
theorem Rke.lo{W:World}{base base':Nat}{v:Value}{L:List ED}(h:Rke W base' v L)(hb:base≤base'):Rke W base v L:=by
 obtain⟨h1,⟨h2,h3⟩|⟨g,cap,cur,rfl,hb',hg,r⟩⟩:=h
 ·exact⟨h1,.inl ⟨h2,h3⟩⟩
 ·exact⟨h1,.inr ⟨g,cap,cur,rfl,Nat.le_trans hb hb',hg,r⟩⟩
theorem Rke.nil(W:World)(base:Nat):Rke W base (.slice none 0 0) [] :=⟨rfl,.inl ⟨rfl,rfl⟩⟩
def RowKe(w:World)(g cap:Nat)(l:List ED):Prop:= ∃cur,Blk w g 82 cur∧cur.size=cap*6∧l.length≤cap∧cur.toList.take (l.length*6)=edL l
theorem RowKe.fr{w w':World}{g cap:Nat}{l:List ED}{S:List Nat}(h:RowKe w g cap l)(hf:Fr S w w')(hg:g∉S):RowKe w' g cap l:=by
 obtain⟨cur,hb,h1,h2,h3⟩:=h;exact⟨cur,hb.fr hf hg,h1,h2,h3⟩
theorem RowKe.le{w:World}{g cap:Nat}{l:List ED}(h:RowKe w g cap l):l.length≤cap:=by
 obtain⟨cur,_,_,h2,_⟩:=h;exact h2
theorem RowKe.cell{w:World}{g cap:Nat}{l:List ED}(h:RowKe w g cap l)(i:Nat)(hi:i<l.length)(j:Nat)(hj:j<6):w.cell? ⟨g,i*6+j,none⟩=l[i].cl[j]?:=by
 obtain⟨cur,hb,_,_,h3⟩:=h;rw[hb.cell,←z15 l i hi j hj,←h3,List.getElem?_take_of_lt (by omega),Array.getElem?_toList]
theorem Rke.row{W:World}{base:Nat}{v:Value}{L:List ED}(h:Rke W base v L):∃ad cap,v= .slice ad L.length cap∧(0<L.length→∃g,ad=some ⟨g,0,none⟩∧base≤g∧RowKe W g cap L):=by
 obtain⟨_,⟨h2,h3⟩|⟨g,cap,cur,rfl,hb,hg,r1,_,r3,r4⟩⟩:=h
 ·exact⟨none,0,by rw[h2,h3],fun h=>by omega⟩
 ·exact⟨_,cap,rfl,fun _=>⟨g,rfl,hb,⟨cur,hg,r3,r1,r4⟩⟩⟩
theorem z17(g o j:Nat):(⟨g,o,none⟩:Addr).add j=⟨g,o+j,none⟩:=by unfold Addr.add;split<;>simp_all
theorem z18(w:World)(base:Nat)(v:Value)(l:List ED)(h:Rke w base v l)(A:Option Addr)(c:Nat)(m:List ED)(hm:0<m.length→∃g o,A=some ⟨g,o,none⟩∧∀j (hj:j<m.length) i,i<6→w.cell? ⟨g,o+(j*6+i),none⟩=m[j].cl[i]?)(hl:l.length+m.length≤1048576)(hbase:base≤w.heap.size):∃v' w',(Builtin.append_ #[72,72] 72 #[v,.slice A m.length c]).run prog w= .ok v' w'∧Rke w' base v' (l++m)∧w.grownBy w' v.ownBlock∧(v'.ownBlock=v.ownBlock∨v'.ownBlock=some w.heap.size):=by
 obtain⟨i,hi,hz,hs,hb⟩:=z12;rcases A with _|ad
 ·have hm0:m= [] :=by
   rcases m with _|⟨x,m⟩
   ·rfl
   ·obtain⟨g,o,e,_⟩:=hm (by simp)
    cases e
  subst hm0;refine⟨v,w,?_,by simpa using h,World.grownBy.refl w _,.inl rfl⟩;obtain⟨h1,⟨rfl,h2⟩|⟨g,cap,cur,rfl,_,_,hc,_⟩⟩:=h
  ·have:l= [] :=List.eq_nil_of_length_eq_zero h2
   subst this;simp[Builtin.append_,run_underlying underlying72,sizeOf,typeInfo,hi,Builtin.lenOf,Builtin.firstCells]
  ·simp[Builtin.append_,run_underlying underlying72,sizeOf,typeInfo,hi,Builtin.lenOf,Builtin.firstCells,hc,storeCells]
 ·have hcells:∀j u,(edL m)[j]?=some u→w.cell? (ad.add j)=some u:=by
   intro j u hu;have hj:=(List.getElem?_eq_some_iff.1 hu).1;rw[z13]at hj;obtain⟨g,o,e,hc⟩:=hm (by omega);injection e with e;subst e;have hj2:j/6<m.length:=by omega
   rw[z17,show o+j=o+(j/6*6+j %6)by omega,hc (j/6) hj2 (j %6) (by omega),←z15 m (j/6) hj2 (j %6) (by omega),show j/6*6+j %6=j by omega,hu]
  obtain⟨v',w',hrun,h2,h3,_,h5⟩:=run_append_own_at (P:=prog) w base 72 72 82 i (.agg #[(0:Int),(0:Int),.int .u16 0,.int .u64 0,.slice none 0 0,false]) 6 64 underlying72 hi hz hs hb rfl (by decide) v l.length (edL l) h ad m.length c (edL m) (z13 m) hcells (z16 m) (by unfold maxLen;omega) (by omega) hbase;refine⟨v',w',hrun,?_,h3,h5⟩;unfold Rke;rw[List.length_append,z14];exact h2
theorem z19(w:World):Rke (w.alloc (.cells #[] 82)) w.heap.size (.slice (some ⟨w.heap.size,0,none⟩) 0 0) [] :=
 ⟨rfl,.inr ⟨_,0,#[],rfl,Nat.le_refl _,Blk.new _ _ _,Nat.le_refl _,by unfold maxLen;omega,rfl,rfl⟩⟩
theorem Rke.grow{w W W':World}{base:Nat}{v:Value}{l:List ED}(h:Rke W base v l)(hg:W.grownBy W' v.ownBlock)(hf:Fr [] w W)(hb:w.heap.size≤base):Fr [] w W':=
 ⟨hg.os.trans hf.os,hg.tape.trans hf.tape,hg.output.trans hf.output,Nat.le_trans hf.size hg.size,fun k hk hn=>(hg.block k (Nat.lt_of_lt_of_le hk hf.size) (fun e=>by
  have:=(h.lt k e.symm).1;omega)).trans (hf.block k hk hn)⟩
def cutE(L:List ED)(k:Nat):List ED:=L.take k++L.drop (k+1)
theorem z2a{w:World}{L:List ED}{g cap k:Nat}(hr:RowKe w g cap L)(hk:k<L.length)(hl:L.length≤1048576):∃v1 w1 v2 w2,(Builtin.append_ #[72,72] 72 #[.slice (some ⟨w.heap.size,0,none⟩) 0 0,.slice (some ⟨g,0,none⟩) k cap]).run prog (w.alloc (.cells #[] 82)).drew= .ok v1 w1
   ∧(Builtin.append_ #[72,72] 72 #[v1,.slice (if cap-(k+1)=0 then some ⟨g,0,none⟩else some ⟨g,(k+1)*6,none⟩) (L.length-(k+1)) (cap-(k+1))]).run prog w1= .ok v2 w2
   ∧Rke w2 w.heap.size v2 (cutE L k)∧Fr [] w w2:=by
 have hO0:Rke (w.alloc (.cells #[] 82)).drew w.heap.size (.slice (some ⟨w.heap.size,0,none⟩) 0 0) [] :=z19 w
 have f0:Fr [] w (w.alloc (.cells #[] 82)).drew:=((Fr.refl [] w).alloc _).drew
 have hl1:(L.take k).length=k:=by rw[List.length_take];omega
 have hl2:(L.drop (k+1)).length=L.length-(k+1):=List.length_drop
 have hcap:=hr.le
 obtain⟨v1,w1,e1,hO1,g1,_⟩:=z18 _ _ _ [] hO0 (some ⟨g,0,none⟩) cap (L.take k) (fun _=>⟨g,0,rfl,fun j hj i hi=>by
  rw[hl1]at hj
  have:=(hr.fr f0 (by simp)).cell j (by omega) i hi
  rw[Nat.zero_add,this,List.getElem_take]⟩) (by rw[hl1];simp;omega) f0.size
 rw[hl1]at e1
 rw[List.nil_append]at hO1
 have f1:Fr [] w w1:=hO0.grow g1 f0 (Nat.le_refl _)
 obtain⟨v2,w2,e2,hO2,g2,_⟩:=z18 w1 w.heap.size v1 (L.take k) hO1 (if cap-(k+1)=0 then some ⟨g,0,none⟩else some ⟨g,(k+1)*6,none⟩) (cap-(k+1)) (L.drop (k+1)) (fun h0=>by
  rw[hl2]at h0
  refine⟨g,(k+1)*6,by rw[if_neg (by omega)],fun j hj i hi=> ?_⟩
  rw[hl2]at hj
  have:=(hr.fr f1 (by simp)).cell (k+1+j) (by omega) i hi
  rw[show(k+1)*6+(j*6+i)=(k+1+j)*6+i by omega,this,List.getElem_drop]) (by rw[hl1,hl2];omega) f1.size
 rw[hl2]at e2
 exact⟨v1,w1,v2,w2,e1,e2,hO2,hO1.grow g2 f1 (Nat.le_refl _)⟩
structure IsE(w:World)(p:Nat)(v:Value)(pn pr:Nat)(L:List ED):Prop where
 st:Blk w p 74 #[v,some pn,some pr]
 r:Rke w (p+1) v L
section
variable{w w' W:World}{p pn pr:Nat}{v:Value}{L:List ED}{x:Nat}
theorem IsE.fr{S:List Nat}(h:IsE w p v pn pr L)(hf:Fr S w w')(hp:p∉S)(hS:∀k∈S,v.ownBlock≠some k):IsE w' p v pn pr L:=⟨h.st.fr hf hp,h.r.fr hf hS⟩
theorem IsE.row(h:IsE w p v pn pr L):∃ad cap,v= .slice ad L.length cap∧(0<L.length→∃g,ad=some ⟨g,0,none⟩∧p+1≤g∧RowKe w g cap L):=h.r.row
theorem RowKe.six{g cap:Nat}(h:RowKe w g cap L){i:Nat}{d:ED}(hi:L[i]?=some d):w.cell? ⟨g,i*6,none⟩=some (.int .i64 d.y)∧w.cell? ⟨g,i*6+1,none⟩=some (.int .i64 d.p)∧w.cell? ⟨g,i*6+2,none⟩=some (.int .u16 d.ty)∧w.cell? ⟨g,i*6+3,none⟩=some (.int .u64 d.en)∧w.cell? ⟨g,i*6+4,none⟩=some (.slice d.ad d.n d.cp)∧w.cell? ⟨g,i*6+5,none⟩=some (.bool d.us):=by
 obtain⟨hlt,e⟩:=List.getElem?_eq_some_iff.1 hi;have h0:=h.cell i hlt 0 (by decide);have h1:=h.cell i hlt 1 (by decide);have h2:=h.cell i hlt 2 (by decide);have h3:=h.cell i hlt 3 (by decide);have h4:=h.cell i hlt 4 (by decide);have h5:=h.cell i hlt 5 (by decide);rw[e]at h0 h1 h2 h3 h4 h5;exact⟨h0,h1,h2,h3,h4,h5⟩
def AtE(L:List ED)(x:Nat)(e:Ending):Prop:=(∃(i:Nat) (d:ED),e= .returned (i:Nat)∧L[i]?=some d∧d.y=x)∨(e= .returned (.int .i64 (-1))∧ ∀d∈L,d.y≠x)
theorem xeat(h:IsE w p v pn pr L)(hl:L.length≤100000)(x:Nat):Calls prog 28 #[some p,x] w fun e w'=>AtE L x e∧w'=w:=by
 obtain⟨ad,cap,rfl,hrow⟩:=h.row;have hst:=h.st.cell 0;simp at hst;have HR:=hid hrow;obtain⟨n,hn⟩:∃n,L.length=n:=⟨_,rfl⟩;have HN:=hid hn;rw[hn]at hst hl;clear h hrow hn;go_in;go_wp2;go_loopg [5] (n+1) (fun gk v5 W=>∃i:Nat,v5= .int .i64 i∧(i+gk=n+1∧i≤n)∧Hid (∀d∈L.take i,d.y≠x)∧w=W);case atStart=>exact⟨0,rfl,by omega,hid (fun d hd=>by simp at hd),rfl⟩
 case round=>
  obtain⟨i,rfl,hi,HD,rfl⟩:=hrel;by_cases hlt:i<n
  ·have b6':=dT (i<n)
   obtain⟨d,hd⟩:∃d,L[i]?=some d:=⟨_,List.getElem?_eq_getElem (by rw[HN.out];exact hlt)⟩;obtain⟨g,rfl,_,hr⟩:=HR.out (by rw[HN.out];omega);have c0:=(hr.six hd).1;have HDd:=hid hd;have i0:(0:Int)≤i:=by omega
   have i1:(i:Int)<n:=by omega
   have wi:=i6 ((i:Int)+1);clear hr hd;by_cases hx:d.y=x
   ·have HX:=hid hx
    have b1:((d.y:Int)==(x:Int))=true:=by simp;omega
    have b1':(d.y==x)=true:=by simp;omega
    clear hx;go_wp2;go_ret;exact⟨.inl ⟨i,d,rfl,HDd.out,HX.out⟩,rfl⟩
   ·have HD':=hid (show∀d∈L.take (i+1),d.y≠x from fun d' hd'=>by
     rw[List.take_add_one,HDd.out,Option.toList_some]at hd';rcases List.mem_append.1 hd' with h|h
     ·exact HD.out d' h
     ·rw[List.mem_singleton]at h;rw[h];exact hx)
    have b1:((d.y:Int)==(x:Int))=false:=by simp;omega
    have b1':(d.y==x)=false:=by simp;omega
    clear hx;go_wp2;go_roundg (gk-1);case measure=>omega
    case rel=>exact⟨i+1,by go_num,by omega,HD',rfl⟩
  ·obtain rfl:i=n:=by omega
   have HNo:=hid (show∀d∈L,d.y≠x from by have:=HD.out;rwa[←HN.out,List.take_length]at this);go_wp2;go_ret;exact⟨.inr ⟨rfl,HNo.out⟩,rfl⟩
def FndE(L:List ED)(a ty:Nat)(e:Ending):Prop:=(∃(i:Nat) (d:ED),e= .returned (.tuple #[(d.y:Nat),true])∧L[i]?=some d∧d.p=a∧d.ty=ty)∨(e= .returned (.tuple #[(0:Int),false])∧ ∀d∈L,d.p=a→d.ty≠ty)
theorem z2b(h:IsE w p v pn pr L)(hl:L.length≤100000)(a ty:Nat):Calls prog 31 #[some p,a,.int .u16 ty] w fun e w'=>FndE L a ty e∧w'=w:=by
 obtain⟨ad,cap,rfl,hrow⟩:=h.row;have hst:=h.st.cell 0;simp at hst;have HR:=hid hrow;obtain⟨n,hn⟩:∃n,L.length=n:=⟨_,rfl⟩;have HN:=hid hn;rw[hn]at hst hl;clear h hrow hn;go_in;go_wp2;go_loopg [8] (n+1) (fun gk v8 W=>∃i:Nat,v8= .int .i64 i∧(i+gk=n+1∧i≤n)∧Hid (∀d∈L.take i,d.p=a→d.ty≠ty)∧w=W);case atStart=>exact⟨0,rfl,by omega,hid (fun d hd=>by simp at hd),rfl⟩
 case round=>
  obtain⟨i,rfl,hi,HD,rfl⟩:=hrel;by_cases hlt:i<n
  ·have b6':=dT (i<n)
   obtain⟨d,hd⟩:∃d,L[i]?=some d:=⟨_,List.getElem?_eq_getElem (by rw[HN.out];exact hlt)⟩;obtain⟨g,rfl,_,hr⟩:=HR.out (by rw[HN.out];omega);obtain⟨c0,c1,c2,-⟩:=hr.six hd;have HDd:=hid hd;have i0:(0:Int)≤i:=by omega
   have i1:(i:Int)<n:=by omega
   have wi:=i6 ((i:Int)+1);clear hr hd;by_cases hx:d.p=a∧d.ty=ty
   ·have HX:=hid hx
    have b1:((d.p:Int)==(a:Int))=true:=by simp;omega
    have b1':(d.p==a)=true:=by simp;omega
    have b2:((d.ty:Int)==(ty:Int))=true:=by simp;omega
    have b2':(d.ty==ty)=true:=by simp;omega
    clear hx;go_wp2;go_ret2;exact⟨.inl ⟨i,d,rfl,HDd.out,HX.out⟩,rfl⟩
   ·have HD':=hid (show∀d∈L.take (i+1),d.p=a→d.ty≠ty from fun d' hd'=>by
     rw[List.take_add_one,HDd.out,Option.toList_some]at hd';rcases List.mem_append.1 hd' with h|h
     ·exact HD.out d' h
     ·rw[List.mem_singleton]at h;rw[h];exact fun e1 e2=>hx ⟨e1,e2⟩)
    by_cases h1:d.p=a
    ·have b1:((d.p:Int)==(a:Int))=true:=by simp;omega
     have b1':(d.p==a)=true:=by simp;omega
     have b2:((d.ty:Int)==(ty:Int))=false:=by simp;omega
     have b2':(d.ty==ty)=false:=by simp;omega
     clear hx;go_wp2;go_roundg (gk-1);case measure=>omega
     case rel=>exact⟨i+1,by go_num,by omega,HD',rfl⟩
    ·have b1:((d.p:Int)==(a:Int))=false:=by simp;omega
     have b1':(d.p==a)=false:=by simp;omega
     clear hx h1;go_wp2;go_roundg (gk-1);case measure=>omega
     case rel=>exact⟨i+1,by go_num,by omega,HD',rfl⟩
  ·obtain rfl:i=n:=by omega
   have HNo:=hid (show∀d∈L,d.p=a→d.ty≠ty from by have:=HD.out;rwa[←HN.out,List.take_length]at this);go_wp2;go_ret2;exact⟨.inr ⟨rfl,HNo.out⟩,rfl⟩
end
theorem IsG.frS{W W':World}{p cap b:Nat}{ad:Option Addr}{R S:List Nat}(h:IsG W p ad cap R b)(hf:Fr S W W')(hp:p∉S)(hr:0<R.length→∀g o,ad=some ⟨g,o,none⟩→g∉S):IsG W' p ad cap R b:=
 ⟨h.st.fr hf hp,fun h0=>by
  obtain⟨g,e,hb,r⟩:=h.row h0;exact⟨g,e,hb,r.fr hf (hr h0 g 0 e)⟩⟩
def blkA(R:List Nat)(ad:Option Addr):List Nat:=if 0<R.length then(match ad with|some a=> [a.block] |none=> [])else[]
theorem z2c{R:List Nat}{ad:Option Addr}(h0:0<R.length){g o:Nat}(e:ad=some ⟨g,o,none⟩):g∈blkA R ad:=by
 subst e;unfold blkA;rw[if_pos h0];exact List.mem_singleton.2 rfl
theorem z2d{W:World}{p cap b:Nat}{ad:Option Addr}{R:List Nat}(h:IsG W p ad cap R b){k:Nat}(hk:k∈blkA R ad):0<R.length∧ad=some ⟨k,0,none⟩∧p+1≤k∧RowI W k cap R:=by
 unfold blkA at hk;by_cases h0:0<R.length
 ·obtain⟨g,rfl,hg,r⟩:=h.row h0
  rw[if_pos h0]at hk;obtain rfl:=List.mem_singleton.1 hk;exact⟨h0,rfl,hg,r⟩
 ·rw[if_neg h0]at hk
  cases hk
structure DV(w:World)(p pn pr:Nat)(D:List Nat)(Es:List ED)(R:List Nat)(b:Nat)(l:List Nat)(par own:Nat→Nat)(nm:Nat→List (List Nat))(vE vN:Value)(ad:Option Addr)(cap:Nat):Prop where
 e:IsE w p vE pn pr Es
 n:DD w pn vN l par own nm
 g:IsG w pr ad cap R b
 d:D=p::pn::pr::(ownS vE++(ownS vN++blkA R ad))
def DE(w:World)(p pn pr:Nat)(D:List Nat)(Es:List ED)(R:List Nat)(b:Nat)(l:List Nat)(par own:Nat→Nat)(nm:Nat→List (List Nat)):Prop:= ∃vE vN ad cap,DV w p pn pr D Es R b l par own nm vE vN ad cap
section
variable{w w' W:World}{p pn pr b x a name typ ex:Nat}{D Rr R l:List Nat}{Es:List ED}{par own:Nat→Nat}{nm:Nat→List (List Nat)}{v vE vN:Value}{ad:Option Addr}{cap:Nat}
theorem ownS_iff{v:Value}{k:Nat}:k∈ownS v↔v.ownBlock=some k:=by
 unfold ownS;cases v.ownBlock with
 |none=>simp
 |some g=>simp[eq_comm]
theorem DV.mem(h:DV w p pn pr D Es R b l par own nm vE vN ad cap)(k:Nat):k∈D↔k=p∨k=pn∨k=pr∨k∈ownS vE∨k∈ownS vN∨k∈blkA R ad:=by
 rw[h.d];simp[or_assoc]
theorem DV.frS{S:List Nat}(h:DV w p pn pr D Es R b l par own nm vE vN ad cap)(hf:Fr S w W)(hS:∀k∈S,k∉D):DV W p pn pr D Es R b l par own nm vE vN ad cap:=
 ⟨h.e.fr hf (fun k=>hS _ k ((h.mem p).2 (.inl rfl))) (fun k hk e=>hS k hk ((h.mem k).2 (.inr (.inr (.inr (.inl (ownS_iff.2 e))))))),IsN.fr h.n hf (fun k=>hS _ k ((h.mem pn).2 (.inr (.inl rfl)))) (fun k hk e=>hS k hk ((h.mem k).2 (.inr (.inr (.inr (.inr (.inl (ownS_iff.2 e)))))))),h.g.frS hf (fun k=>hS _ k ((h.mem pr).2 (.inr (.inr (.inl rfl))))) (fun h0 g o e k=>hS g k ((h.mem g).2 (.inr (.inr (.inr (.inr (.inr (z2c h0 e)))))))),h.d⟩
theorem DV.fr0(h:DV w p pn pr D Es R b l par own nm vE vN ad cap)(hf:Fr [] w W):DV W p pn pr D Es R b l par own nm vE vN ad cap:=h.frS hf (by simp)
theorem DE.frS{S:List Nat}(h:DE w p pn pr D Es R b l par own nm)(hf:Fr S w W)(hS:∀k∈S,k∉D):DE W p pn pr D Es R b l par own nm:=by
 obtain⟨vE,vN,ad,cap,h⟩:=h;exact⟨vE,vN,ad,cap,h.frS hf hS⟩
theorem DE.fr0(h:DE w p pn pr D Es R b l par own nm)(hf:Fr [] w W):DE W p pn pr D Es R b l par own nm:=h.frS hf (by simp)
theorem DV.lt(h:DV w p pn pr D Es R b l par own nm vE vN ad cap):∀k∈D,k<w.heap.size:=fun k hk=>by
 rcases(h.mem k).1 hk with rfl|rfl|rfl|e|e|e
 ·exact h.e.st.lt
 ·exact(show IsN w k vN _ from h.n).st.lt
 ·exact h.g.st.lt
 ·exact(h.e.r.lt k (ownS_iff.1 e)).2
 ·exact((show IsN w pn vN _ from h.n).r.lt k (ownS_iff.1 e)).2
 ·exact(z2d h.g e).2.2.2.lt
theorem DE.lt(h:DE w p pn pr D Es R b l par own nm):∀k∈D,k<w.heap.size:=by
 obtain⟨vE,vN,ad,cap,h⟩:=h;exact h.lt
theorem DV.ne(h:DV w p pn pr D Es R b l par own nm vE vN ad cap):p≠pn∧p≠pr∧pn≠pr:=by
 have hn:IsN w pn vN _:=h.n;exact⟨Blk.ne_ h.e.st hn.st (by decide),Blk.ne_ h.e.st h.g.st (by decide),Blk.ne_ hn.st h.g.st (by decide)⟩
theorem DV.e_ne(h:DV w p pn pr D Es R b l par own nm vE vN ad cap):∀k∈ownS vE,k≠p∧k≠pn∧k≠pr∧k∉ownS vN∧k∉blkA R ad:=fun k hk=>by
 have hn:IsN w pn vN _:=h.n;refine⟨fun e=>zrh h.e.r h.e.st (by decide) (e▸hk),fun e=>zrh h.e.r hn.st (by decide) (e▸hk),fun e=>zrh h.e.r h.g.st (by decide) (e▸hk),fun e=>zrg h.e.r hn.r (by decide) k hk (ownS_iff.1 e),fun e=> ?_⟩;obtain⟨_,_,_,cur,r,_⟩:=z2d h.g e;exact zrh h.e.r r (by decide) hk
theorem DV.n_ne(h:DV w p pn pr D Es R b l par own nm vE vN ad cap):∀k∈ownS vN,k≠p∧k≠pn∧k≠pr∧k∉ownS vE∧k∉blkA R ad:=fun k hk=>by
 have hn:IsN w pn vN _:=h.n;refine⟨fun e=>zrh hn.r h.e.st (by decide) (e▸hk),fun e=>zrh hn.r hn.st (by decide) (e▸hk),fun e=>zrh hn.r h.g.st (by decide) (e▸hk),fun e=>zrg hn.r h.e.r (by decide) k hk (ownS_iff.1 e),fun e=> ?_⟩;obtain⟨_,_,_,cur,r,_⟩:=z2d h.g e;exact zrh hn.r r (by decide) hk
theorem DV.r_ne(h:DV w p pn pr D Es R b l par own nm vE vN ad cap):∀k∈blkA R ad,k≠p∧k≠pn∧k≠pr:=fun k hk=>by
 have hn:IsN w pn vN _:=h.n;obtain⟨_,_,_,cur,r,_⟩:=z2d h.g hk;exact⟨Blk.ne_ r h.e.st (by decide),Blk.ne_ r hn.st (by decide),Blk.ne_ r h.g.st (by decide)⟩
structure Nd(D:List Nat)(w:World)(D':List Nat)(w':World):Prop where
 f:Fr D w w'
 o: ∀k∈D',k∈D∨w.heap.size≤k
theorem Nd.trans{D D1 D2:List Nat}{w w1 w2:World}(h:Nd D w D1 w1)(h2:Nd D1 w1 D2 w2):Nd D w D2 w2:=
 ⟨h.f.step h2.f (fun k hk=>h.o k hk),fun k hk=>(h2.o k hk).elim (fun e=>h.o k e) (fun e=> .inr (Nat.le_trans h.f.size e))⟩
theorem Nd.of0{D:List Nat}(h:Fr [] w W):Nd D w D W:=⟨h.nil,fun _ hk=> .inl hk⟩
theorem DV.nodes(h:DV w p pn pr D Es R b l par own nm vE vN ad cap){vN':Value}{l':List Nat}{par' own':Nat→Nat}{nm':Nat→List (List Nat)}(hx:Nx pn vN w vN' W)(hd:DD W pn vN' l' par' own' nm'):∃D',DV W p pn pr D' Es R b l' par' own' nm' vE vN' ad cap∧Nd D w D' W:=by
 obtain⟨a1,_,a3⟩:=h.ne;have h1:=h.e_ne;have h2:=h.n_ne;have h3:=h.r_ne;have hS:∀k,k∈pn::ownS vN→k=pn∨k∈ownS vN:=fun k hk=>List.mem_cons.1 hk;refine⟨_,⟨h.e.fr hx.f (fun k=> ?_) (fun k hk e=> ?_),hd,h.g.frS hx.f (fun k=> ?_) (fun h0 g o e k=> ?_),rfl⟩,hx.f.mono (fun k hk=> ?_),fun k hk=> ?_⟩
 ·rcases hS _ k with k|k
  ·exact a1 k
  ·exact(h2 _ k).1 rfl
 ·rcases hS _ hk with k1|k1
  ·exact(h1 _ (ownS_iff.2 e)).2.1 k1
  ·exact(h1 _ (ownS_iff.2 e)).2.2.2.1 k1
 ·rcases hS _ k with k|k
  ·exact a3 k.symm
  ·exact(h2 _ k).2.2.1 rfl
 ·rcases hS _ k with k1|k1
  ·exact(h3 _ (z2c h0 e)).2.1 k1
  ·exact(h2 _ k1).2.2.2.2 (z2c h0 e)
 ·rcases hS _ hk with k1|k1
  ·exact .inl ((h.mem k).2 (.inr (.inl k1)))
  ·exact .inl ((h.mem k).2 (.inr (.inr (.inr (.inr (.inl k1))))))
 ·have hm:=h.mem k
  simp only[List.mem_cons,List.mem_append]at hk;rcases hk with e|e|e|e|e|e
  ·exact .inl (hm.2 (.inl e))
  ·exact .inl (hm.2 (.inr (.inl e)))
  ·exact .inl (hm.2 (.inr (.inr (.inl e))))
  ·exact .inl (hm.2 (.inr (.inr (.inr (.inl e)))))
  ·rcases hx.o k e with e|e
   ·exact .inl (hm.2 (.inr (.inr (.inr (.inr (.inl e))))))
   ·exact .inr e
  ·exact .inl (hm.2 (.inr (.inr (.inr (.inr (.inr e))))))
theorem DV.ring(h:DV w p pn pr D Es R b l par own nm vE vN ad cap){b':Nat}(hg:IsGy w.heap.size W pr Rr b')(hf:Fr [pr] w W):∃D' ad' cap',DV W p pn pr D' Es Rr b' l par own nm vE vN ad' cap'∧Nd D w D' W:=by
 obtain⟨_,a2,a3⟩:=h.ne;have h1:=h.e_ne;have h2:=h.n_ne;obtain⟨ad',cap',h5,h6⟩:=hg;refine⟨_,ad',cap',⟨h.e.fr hf (by simpa using a2) (fun k hk e=> ?_),IsN.fr h.n hf (by simpa using a3) (fun k hk e=> ?_),h5,rfl⟩,hf.mono (fun k hk=> ?_),fun k hk=> ?_⟩
 ·obtain rfl:=List.mem_singleton.1 hk
  exact(h1 _ (ownS_iff.2 e)).2.2.1 rfl
 ·obtain rfl:=List.mem_singleton.1 hk
  exact(h2 _ (ownS_iff.2 e)).2.2.1 rfl
 ·obtain rfl:=List.mem_singleton.1 hk
  exact .inl ((h.mem _).2 (.inr (.inr (.inl rfl))))
 ·have hm:=h.mem k
  simp only[List.mem_cons,List.mem_append]at hk;rcases hk with e|e|e|e|e|e
  ·exact .inl (hm.2 (.inl e))
  ·exact .inl (hm.2 (.inr (.inl e)))
  ·exact .inl (hm.2 (.inr (.inr (.inl e))))
  ·exact .inl (hm.2 (.inr (.inr (.inr (.inl e)))))
  ·exact .inl (hm.2 (.inr (.inr (.inr (.inr (.inl e))))))
  ·obtain⟨h0,e2,_⟩:=z2d h5 e
   exact .inr (h6 h0 k 0 e2)
theorem DV.ents(h:DV w p pn pr D Es R b l par own nm vE vN ad cap){vE':Value}{Es':List ED}(he:IsE W p vE' pn pr Es')(hf:Fr (p::ownS vE) w W)(ho:∀k∈ownS vE',k∈ownS vE∨w.heap.size≤k):∃D',DV W p pn pr D' Es' R b l par own nm vE' vN ad cap∧Nd D w D' W:=by
 obtain⟨a1,a2,_⟩:=h.ne;have h1:=h.e_ne;have h2:=h.n_ne;have h3:=h.r_ne;have hS:∀k,k∈p::ownS vE→k=p∨k∈ownS vE:=fun k hk=>List.mem_cons.1 hk;refine⟨_,⟨he,IsN.fr h.n hf (fun k=> ?_) (fun k hk e=> ?_),h.g.frS hf (fun k=> ?_) (fun h0 g o e k=> ?_),rfl⟩,hf.mono (fun k hk=> ?_),fun k hk=> ?_⟩
 ·rcases hS _ k with k|k
  ·exact a1 k.symm
  ·exact(h1 _ k).2.1 rfl
 ·rcases hS _ hk with k1|k1
  ·exact(h2 _ (ownS_iff.2 e)).1 k1
  ·exact(h1 _ k1).2.2.2.1 (ownS_iff.2 e)
 ·rcases hS _ k with k|k
  ·exact a2 k.symm
  ·exact(h1 _ k).2.2.1 rfl
 ·rcases hS _ k with k1|k1
  ·exact(h3 _ (z2c h0 e)).1 k1
  ·exact(h1 _ k1).2.2.2.2 (z2c h0 e)
 ·rcases hS _ hk with k1|k1
  ·exact .inl ((h.mem k).2 (.inl k1))
  ·exact .inl ((h.mem k).2 (.inr (.inr (.inr (.inl k1)))))
 ·have hm:=h.mem k
  simp only[List.mem_cons,List.mem_append]at hk;rcases hk with e|e|e|e|e|e
  ·exact .inl (hm.2 (.inl e))
  ·exact .inl (hm.2 (.inr (.inl e)))
  ·exact .inl (hm.2 (.inr (.inr (.inl e))))
  ·rcases ho k e with e|e
   ·exact .inl (hm.2 (.inr (.inr (.inr (.inl e)))))
   ·exact .inr e
  ·exact .inl (hm.2 (.inr (.inr (.inr (.inr (.inl e))))))
  ·exact .inl (hm.2 (.inr (.inr (.inr (.inr (.inr e))))))
theorem z2e(w:World)(par own:Nat→Nat)(nm:Nat→List (List Nat)):Calls prog 8 #[] w fun e w'=>∃p pn pr D,e= .returned (some p)∧DE w' p pn pr D [] [] 0 [] par own nm∧Fr [] w w'∧∀k∈D,w.heap.size≤k:=by
 obtain⟨w1,hw1⟩:∃w1,w.alloc (.cells #[.slice none 0 0] 67)=w1:=⟨_,rfl⟩;obtain⟨w2,hw2⟩:∃w2,w1.alloc (.cells #[.slice none 0 0,(0:Int)] 71)=w2:=⟨_,rfl⟩;obtain⟨w3,hw3⟩:∃w3,w2.alloc (.cells #[.slice none 0 0,some w.heap.size,some w1.heap.size] 74)=w3:=⟨_,rfl⟩;have B1:Blk w1 w.heap.size 67 #[.slice none 0 0] :=hw1▸Blk.new _ _ _;have B2:Blk w2 w1.heap.size 71 #[.slice none 0 0,(0:Int)] :=hw2▸Blk.new _ _ _;have B3:Blk w3 w2.heap.size 74 #[.slice none 0 0,some w.heap.size,some w1.heap.size] :=hw3▸Blk.new _ _ _;have f1:Fr [] w w1:=hw1▸(Fr.refl [] w).alloc _;have f2:Fr [] w1 w2:=hw2▸(Fr.refl [] w1).alloc _;have f3:Fr [] w2 w3:=hw3▸(Fr.refl [] w2).alloc _
 have H:=hid (show∃D,DE w3 w2.heap.size w.heap.size w1.heap.size D [] [] 0 [] par own nm∧Fr [] w w3∧∀k∈D,w.heap.size≤k from by
  have e1:=f1.size;have e2:=f2.size;refine⟨_,⟨.slice none 0 0,.slice none 0 0,none,0,⟨B3,Rke.nil _ _⟩,⟨(B1.fr f2 (by simp)).fr f3 (by simp),Rkn.nil _ _⟩,⟨B2.fr f3 (by simp),fun h0=>by simp at h0⟩,rfl⟩,(f1.trans f2).trans f3,fun k hk=> ?_⟩;simp[ownS,Value.ownBlock,blkA]at hk;rcases hk with rfl|rfl|rfl<;>omega)
 clear B1 B2 B3 f1 f2 f3;go_in;go_wp2;go_ret;obtain⟨D,h1,h2,h3⟩:=H.out;exact⟨_,_,_,D,rfl,h1,h2,h3⟩
theorem IsE.app(h:IsE w p v pn pr Es)(hl:Es.length≤100000)(d:ED):∃g cp w',∀v',v'= .slice (some ⟨g,0,none⟩) (Es.length+1) cp→(Builtin.append_ #[72,72] 72 #[v,.slice (some ⟨w.heap.size,0,none⟩) 1 1]).run prog (w.alloc (.cells d.cells 82))= .ok v' w'∧w'.frozen? ⟨p,0,none⟩=false∧(∃u,w'.cell? ⟨p,0,none⟩=some u)
  ∧IsE (w'.setCell ⟨p,0,none⟩ v') p v' pn pr (Es++ [d])∧Fr (p::ownS v) w (w'.setCell ⟨p,0,none⟩ v')∧∀k∈ownS v',k∈ownS v∨w.heap.size≤k:=by
 have hp:=h.st.lt
 obtain⟨v',w',hrun,h2,h3,h5⟩:=z18 (w.alloc (.cells d.cells 82)) (p+1) v Es (h.r.fr0 ((Fr.refl [] w).alloc _)) (some ⟨w.heap.size,0,none⟩) 1 [d] (fun _=>⟨_,0,rfl,fun j hj i _=>by
  obtain rfl:j=0:=by simp at hj;omega
  rw[Nat.zero_mul,Nat.zero_add,Nat.zero_add,(Blk.new w 82 d.cells).cell];show(#[.int .i64 (d.y:Int),.int .i64 (d.p:Int),.int .u16 (d.ty:Int),.int .u64 (d.en:Int),.slice d.ad d.n d.cp,.bool d.us] :Array Value)[i]?=d.cl[i]?;rw[List.getElem?_toArray];rfl⟩) (by simp;omega) (by simp;omega)
 obtain⟨g,cp,rfl⟩:=ownsRow_succ (show w'.ownsRow (p+1) 82 6 v' (Es.length+1) (edL (Es++ [d]))from by
  have:=h2;unfold Rke at this;rwa[List.length_append]at this)
 have f3:Fr (ownS v) w w':=zhw h3;have hb:=h.st.fr f3 (zrh h.r h.st (by decide));have hf:Fr [p] w' (w'.setCell ⟨p,0,none⟩ (.slice (some ⟨g,0,none⟩) (Es.length+1) cp)):=(Fr.refl [p] w').setCell (p:=⟨p,0,none⟩) (.inl (by simp)) _;refine⟨g,cp,w',?_⟩;rintro v' rfl;refine⟨hrun,hb.frozen 0,⟨_,hb.cell 0⟩,⟨by simpa using hb.set 0 (.slice (some ⟨g,0,none⟩) (Es.length+1) cp),h2.frq hf (by simp)⟩,(f3.mono (fun k hk=> .inl (List.mem_cons_of_mem _ hk))).setCell (p:=⟨p,0,none⟩) (.inl (by simp)) _,fun k hk=> ?_⟩;have e:=ownS_iff.1 hk;rcases h5 with h5|h5
 ·exact .inl (ownS_iff.2 (h5.symm.trans e))
 ·rw[e]at h5
  injection h5 with h5;rw[World.size_alloc]at h5;exact .inr (by omega)
def MkD(w:World)(p pn pr:Nat)(D:List Nat)(Es:List ED)(R:List Nat)(b:Nat)(l:List Nat)(par own:Nat→Nat)(nm:Nat→List (List Nat))(x name typ ex:Nat)(Ls:List (List Nat))(e:Ending)(w':World):Prop:=
 ((∃d∈Es,d.p=name∧d.ty=typ)∧e= .returned (8:Int)∧Fr [] w w')∨
 ((∀d∈Es,d.p=name→d.ty≠typ)∧e= .returned (0:Int)∧ ∃D' ad cp,DE w' p pn pr D' (Es++ [⟨x,name,typ,ex,ad,Ls.length,cp,false⟩]) (R++ [x]) (insB R b x) l par own nm∧Nd D w D' w'∧RecO w' w.heap.size (.slice ad Ls.length cp) Ls)
theorem z2f{Ls:List (List Nat)}(h:DE w p pn pr D Es R b l par own nm)(hl:Es.length≤1000)(hln:l.length≤1000)(hlr:R.length≤1000)(hG:GoodR Ls)(ad0:Option Addr)(c:Nat)(hb:Byt w ad0 (zqj Ls))(hc:(zqj Ls).length≤c)(hx:name=0∨name∈l)(hxR:x∉R):Calls prog 57 #[some p,x,name,.int .u16 typ,.int .u64 ex,.slice ad0 (zqj Ls).length c] w (MkD w p pn pr D Es R b l par own nm x name typ ex Ls):=by
 obtain⟨vE,vN,ad,cap,h⟩:=h;have HU:=hid (zrp w ad0 c Ls hG hb hc);have HF:=hid (fun V (hf:Fr [] w V)=>z2b (h.fr0 hf).e (by omega) name typ);have HA:=hid (fun V (hf:Fr [] w V) (h0:name≠0)=>z1e (h.fr0 hf).n (by omega) (hx.resolve_left h0));have HA1:=hid (fun V (hf:Fr [] w V) d=>(h.fr0 hf).e.app (by omega) d);have HI:=hid (fun V (hV:IsG V pr ad cap R b)=>ztt hV (by omega) hxR);generalize(zqj Ls).length=z at*;clear hl hln hlr hG hb hc hx hxR;go_in;go_wp2_with fail;go_call HU.out as e w1 ⟨vr,rfl,hR1,f1⟩;obtain⟨adr,cpr,rfl⟩:=hR1.val;have HD1:=h.fr0 f1;have d1:=HD1.e.st.cell 1;simp only[gE]at d1;have hj:=(show∀(K:Prop),(name=0→K)→(name≠0→K)→K from fun K a b=>(Nat.decEq name 0).byCases a b);clear HU;by_cases h0:name=0
 ·have b1:((name:Int) !=0)=false:=by simp;omega
  have b1':(name !=0)=false:=by simp;omega
  clear h0 hj;go_wp2_with fail;go_call HF.out w1 f1 as e w2 ⟨hfe,hw⟩;have hw:=hw.symm;subst hw;rcases hfe with⟨i,d,rfl,hd,hd1,hd2⟩|⟨rfl,hno⟩
  ·have HQ:=hid (show∃d∈Es,d.p=name∧d.ty=typ from⟨d,List.mem_of_getElem? hd,hd1,hd2⟩)
   clear hd hd1 hd2;go_wp2;go_ret;exact .inl ⟨HQ.out,rfl,f1⟩
  ·have HNo:=hid hno
   clear hno HF HA;obtain⟨g3,cp3,w3,hq⟩:=HA1.out w1 f1 ⟨x,name,typ,ex,adr,Ls.length,cpr,false⟩;obtain⟨hrun,hz3,⟨c3,hc3⟩,he3,hf3,ho3⟩:=hq _ rfl;clear hq;obtain⟨D4,hD4,hn4⟩:=HD1.ents he3 hf3 ho3;have HRUN:=hid hrun;have d0:=HD1.e.st.cell 0;have d2:=hD4.e.st.cell 2;simp only[gE]at d0 d2
   have R4:=(show RecO (w3.setCell ⟨p,0,none⟩ (.slice (some ⟨g3,0,none⟩) (Es.length+1) cp3)) w.heap.size (.slice adr Ls.length cpr) Ls from hR1.fr hf3 (fun k hk=>by
    have:=h.lt k;have hm:=HD1.mem k;rcases List.mem_cons.1 hk with e|e
    ·exact this (hm.2 (.inl e))
    ·exact this (hm.2 (.inr (.inr (.inr (.inl e)))))))
   clear hrun he3 hf3 ho3 HD1 hR1;go_wp2_with (first|(at_builtin;refine zrb rfl (.tmp 48) (.tmp 55) 72 rfl rfl _ _ _ _ rfl rfl HRUN.out ?_)|fail);go_call HI.out _ hD4.g as e w5 ⟨rfl,h5,f5⟩;obtain⟨D5,ad5,cap5,hD5,hn5⟩:=hD4.ring h5 f5;have HFin:=hid (And.intro hD5 ((Nd.of0 f1).trans (hn4.trans hn5)))
   have R5:=(show RecO w5 w.heap.size (.slice adr Ls.length cpr) Ls from R4.fr f5 (fun k hk=>by
    obtain rfl:=List.mem_singleton.1 hk;exact h.lt _ ((h.mem _).2 (.inr (.inr (.inl rfl))))))
   clear h5 f5 hD5 hn5;go_wp2;go_ret;exact .inr ⟨HNo.out,rfl,D5,adr,cpr,⟨_,_,ad5,cap5,HFin.1⟩,HFin.2,R5⟩
 ·have b1:((name:Int) !=0)=true:=by simp;omega
  have b1':(name !=0)=true:=by simp;omega
  have hat:=HA.out w1 f1 h0;clear h0 hj;go_wp2_with fail;go_call hat as e w2 ⟨⟨i,rfl,hi⟩,hw⟩;have hw:=hw.symm;subst hw;have b2:=dF ((i:Int)<0);clear hi hat;go_wp2_with fail;go_call HF.out w1 f1 as e w2 ⟨hfe,hw⟩;have hw:=hw.symm;subst hw;rcases hfe with⟨i,d,rfl,hd,hd1,hd2⟩|⟨rfl,hno⟩
  ·have HQ:=hid (show∃d∈Es,d.p=name∧d.ty=typ from⟨d,List.mem_of_getElem? hd,hd1,hd2⟩)
   clear hd hd1 hd2;go_wp2;go_ret;exact .inl ⟨HQ.out,rfl,f1⟩
  ·have HNo:=hid hno
   clear hno HF HA;obtain⟨g3,cp3,w3,hq⟩:=HA1.out w1 f1 ⟨x,name,typ,ex,adr,Ls.length,cpr,false⟩;obtain⟨hrun,hz3,⟨c3,hc3⟩,he3,hf3,ho3⟩:=hq _ rfl;clear hq;obtain⟨D4,hD4,hn4⟩:=HD1.ents he3 hf3 ho3;have HRUN:=hid hrun;have d0:=HD1.e.st.cell 0;have d2:=hD4.e.st.cell 2;simp only[gE]at d0 d2
   have R4:=(show RecO (w3.setCell ⟨p,0,none⟩ (.slice (some ⟨g3,0,none⟩) (Es.length+1) cp3)) w.heap.size (.slice adr Ls.length cpr) Ls from hR1.fr hf3 (fun k hk=>by
    have:=h.lt k;have hm:=HD1.mem k;rcases List.mem_cons.1 hk with e|e
    ·exact this (hm.2 (.inl e))
    ·exact this (hm.2 (.inr (.inr (.inr (.inl e)))))))
   clear hrun he3 hf3 ho3 HD1 hR1;go_wp2_with (first|(at_builtin;refine zrb rfl (.tmp 48) (.tmp 55) 72 rfl rfl _ _ _ _ rfl rfl HRUN.out ?_)|fail);go_call HI.out _ hD4.g as e w5 ⟨rfl,h5,f5⟩;obtain⟨D5,ad5,cap5,hD5,hn5⟩:=hD4.ring h5 f5;have HFin:=hid (And.intro hD5 ((Nd.of0 f1).trans (hn4.trans hn5)))
   have R5:=(show RecO w5 w.heap.size (.slice adr Ls.length cpr) Ls from R4.fr f5 (fun k hk=>by
    obtain rfl:=List.mem_singleton.1 hk;exact h.lt _ ((h.mem _).2 (.inr (.inr (.inl rfl))))))
   clear h5 f5 hD5 hn5;go_wp2;go_ret;exact .inr ⟨HNo.out,rfl,D5,adr,cpr,⟨_,_,ad5,cap5,HFin.1⟩,HFin.2,R5⟩
end
structure Nk(q:MH)(D:List Nat)(w:World)(D':List Nat)(w':World):Prop where
 f:Fr (q.blocks++D) w w'
 o: ∀k∈D',k∈D∨w.heap.size≤k
theorem Nk.trans{q:MH}{D D1 D2:List Nat}{w w1 w2:World}(h:Nk q D w D1 w1)(h2:Nk q D1 w1 D2 w2):Nk q D w D2 w2:=
 ⟨h.f.step h2.f (fun k hk=>by
  rcases List.mem_append.1 hk with e|e
  ·exact .inl (List.mem_append_left _ e)
  ·exact(h.o k e).imp (List.mem_append_right _) id),fun k hk=>(h2.o k hk).elim (fun e=>h.o k e) (fun e=> .inr (Nat.le_trans h.f.size e))⟩
theorem Nk.ofQ{q:MH}{D:List Nat}{w W:World}(h:Fr q.blocks w W):Nk q D w D W:=⟨h.mono (fun _ hk=> .inl (List.mem_append_left _ hk)),fun _ hk=> .inl hk⟩
theorem Nk.of0{q:MH}{D:List Nat}{w W:World}(h:Fr [] w W):Nk q D w D W:=⟨h.nil,fun _ hk=> .inl hk⟩
theorem Nk.ofD{q:MH}{D D':List Nat}{w W:World}(h:Nd D w D' W):Nk q D w D' W:=⟨h.f.mono (fun _ hk=> .inl (List.mem_append_right _ hk)),h.o⟩
structure KE(wa:World)(q:MH)(base p pn pr:Nat)(D:List Nat)(g:EW)(l:List Nat)(par own:Nat→Nat)(nm:Nat→List (List Nat))(fr:Nat)(Es:List ED)(R:List Nat)(b:Nat)(W:World):Prop where
 c:CP wa q g l par own nm fr W
 d:DE W p pn pr D Es R b l par own nm
 ok:zxx wa q base
 hD: ∀k∈D,base≤k
section
variable{wa w W W':World}{q:MH}{base p pn pr fr b x:Nat}{D D' l R:List Nat}{g g':EW}{par own:Nat→Nat}{nm:Nat→List (List Nat)}{Es:List ED}{N:List (List Nat)}{k j at_ frj:Nat}{lj:List Nat}{parj:Nat→Nat}{nmj:Nat→List (List Nat)}
theorem KE.qD(k:KE wa q base p pn pr D g l par own nm fr Es R b W):∀k∈q.blocks,k∉D:=fun x hx hd=>by
 have:=k.ok.q x hx;have:=k.hD x hd;omega
theorem KE.fr0(k:KE wa q base p pn pr D g l par own nm fr Es R b W)(hf:Fr [] W W'):KE wa q base p pn pr D g l par own nm fr Es R b W':=⟨k.c.fr0 hf,k.d.fr0 hf,k.ok,k.hD⟩
theorem KE.mem(k:KE wa q base p pn pr D g l par own nm fr Es R b W){l':List Nat}{par' own':Nat→Nat}{nm':Nat→List (List Nat)}{fr':Nat}(hf:Fr q.blocks W W')(hc:CP wa q g' l' par' own' nm' fr' W'):CP wa q g' l' par' own' nm' fr' W'∧DE W' p pn pr D Es R b l par own nm:=⟨hc,k.d.frS hf k.qD⟩
theorem KE.same(k:KE wa q base p pn pr D g l par own nm fr Es R b W){fr':Nat}(hf:Fr q.blocks W W')(hc:CP wa q g l par own nm fr' W'):KE wa q base p pn pr D g l par own nm fr' Es R b W':=⟨hc,k.d.frS hf k.qD,k.ok,k.hD⟩
theorem z2g{D D':List Nat}(hD:∀k∈D,base≤k)(hw:base≤w.heap.size)(h:∀k∈D',k∈D∨w.heap.size≤k):∀k∈D',base≤k:=fun k hk=>(h k hk).elim (hD k) (fun e=>Nat.le_trans hw e)
theorem Nk.cell{gb o:Nat}{v:Value}(h:Nk q D w D' W)(hg:gb<w.heap.size)(hq:gb∉q.blocks)(hd:gb∉D)(hc:w.cell? ⟨gb,o,none⟩=some v):W.cell? ⟨gb,o,none⟩=some v:=
 (h.f.cell (p:=⟨gb,o,none⟩) hg (fun hm=>(List.mem_append.1 hm).elim hq hd)).trans hc
def Gn24(wa:World)(q:MH)(base p pn pr:Nat)(D:List Nat)(g:EW)(l:List Nat)(par own:Nat→Nat)(nm:Nat→List (List Nat))(Es:List ED)(R:List Nat)(b:Nat)(L:List (List Nat))(w:World)(e:Ending)(w':World):Prop:=
 ∃D',Nk q D w D' w'∧
  ((e= .returned (.tuple #[(0:Int),false])∧(chkN L≠0∨L≠ [])∧ ∃fr1,KE wa q base p pn pr D' g l par own nm fr1 Es R b w')∨
   (∃at_:Nat,e= .returned (.tuple #[at_,true])∧chkN L=0∧ ∃j kk lj parj nmj frj,kk+j=L.length∧GwI wa q g l par own nm (lowN L) kk j at_ lj parj nmj frj w'∧KE wa q base p pn pr D' g lj parj (ownP own at_) nmj frj Es R b w'))
def DNs(w:World)(p pn pr:Nat)(D:List Nat)(Es:List ED)(R:List Nat)(b:Nat)(l:List Nat)(par own:Nat→Nat)(nm:Nat→List (List Nat)):Prop:= ∃vN,DD w pn vN l par own nm∧w.cell? ⟨p,1,none⟩=some (some pn:Value)∧ ∀{W vN' l' par' own' nm'},Nx pn vN w vN' W→DD W pn vN' l' par' own' nm'→ ∃D',DE W p pn pr D' Es R b l' par' own' nm'∧Nd D w D' W
theorem DE.ns(h:DE W p pn pr D Es R b l par own nm):DNs W p pn pr D Es R b l par own nm:=by
 obtain⟨vE,vN,ad,cap,h⟩:=h;refine⟨vN,h.n,?_,fun hx hd=> ?_⟩
 ·have:=h.e.st.cell 1
  simpa using this
 ·obtain⟨D',h1,h2⟩:=h.nodes hx hd
  exact⟨D',⟨_,_,_,_,h1⟩,h2⟩
theorem DE.c1(h:DE W p pn pr D Es R b l par own nm):W.cell? ⟨p,1,none⟩=some (some pn:Value):=by
 obtain⟨vN,_,h,_⟩:=h.ns;exact h
theorem z2h(h:DE w p pn pr D Es R b l par own nm)(d:DN l par own nm)(ad:Option Addr)(cap:Nat)(L:List (List Nat))(hA:StrA w ad L)(hb:zzj L≤1000000)(ho:∀y,own y≤900000000):Calls prog 116 #[some pn,.slice ad L.length cap] w fun e w'=>∃D',Nd D w D' w'∧((chkN L≠0∧e= .returned (.tuple #[(0:Int),(0:Int),(chkN L)])∧DE w' p pn pr D' Es R b l par own nm)∨(chkN L=0∧∃at_ k:Nat,e= .returned (.tuple #[at_,k,(0:Int)])∧Kn l nm (lowN L) at_ k∧DE w' p pn pr D' Es R b l par (ownP own at_) nm)):=by
 obtain⟨vN,h1,_,h2⟩:=h.ns;refine(xpin h1 d ad cap L hA hb ho).mono fun e w' ⟨f,hh⟩=> ?_;have hx:Nx pn vN w vN w':=⟨f.mono (fun k hk=> .inl (List.mem_cons_of_mem _ hk)),fun k hk=> .inl hk⟩;rcases hh with⟨a,b,c⟩|⟨a,at_,k,b,c,d⟩
 ·obtain⟨D',e1,e2⟩:=h2 hx c
  exact⟨D',e2,.inl ⟨a,b,e1⟩⟩
 ·obtain⟨D',e1,e2⟩:=h2 hx d
  exact⟨D',e2,.inr ⟨a,at_,k,b,c,e1⟩⟩
theorem z2i{a:Nat}{s:List Nat}(h:DE w p pn pr D Es R b l par own nm)(d:DN l par own nm)(gr:GrQ l par own x a)(hb:∀k∈s,k<256)(hk:zuz s=true)(hno:∀y∈l,nm y≠s.map lowB::nm a)(ho:∀y,own y≤900000000):Calls prog 119 #[some pn,a,x,.string (za0 s)] w fun e w'=>∃D',e= .returned (0:Int)∧Nd D w D' w'∧DE w' p pn pr D' Es R b (l++ [x]) (up par x a) (ownG own x a) (up nm x (s.map lowB::nm a)):=by
 obtain⟨vN,h1,_,h2⟩:=h.ns;refine(z1v h1 d gr hb hk hno ho).mono fun e w' ⟨v',he,hd,hx⟩=> ?_;obtain⟨D',e1,e2⟩:=h2 hx hd;exact⟨D',he,e2,e1⟩
theorem z2j(h:DE w p pn pr D Es R b l par own nm)(d:DN l par own nm)(hx:x∈l)(k:Nat)(ho:own x=k+1)(ho2:∀y,own y≤900000000):Calls prog 60 #[some pn,x] w fun e w'=>∃(n:Nat) (l1:List Nat) (D':List Nat),e= .returned (.tuple #[(n:Nat),(0:Int)])∧Nd D w D' w'∧DE w' p pn pr D' Es R b l1 par (up own x k) nm∧Rem (up own x k) par l l1∧n+l1.length=l.length∧Firm (up own x k) par l1:=by
 obtain⟨vN,h1,_,h2⟩:=h.ns;refine(z1s h1 d hx k ho ho2).mono fun e w' ⟨n,l1,v',he,hd,hr,hn,hf,hx⟩=> ?_;obtain⟨D',e1,e2⟩:=h2 hx hd;exact⟨n,l1,D',he,e2,e1,hr,hn,hf⟩
theorem GwI.undoE(gw:GwI wa q g l par own nm N k j at_ lj parj nmj frj W')(hF:Firm own par l)(hat:at_≠0){l1:List Nat}(h1:DE W p pn pr D Es R b l1 parj (up (ownP own at_) at_ (own at_)) nmj)(h2:Rem (up (ownP own at_) at_ (own at_)) parj lj l1)(h3:Firm (up (ownP own at_) at_ (own at_)) parj l1):DE W p pn pr D Es R b l par own nm:=by
 obtain⟨vE,vN,ad,cap,h⟩:=h1;exact⟨vE,vN,ad,cap,h.e,gw.undoD hF hat h.n h2 h3,h.g,h.d⟩
theorem GwI.undoE0(gw:GwI wa q g l par own nm N k j 0 lj parj nmj frj W')(hk:k+j≤N.length)(h1:DE W p pn pr D Es R b lj parj (ownP own 0) nmj):DE W p pn pr D Es R b l par own nm:=by
 obtain⟨vE,vN,ad,cap,h⟩:=h1;exact⟨vE,vN,ad,cap,h.e,gw.undoD0 hk h.n,h.g,h.d⟩
theorem z2k(kz:Nat)(h:KE wa q base p pn pr D g l par own nm fr Es R b w)(ad:Option Addr)(cap:Nat)(L:List (List Nat))(hA:StrA w ad L)(hAq:0<L.length→∀gb o,ad=some ⟨gb,o,none⟩→gb∉q.blocks∧gb∉D)(hb:zzj L≤1131)(hl:L.length≤130)(ho:∀y,own y≤1000000):Calls prog 54 #[kz,q,some p,.slice ad L.length cap] w (Gn24 wa q base p pn pr D g l par own nm Es R b L w):=by
 have HP:=hid (zzw h.c ad cap L hA (fun h0 g o e=>(hAq h0 g o e).1) (by omega) (fun y=>by have:=ho y;omega));have hdn:=h.c.dn;have HXP:=hid (fun W (hf:Fr q.blocks w W)=>z2h (h.d.frS hf h.qD) hdn ad cap L (hA.frN hf (fun h0 g o e=>(hAq h0 g o e).1)) (by omega) (fun y=>by have:=ho y;omega));have HQ:=hid (fun g (hg:g<w.heap.size) (hn:g∉q.blocks∧g∉D) W D' (hW:Nk q D w D' W) o u (hc:w.cell? ⟨g,o,none⟩=some u)=>hW.cell hg hn.1 hn.2 hc);have HAq:=hid hAq;have HO:=hid ho;have HW:=hid (show base≤w.heap.size from Nat.le_of_lt (Nat.lt_of_le_of_lt (h.hD p (by obtain⟨vE,vN,ad,cap,h⟩:=h.d;exact(h.mem p).2 (.inl rfl))) (h.d.lt p (by obtain⟨vE,vN,ad,cap,h⟩:=h.d;exact(h.mem p).2 (.inl rfl)))));obtain⟨n,hn⟩:∃n,L.length=n:=⟨_,rfl⟩;have HN:=hid hn;rw[hn]at hl HP HXP⊢;clear hAq hb ho hn;go_in;go_wp2_with fail;go_call HP.out as e w1 ⟨f1,⟨hck,rfl,h1⟩|⟨hck,at0,k,rfl,hk,h1⟩⟩
 ·have hxp:=HXP.out _ f1
  have HCK:=hid hck;have d1:=(h.d.frS f1 h.qD).c1;have bc:((chkN L:Int) !=0)=true:=by rw[bne_iff_ne];omega
  have bc':(chkN L !=0)=true:=by rw[bne_iff_ne];exact hck
  generalize hce:chkN L=ck at*;have HCE:=hid hce;clear hce;clear hck HP HXP;go_wp2_with fail;go_call hxp as e w2 ⟨D2,n2,⟨-,rfl,h2⟩|⟨hc0,-⟩⟩
  ·have HE:=show Gn24 wa q base p pn pr D g l par own nm Es R b L w (.returned (.tuple #[(0:Int),false])) w2 from⟨D2,(Nk.ofQ f1).trans (Nk.ofD n2),.inl ⟨rfl,.inl (by rw[HCE.out];exact HCK.out),fr,h1.frL h.ok n2.f h.hD,h2,h.ok,z2g h.hD HW.out (fun k hk=>(n2.o k hk).imp id (fun e=>Nat.le_trans f1.size e))⟩⟩
   clear n2 h2 hxp;go_wp2;go_ret2;exact HE
  ·exact absurd hc0 HCK.out
 ·have hxp:=HXP.out _ f1
  have HCK:=hid hck;have HK1:=hk;have d1:=(h.d.frS f1 h.qD).c1;rw[hck]at hxp;clear hck HP HXP hk;go_wp2_with fail;go_call hxp as e w2 ⟨D2,n2,⟨hc0,-⟩|⟨-,at1,k1,rfl,hk1,h2⟩⟩
  ·exact absurd rfl hc0
  obtain⟨rfl,rfl⟩:=HK1.uniq hdn hk1;have hkn:k≤n:=by have:=hk1.le;rw[zzk,HN.out]at this;exact this
  have N2:=show Nk q D w D2 w2 from(Nk.ofQ f1).trans (Nk.ofD n2);have G2:=GwI.start (own:=own) (h1.frL h.ok n2.f h.hD) hk1;have K2:=show KE wa q base p pn pr D2 g l par (ownP own at0) nm fr Es R b w2 from⟨G2.cp,h2,h.ok,z2g h.hD HW.out (fun k hk=>(n2.o k hk).imp id (fun e=>Nat.le_trans f1.size e))⟩;have w1':IntKind.i64.wrap ((n:Int)-k)=((n-k:Nat):Int):=by rw[i6 _];omega
  have w2':IntKind.i64.wrap (((n-k:Nat):Int)-1)=((n-k:Nat):Int)-1:=i6 _;generalize hR:n-k=R0 at w1' w2';have hRn:k+R0=n:=by omega
  clear hxp n2 h2 hk1 hR h1 HK1 f1 d1;go_wp2;go_loopg [10,13] (R0+1) (fun gk v10 v13 W=>∃(j at_ m:Nat),v10= .int .i64 at_∧v13= .int .i64 ((m:Int)-1)∧(m+1=gk∧j+m=R0)∧Hid (∃D' lj parj nmj frj,GwI wa q g l par own nm (lowN L) k j at_ lj parj nmj frj W∧KE wa q base p pn pr D' g lj parj (ownP own at_) nmj frj Es R b W∧Nk q D w D' W));case atStart=>exact⟨0,at0,R0,rfl,rfl,by omega,hid ⟨_,_,_,_,_,G2,K2,N2⟩⟩
  case round=>
   clear G2 K2 N2;obtain⟨j,at_,m,rfl,rfl,hm,HG⟩:=hrel;cases m with
   |zero=>
    have HE:=(show Gn24 wa q base p pn pr D g l par own nm Es R b L w (.returned (.tuple #[at_,true])) wr from by
     obtain⟨D',lj,parj,nmj,frj,h1,h2,h3⟩:=HG.out;exact⟨D',h3,.inr ⟨at_,rfl,HCK.out,j,k,lj,parj,nmj,frj,by rw[HN.out];omega,h1,h2⟩⟩)
    rw[show(((0:Nat):Int)-1)= -1 from rfl];clear HG HCK;go_wp2;go_ret2;exact HE
   |succ t=>
    have ez:(((t+1:Nat):Int)-1)=(t:Int):=by omega
    rw[ez];have hL:t<L.length:=by rw[HN.out];omega
    have HNE:=hid (show L≠ []from fun e=>by rw[e]at hL;simp at hL);obtain⟨gb,o,rfl,hc,hg⟩:=hA.at_ t hL;have hgd:L[t]?=some (L[t]'hL):=List.getElem?_eq_getElem hL;rw[hgd]at hc;simp only[Option.getD_some]at hc;have hs:=hA.lt _ (List.getElem_mem hL)
    have hsk:zuz (L[t]'hL)=true:=by
     have hck:=HCK.out;unfold chkN at hck;by_cases ha:L.all zuz=true
     ·exact List.all_eq_true.1 ha _ (List.getElem_mem hL)
     ·rw[if_neg ha]at hck;cases hck
    have HSX:=hid (show sfx (lowN L) (k+j+1)=(L[t]'hL).map lowB::sfx (lowN L) (k+j)from by
     rw[zzh (by rw[zzk,HN.out];omega)];congr 1;simp only[lowN,List.getElem_map,List.length_map,HN.out];congr 1;congr 1;omega)
    have hkl:k+j<(lowN L).length:=by rw[zzk,HN.out];omega
    obtain⟨D',lj,parj,nmj,frj,hG,hKj,hNj⟩:=HG.out;have HcW:=hid (fun W D2 (hW:Nk q D w D2 W)=>HQ.out gb hg (HAq.out (by omega) gb o rfl) W D2 hW _ _ hc);have hcW:=HcW.out _ _ hNj;generalize L[t]'hL=s at*;have hs63:=(zwy hsk).2;have hcls:=zv7 (16+s.length) (by omega);have HCl:=hid (z1x hG.cp hs hsk);have HTk:=hid (fun W' (hf:Fr [] wr W')=>zx8 (hG.cp.fr0 hf) (c:=clsN (16+s.length)) ⟨hcls.1,hcls.2.1⟩)
    have hpa:at_=0∨(at_∈lj∧ownP own at_ at_≠0):=hG.pl.imp id (fun hm=>⟨hm,by
      have h0:at_≠0:=(hG.cp.rng hm).1;rw[z0j _ h0];omega⟩)
    have hnos:∀y∈lj,nmj y≠s.map lowB::nmj at_:=fun y hy e=>hG.no hkl y hy (by rw[e,HSX.out,hG.ew])
    have HGr:=hid (fun W x (hW:CPT wa q g lj parj (ownP own at_) nmj x (clsN (16+s.length)) W)=>zzz hW (p:=at_) hpa hs hsk hnos (fun _=>by
      have:=z0l own at_ at_;have:=HO.out at_;omega) hG.cp.few)
    have HXG:=hid (fun W x (hW:DE W p pn pr D' Es R b lj parj (ownP own at_) nmj) (h1:x∉lj) (h2:x≠0)=>z2i hW hG.cp.dn ⟨h1,h2,hpa⟩ hs hsk hnos (fun y=>by
      have:=z0l own at_ y;have:=HO.out y;omega))
    have HXD:=hid (fun(h0:at_≠0) W (hW:DE W p pn pr D' Es R b lj parj (ownP own at_) nmj)=>z2j hW hG.cp.dn (hG.pl.resolve_left h0) (own at_) (z0j own h0) (fun y=>by
      have:=z0l own at_ y;have:=HO.out y;omega))
    have HX0:=hid (fun x (hx:x∉lj)=>(show own x=0 from by
     have h1:=hG.cp.out hx;have h2:=z0m own at_ x;omega))
    have HKL:=hid hkl;have t0:(0:Int)≤t:=by omega
    have t1:(t:Int)<n:=by omega
    have wt:=i6 ((t:Int)-1);generalize za0 s=S at*;generalize clsN (16+s.length)=cl at*;clear hc hgd hL hs hsk hs63 hcls hkl ez HG hpa hnos;go_wp2_with fail;go_call HCl.out as e w3 ⟨rfl,f3⟩;have HTk':=hid (HTk.out _ f3);have F3:=f3.nil (S:=q.blocks);clear f3 HCl HTk hcW;go_wp2_with fail;go_call HTk'.out as e w4 ⟨x,r,rfl,f4,⟨rfl,h4⟩|⟨rfl,h4⟩⟩
    ·have F4:=F3.trans f4
     have D4:=hKj.d.frS F4 hKj.qD;clear f4 HTk' HGr HX0 HXG;by_cases ha:at_=0
     ·subst ha
      have HU:=show CP wa q g l par own nm 0 w4 from(⟨h4,hG.pl,hG.ew,hG.rem,hG.pa,hG.na,hG.len,hG.sf,hG.no⟩:GwI wa q g l par own nm (lowN L) k j 0 lj parj nmj 0 w4).undo0 (Nat.le_of_lt HKL.out);have HE:=show Gn24 wa q base p pn pr D g l par own nm Es R b L w (.returned (.tuple #[(0:Int),false])) w4 from⟨D',hNj.trans (Nk.ofQ F4),.inl ⟨rfl,.inr HNE.out,_,HU,hG.undoE0 (Nat.le_of_lt HKL.out) D4,hKj.ok,hKj.hD⟩⟩;have d1:=D4.c1;clear HU h4 hG HXD;go_wp2_with fail;go_call zzy as e w5 ⟨rfl,he⟩;rw[he];clear he;go_wp2_with fail;go_call z1t as e w6 ⟨rfl,he⟩;rw[he];clear he;go_wp2;go_ret2;exact HE
     ·have HDr:=hid (zzx h4 (hG.pl.resolve_left ha) (own at_) (z0j own ha))
      have HAT:=hid ha;clear ha h4;go_wp2_with fail;go_call HDr.out as e w5 ⟨n5,l1,fr1,rfl,f5,h5,h5b,h5c⟩;have D5:=D4.frS f5 hKj.qD;have hxd:=HXD.out HAT.out _ D5;have d1:=D5.c1;have F5:=F4.trans f5;clear f5 h5c HDr;go_wp2_with fail;go_call hxd as e w6 ⟨n6,l6,D6,rfl,x6,h6,r6,c6,m6⟩;have HE:=show Gn24 wa q base p pn pr D g l par own nm Es R b L w (.returned (.tuple #[(0:Int),false])) w6 from⟨D6,(hNj.trans (Nk.ofQ F5)).trans (Nk.ofD x6),.inl ⟨rfl,.inr HNE.out,fr1,hG.undo h.c.firm HAT.out (h5.frL h.ok x6.f hKj.hD) h5b,hG.undoE h.c.firm HAT.out h6 r6 m6,h.ok,z2g hKj.hD (Nat.le_trans HW.out (Nat.le_trans hNj.f.size F5.size)) x6.o⟩⟩;clear h6 r6 c6 m6 x6 hxd hG;go_wp2;go_ret2;exact HE
    ·have F4:=F3.trans f4
     have HGr':=hid (HGr.out _ _ h4);have hcW:=HcW.out _ _ (hNj.trans (Nk.ofQ F4));clear f4 h4 HTk' HGr;go_wp2_with fail;go_call HGr'.out as e w5 ⟨rfl,f5,hx1,hx2,hx3,fr5,h5⟩;have F5:=F4.trans f5;have D5:=hKj.d.frS F5 hKj.qD;have HXg:=hid (fun W (hf:Fr [] w5 W)=>HXG.out W x (D5.fr0 hf) hx1 hx2);have N5:=hNj.trans (Nk.ofQ F5);have X5:=hid (And.intro hx1 (And.intro hx2 hx3));clear f5 hx1 hx2 hx3 hcW HGr' HXG;have hY:=And.intro (HcW.out _ _ (N5.trans (Nk.of0 ((Fr.refl [] w5).drew)))) (D5.fr0 (Fr.refl [] w5).drew).c1;go_wp2_with fail;refine wp_region_held_drew (S:=fun W=>W.cell? ⟨gb,o+t,none⟩=some (.string S)∧W.cell? ⟨p,1,none⟩=some (some pn:Value)) (by kernel_rfl) (hY) (fun yH=> ?_);refine tkZ 0 ?_;refine tkZ 1 ?_;refine tkZ 2 ?_;refine tkZ 3 ?_;refine tkZ 4 ?_;refine tkZ 5 ?_;refine tkZ 6 ?_;refine tkZ 7 ?_;refine tkZ 8 ?_;refine tkZ 9 ?_;refine tkC 10 fun K hK=> ?_;go_simp;go_call HXg.out _ (Fr.refl [] _).drew as e w6 ⟨D6,rfl,x6,d6⟩;have x6':=(Nd.of0 (D:=D') (Fr.refl [] w5).drew).trans x6;have N6:=hid (N5.trans (Nk.ofD x6'));have G6:=hG.next HKL.out HSX.out X5.1 X5.2.1 X5.2.2 (HX0.out x X5.1) (h5.frL h.ok x6'.f hKj.hD);rw[z1y X5.2.1 (HX0.out x X5.1) X5.2.2]at d6;have hY:=And.intro (HcW.out _ _ N6.out) d6.c1;have K6:=show KE wa q base p pn pr D6 g _ _ _ _ _ Es R b w6 from⟨G6.cp,d6,h.ok,z2g hKj.hD (Nat.le_trans HW.out N5.f.size) x6'.o⟩;clear d6 x6 x6';go_wp2_with fail;refine hK.out _ _ _ hY fun yH=> ?_;clear hK K;refine wpAnyH_done (by kernel_rfl) ?_ _;try simp only[gP,List.getElem_cons_zero]
     clear hY HX0 HXg HXD;go_wp2;go_roundg (gk-1);case measure=>omega
     case rel=>exact⟨j+1,x,t,rfl,rfl,by omega,hid ⟨D6,_,_,_,_,G6,K6,N6.out⟩⟩
end
theorem z2l:∀(k:Nat) (L:List (List Nat)),∀e∈zqi k L,e≤k+L.flatten.length
 |k,[],e,h=>by cases h
 |k,x::L,e,h=>by
  simp only[zqi,List.mem_cons]at h;rw[List.flatten_cons,List.length_append];rcases h with rfl|h
  ·omega
  ·have:=z2l (k+x.length) L e h
   omega
theorem z2m{L:List (List Nat)}(hG:GoodR L)(hb:∀x∈L,∀b∈x,b<256):∀b∈zqj L,b<256:=by
 have h1:=hG.n;have h2:=hG.s;have h3:=hG.size;intro b hm;simp only[zqj,List.mem_cons,List.mem_append,List.mem_flatMap,List.mem_flatten]at hm;rcases hm with rfl|rfl|⟨e,he,hm⟩|⟨x,hx,hm⟩
 ·omega
 ·omega
 ·have:=z2l 0 L e he
  simp only[le2,List.mem_cons,List.not_mem_nil,or_false]at hm;rcases hm with rfl|rfl<;>omega
 ·exact hb x hx b hm
structure ERel(g:EW)(Es:List ED):Prop where
 y:Es.map (·.y)=g.R
 f: ∀d∈Es,d.p=(g.d d.y).name∧d.ty=(g.d d.y).typ
section
variable{wa w W:World}{q:MH}{base p pn pr fr b x c name typ ex:Nat}{D D' l R:List Nat}{g:EW}{par own:Nat→Nat}{nm:Nat→List (List Nat)}{Es:List ED}{k j at_ frj:Nat}{lj:List Nat}{parj:Nat→Nat}{nmj:Nat→List (List Nat)}
theorem ERel.in_(h:ERel g Es){z:Nat}:z∈g.R↔∃d∈Es,d.y=z:=by
 rw[←h.y,List.mem_map]
theorem isKey_iff{E:Nat→HB}{z:Nat}:zyq E name typ z=true↔(E z).name=name∧(E z).typ=typ:=by
 unfold zyq;simp
theorem ERel.none(h:ERel g Es)(hn:g.R.find? (zyq g.d name typ)=none):∀d∈Es,d.p=name→d.ty≠typ:=fun d hd e1 e2=>by
 have:=List.find?_eq_none.1 hn d.y (h.in_.2 ⟨d,hd,rfl⟩);exact this (isKey_iff.2 ⟨by rw[←(h.f d hd).1,e1],by rw[←(h.f d hd).2,e2]⟩)
theorem ERel.some(h:ERel g Es){z:Nat}(hn:g.R.find? (zyq g.d name typ)=some z):∃d∈Es,d.p=name∧d.ty=typ:=by
 have h1:=List.find?_some hn;obtain⟨d,hd,e⟩:=h.in_.1 (List.mem_of_find?_eq_some hn);obtain⟨k1,k2⟩:=isKey_iff.1 h1;exact⟨d,hd,by rw[(h.f d hd).1,e,k1],by rw[(h.f d hd).2,e,k2]⟩
theorem ERel.add(h:ERel g Es)(hx:x∉g.R){X:HB}{bs:List Nat}{e:ED}(h1:e.y=x)(h2:e.p=X.name)(h3:e.ty=X.typ):ERel (g.add x X bs) (Es++ [e]):=by
 refine⟨?_,fun d hd=> ?_⟩
 ·show List.map _ _=g.R++ [x]
  rw[List.map_append,h.y];show g.R++ [e.y] =_;rw[h1]
 ·show d.p=(up g.d x X d.y).name∧d.ty=(up g.d x X d.y).typ
  rcases List.mem_append.1 hd with hd|hd
  ·have:d.y≠x:=fun e=>hx (h.in_.2 ⟨d,hd,e⟩)
   rw[zf2 _ _ this];exact h.f d hd
  ·rw[List.mem_singleton.1 hd,h1,zf1]
   exact⟨h2,h3⟩
theorem EHs.sub(h:EHs g l nm)(hs:∀y∈l,y∈lj)(hn:∀y,y=0∨y∈l→nmj y=nm y):EHs g lj nmj:=
 ⟨fun y hy=>(h.ok y hy).imp id (hs _),fun y hy=>by rw[hn _ (h.ok y hy)];exact h.hs y hy,h.one⟩
theorem EHs.add(h:EHs g l nm)(hx:x∉g.R){X:HB}{bs:List Nat}(hN:X.name=0∨X.name∈l)(hh:X.hash=keyH (HN (nm X.name)) X.typ)(hn:g.R.find? (zyq g.d X.name X.typ)=none):EHs (g.add x X bs) l nm:=by
 have hne:∀{y},y∈g.R→y≠x:=fun{y} hy e=>hx (e▸hy)
 have hm:∀{y},y∈(g.add x X bs).R→y∈g.R∨y=x:=fun{y} hy=>by
  rcases List.mem_append.1 (show y∈g.R++ [x]from hy)with k|k
  ·exact .inl k
  ·exact .inr (List.mem_singleton.1 k)
 have e1:∀{y},y∈g.R→(g.add x X bs).d y=g.d y:=fun{y} hy=>zf2 _ _ (hne hy);have e2:(g.add x X bs).d x=X:=zf1 _ _ _;have hno:=List.find?_eq_none.1 hn;refine⟨fun y hy=> ?_,fun y hy=> ?_,fun y hy z hz k1 k2=> ?_⟩
 ·rcases hm hy with k|rfl
  ·rw[e1 k];exact h.ok y k
  ·rw[e2];exact hN
 ·rcases hm hy with k|rfl
  ·rw[e1 k];exact h.hs y k
  ·rw[e2];exact hh
 ·rcases hm hy with k|rfl<;>rcases hm hz with k'|rfl
  ·rw[e1 k,e1 k']at k1 k2;exact h.one y k z k' k1 k2
  ·rw[e1 k,e2]at k1 k2;exact absurd (isKey_iff.2 ⟨k1,k2⟩) (hno y k)
  ·rw[e1 k',e2]at k1 k2;exact absurd (isKey_iff.2 ⟨k1.symm,k2.symm⟩) (hno z k')
  ·rfl
theorem z2n(h:CP wa q g l par own nm fr W)(n:Nat)(hn:n≤480):Calls prog 55 #[n] W (zE (.tuple #[.int .i64 (clsM (32+n)),(0:Int)]) W):=by
 obtain⟨refs,B,⟨S,L,u,E,B0,gi,_⟩,_⟩:=h;exact zy6 gi.wb.h.m.tab n hn
theorem z2o(h:CP wa q g l par own nm fr W)(p name:Nat):Calls prog 53 #[q,p,name,.int .u16 typ,.int .u64 ex,.slice none 0 0] W (zN (3:Int) W):=by
 obtain⟨refs,B,⟨S,L,u,E,B0,gi,_⟩,_⟩:=h;exact zza gi.wb.h.m p name
theorem CP.rfew(h:CP wa q g l par own nm fr W):g.R.length≤224∧g.R.Nodup:=by
 obtain⟨refs,B,⟨S,L,u,E,B0,gi,ha,hd,_⟩,_⟩:=h;exact⟨gi.wb.fewL hd.nd (fun y hy=>(ha.2 y hy).1),hd.nd⟩
theorem CPT.nR(h:CPT wa q g l par own nm x c W):x∉g.R:=fun hm=>by
 obtain⟨refs,B,⟨S,L,v,E,B0,_,hfx,ha,_⟩,_⟩:=h;exact hfx.no (ha.2 x hm).1
theorem CP.empty(h:CP wa q g [] par own nm fr W)(hR:g.R= []):fr=7:=by
 obtain⟨refs,B,h1,_⟩:=h;exact h1.empty hR
def Pt24(wa:World)(q:MH)(base p pn pr:Nat)(D:List Nat)(g:EW)(l:List Nat)(par own:Nat→Nat)(nm:Nat→List (List Nat))(Es:List ED)(L:List (List Nat))(typ ex:Nat)(Ls:List (List Nat))(w:World)(e:Ending)(w':World):Prop:=
 ∃D',Nk q D w D' w'∧
  ((e= .returned (.tuple #[(0:Int),true])∧(GoodR Ls→chkN L=0→L= [] →g.R= [] →l= [] →False)∧ ∃fr1,KE wa q base p pn pr D' g l par own nm fr1 Es g.R g.b w')∨
   (∃(x name:Nat) (l1:List Nat) (par1:Nat→Nat) (nm1:Nat→List (List Nat)) (fr1:Nat) (ad:Option Addr) (cp:Nat),e= .returned (.tuple #[x,true])∧(x≠0∧x<1048576∧x∉g.R∧x∉l1)∧GoodR Ls∧chkN L=0∧(name=0∨name∈l1)∧nm1 name=lowN L∧((∀y∈l,y∈l1)∧ ∀y∈l1,y∉l→ ∃s,lowN L=s++nm1 y)∧(∀y,y=0∨y∈l→nm1 y=nm y)∧g.R.find? (zyq g.d name typ)=none∧RecO w' w.heap.size (.slice ad Ls.length cp) Ls∧
    KE wa q base p pn pr D' (g.add x (enX (clsM (32+(zqj Ls).length)) (zqj Ls).length name typ ex (keyH (HN (nm1 name)) typ)) (zqj Ls)) l1 par1 (ownP own name) nm1 fr1 (Es++ [⟨x,name,typ,ex,ad,Ls.length,cp,false⟩]) (g.R++ [x]) (insB g.R g.b x) w'))
theorem z2p{P:Nat→Prop}(kz:Nat)(h:KE wa q base p pn pr D g l par own nm fr Es g.R g.b w)(hr:ERel g Es)(hE:EHs g l nm)(ad:Option Addr)(cap:Nat)(L:List (List Nat))(hA:StrA w ad L)(hAq:0<L.length→∀gb o,ad=some ⟨gb,o,none⟩→gb∉q.blocks∧gb∉D)(hb:zzj L≤1131)(hl:L.length≤130)(ho:∀y,own y≤1000000)
  (adr:Option Addr) (capr:Nat) (Ls:List (List Nat)) (hRA:RecA P w adr Ls) (ht:typ<65536) (hex:ex<18446744073709551616):
  Calls prog 17 #[kz,q,some p,.slice ad L.length cap,.int .u16 typ,.int .u64 ex,.slice adr Ls.length capr] w (Pt24 wa q base p pn pr D g l par own nm Es L typ ex Ls w):=by
 by_cases hG:zql Ls=0
 ·have hG:=packE_0.1 hG
  have hPk:=zq4 w adr capr Ls hRA hG;rw[show zqk Ls=(zqj Ls).length from by rw[hG.size,zqp]]at hPk;have hpl:(zqj Ls).length≤480:=by rw[zqp,←hG.size];exact hG.s
  have HPB:=hid (z2m hG hRA.byte);have HPK:=hid hPk;have HGr:=hid (fun W (hW:Fr [] w W)=>(show Calls prog 54 #[(0:Int),q,some p,.slice ad L.length cap] W (Gn24 wa q base p pn pr D g l par own nm Es g.R g.b L W)from z2k 0 (h.fr0 hW) ad cap L (hA.frN hW (fun _ _ _ _=>by simp)) hAq hb hl ho));have HO:=hid ho;have HT:=hid (And.intro ht hex);have HW:=hid (show base≤w.heap.size from Nat.le_of_lt (Nat.lt_of_le_of_lt (h.hD p (by obtain⟨vE,vN,ad,cap,h⟩:=h.d;exact(h.mem p).2 (.inl rfl))) (h.d.lt p (by obtain⟨vE,vN,ad,cap,h⟩:=h.d;exact(h.mem p).2 (.inl rfl)))))
  have HFew:=hid (show Es.length≤1000∧g.R.length≤1000 from by
   have e:Es.length=g.R.length:=by rw[←hr.y,List.length_map]
   have:=h.c.rfew.1;omega)
  obtain⟨nL,hnL⟩:∃nL,L.length=nL:=⟨_,rfl⟩;have HNL:=hid hnL;obtain⟨nP,hnP⟩:∃nP,(zqj Ls).length=nP:=⟨_,rfl⟩;have HNP:=hid hnP;rw[hnL]at HGr⊢;rw[hnP]at HPK hpl;obtain⟨nR,hnR⟩:∃nR,Ls.length=nR:=⟨_,rfl⟩;have HNR:=hid hnR;rw[hnR]at HPK⊢;clear hA hAq hb hl ho hRA ht hex hPk hnL hnP hnR;go_in;go_wp2_with fail;go_call HPK.out as e w1 ⟨g0,rfl,hg0,hb1,f1⟩;have hgr:=HGr.out w1 f1;have B1:=hb1.byt HPB.out (by rw[HNP.out];omega);have HG0:=hid hg0;clear hg0 hb1 HPK HGr;go_wp2_with fail;go_call hgr as e w2 ⟨D',n2,⟨rfl,hwhy,fr1,h2⟩|⟨at_,rfl,hck,j,kk,lj,parj,nmj,frj,hkj,hgw,h2⟩⟩
  ·have HE:=show Pt24 wa q base p pn pr D g l par own nm Es L typ ex Ls w (.returned (.tuple #[(0:Int),true])) w2 from⟨D',(Nk.of0 f1).trans n2,.inl ⟨rfl,fun _ k1 k2 _ _=>hwhy.elim (fun k=>k k1) (fun k=>k k2),fr1,h2⟩⟩
   clear n2 hwhy h2 hgr;go_wp2;go_ret2;exact HE
  have N2:=(Nk.of0 (D:=D) f1).trans n2
  have B2:=(show Byt w2 (some ⟨g0,0,none⟩) (zqj Ls)from B1.fr n2.f (fun gb o e=>by
   injection e with e;injection e with e _;subst e;intro hm;have h1:=HG0.out;rcases List.mem_append.1 hm with hm|hm
   ·have:=h.ok.q _ hm
    have:=HW.out;omega
   ·have:=h.d.lt _ hm
    omega))
  have HCK:=hid hck;have HKJ:=hid hkj;have HKL:=hid (show kk+j≤(lowN L).length from by rw[zzk];omega);have HCe:=hid (z2n h2.c nP hpl);have hcl:=zy5 (32+nP) (by omega);have HTk:=hid (zx8 h2.c ⟨hcl.1,hcl.2.1⟩)
  have HXD:=hid (fun(h0:at_≠0) W D' (hW:DE W p pn pr D' Es g.R g.b lj parj (ownP own at_) nmj)=>z2j hW hgw.cp.dn (hgw.pl.resolve_left h0) (own at_) (z0j own h0) (fun y=>by
   have:=z0l own at_ y;have:=HO.out y;omega))
  have HD':=hid h2.hD;clear n2 hck hgr HO hcl hkj;go_wp2_with fail;go_call HCe.out as e w3 ⟨rfl,hw3⟩;have hw3:=hw3.symm;subst hw3;obtain⟨cl,hcl⟩:∃cl,clsM (32+nP)=cl:=⟨_,rfl⟩;have HCL:=hid hcl;rw[hcl]at HTk;rw[hcl];clear hcl HCe;go_wp2_with fail;go_call HTk.out as e w4 ⟨x,r,rfl,f4,⟨rfl,h4⟩|⟨rfl,h4⟩⟩
  ·obtain⟨frT,hfrT⟩:∃frT,0=frT:=⟨_,rfl⟩
   have WHY:=hid (show GoodR Ls→chkN L=0→L= []→g.R= []→l= []→False from fun _ _ k2 k3 k4=>by
    have e1:=hgw.len;have e2:=HKJ.out;rw[k4]at e1;rw[k2]at e2;simp at e1 e2;have e3:lj= [] :=List.eq_nil_of_length_eq_zero (by omega);rw[e3]at h4;have:=h4.empty k3;omega)
   rw[hfrT]at h4;have N8:=N2.trans (Nk.ofQ f4);have D8:=h2.d.frS f4 h2.qD;have HqD:=hid h2.qD;obtain⟨w8,hw8⟩:∃w8,w4=w8:=⟨_,rfl⟩;subst hw8;have HXD:=hid (fun h0 W hW=>HXD.out h0 W D' hW);clear f4 HTk hfrT;go_wp2_with fail;by_cases ha:at_=0
   ·subst ha
    have HU:=show CP wa q g l par own nm frT w4 from(⟨h4,hgw.pl,hgw.ew,hgw.rem,hgw.pa,hgw.na,hgw.len,hgw.sf,hgw.no⟩:GwI wa q g l par own nm (lowN L) kk j 0 lj parj nmj frT w4).undo0 HKL.out;have HE:=show Pt24 wa q base p pn pr D g l par own nm Es L typ ex Ls w (.returned (.tuple #[(0:Int),true])) w4 from⟨D',N8,.inl ⟨rfl,WHY.out,_,HU,hgw.undoE0 HKL.out D8,h.ok,HD'.out⟩⟩;have d1:=D8.c1;clear HU hgw;go_wp2_with fail;first|(with_reducible refine(show Calls prog 59 #[q,.int .i64 ((0:Nat):Int)] _ (zR (.tuple #[(0:Int),(0:Int)]) fun w'=>w'=_)from zzy).mono ?_)|(with_reducible refine(zzy).mono ?_)
    rintro e w9 ⟨rfl,he⟩;rw[he];clear he;go_wp2_with fail;first|(with_reducible refine(show Calls prog 60 #[some pn,.int .i64 ((0:Nat):Int)] _ (zR (.tuple #[(0:Int),(0:Int)]) fun w'=>w'=_)from z1t).mono ?_)|(with_reducible refine(z1t).mono ?_)
    rintro e w10 ⟨rfl,he⟩;rw[he];clear he;go_wp2;go_ret2;exact HE
   ·have HDr:=hid (zzx h4 (hgw.pl.resolve_left ha) (own at_) (z0j own ha))
    have HAT:=hid ha;clear ha;go_wp2_with fail;go_call HDr.out as e w9 ⟨n5,l1,fr1,rfl,f5,h5,h5b,h5c⟩;have D9:=D8.frS f5 HqD.out;have hxd:=HXD.out HAT.out _ D9;have d1:=D9.c1;have L9:=hid h5c;clear h5c HDr;go_wp2_with fail;go_call hxd as e w10 ⟨n6,l6,D6,rfl,x6,h6,r6,c6,m6⟩;have el:l6=l1:=r6.uniq h5b m6 h5.firm hgw.cp.nd;have en:n6=n5:=by have:=L9.out;rw[el]at c6;omega
    subst en;have HE:=show Pt24 wa q base p pn pr D g l par own nm Es L typ ex Ls w (.returned (.tuple #[(0:Int),true])) w10 from⟨D6,(N8.trans (Nk.ofQ f5)).trans (Nk.ofD x6),.inl ⟨rfl,WHY.out,fr1,hgw.undo h.c.firm HAT.out (h5.frL h.ok x6.f HD'.out) h5b,hgw.undoE h.c.firm HAT.out h6 r6 m6,h.ok,z2g HD'.out (Nat.le_trans HW.out (Nat.le_trans N8.f.size f5.size)) x6.o⟩⟩;clear h6 r6 c6 m6 x6 hxd hgw;go_wp2;go_ret2;exact HE
  ·have h4':=h4.fr0 (Fr.refl [] w4)
   have HqD:=hid h2.qD;have HXD:=hid (fun h0 W hW=>HXD.out h0 W D' hW);have N4:=N2.trans (Nk.ofQ f4);have D4:=h2.d.frS f4 h2.qD
   have B4:=(show Byt w4 (some ⟨g0,0,none⟩) (zqj Ls)from B2.fr f4 (fun gb o e=>by
    injection e with e;injection e with e _;subst e;intro hm;have h1:=HG0.out;have:=h.ok.q _ hm;have:=HW.out;omega))
   have HEJ:=hE.sub hgw.sub hgw.na
   have HMk:=hid (show Calls prog 53 #[q,x,at_,.int .u16 typ,.int .u64 ex,.slice (some ⟨g0,0,none⟩) nP nP] w4 _ from by
    have:=zzd (name:=at_) (typ:=typ) (ex:=ex) (by rw[HNP.out,HCL.out];exact h4) HEJ hG (some ⟨g0,0,none⟩) nP B4 (Nat.le_of_eq HNP.out) (fun k o e=>by
     injection e with e;injection e with e _;subst e;intro hm;have h1:=HG0.out;have:=h.ok.q _ hm;have:=HW.out;omega) hgw.pl HT.1 HT.2
    rw[HNP.out]at this;exact this)
   clear f4 h4' HTk;go_wp2_with fail;go_call HMk.out as e w5 ⟨f5,⟨rfl,hfi,hxR,hxl,hx0,hxb,fr5,h5⟩|⟨rfl,⟨z,hfi⟩,h5⟩⟩
   ·have D5:=D4.frS f5 HqD.out
    have N5:=N4.trans (Nk.ofQ f5)
    have B5:=(B4.fr f5 (fun gb o e=>by
     injection e with e;injection e with e _;subst e;intro hm;have h1:=HG0.out;have:=h.ok.q _ hm;have:=HW.out;omega))
    have HXM:=hid (show Calls prog 57 #[some p,x,at_,.int .u16 typ,.int .u64 ex,.slice (some ⟨g0,0,none⟩) nP nP] w5 (MkD w5 p pn pr D' Es g.R g.b lj parj (ownP own at_) nmj x at_ typ ex Ls)from by
     have:=z2f (x:=x) (typ:=typ) (ex:=ex) D5 HFew.1 (by have:=hgw.cp.few;omega) HFew.2 hG (some ⟨g0,0,none⟩) nP B5 (Nat.le_of_eq HNP.out) hgw.pl hxR;rw[HNP.out]at this;exact this)
    have HX:=hid (And.intro hx0 (And.intro hxb (And.intro hxR hxl)));have HFI:=hid hfi;clear f5 hfi hxR hxl hx0 hxb HMk;go_wp2_with fail;go_call HXM.out as e w6 (⟨hk,rfl,-⟩|⟨-,rfl,D6,ad6,cp6,d6,n6,r6⟩)
    ·obtain⟨d,hd,hd1,hd2⟩:=hk
     exact absurd hd2 (hr.none HFI.out d hd hd1)
    ·have HE:=show Pt24 wa q base p pn pr D g l par own nm Es L typ ex Ls w (.returned (.tuple #[x,true])) w6 from⟨D6,N5.trans (Nk.ofD n6),.inr ⟨x,at_,lj,parj,nmj,fr5,ad6,cp6,rfl,HX.out,hG,HCK.out,hgw.pl,by rw[hgw.ew,HKJ.out,←zzk,zzf],⟨hgw.sub,hgw.sf⟩,hgw.na,HFI.out,r6.lo (Nat.le_trans N5.f.size (Nat.le_refl _)),by rw[HNP.out];exact h5.frL h.ok n6.f HD'.out,d6,h.ok,z2g HD'.out (Nat.le_trans HW.out N5.f.size) n6.o⟩⟩
     clear d6 n6 r6 HXM;go_wp2;go_ret2;exact HE
   ·have D5:=D4.frS f5 HqD.out
    have N5:=N4.trans (Nk.ofQ f5)
    have B5:=(B4.fr f5 (fun gb o e=>by
     injection e with e;injection e with e _;subst e;intro hm;have h1:=HG0.out;have:=h.ok.q _ hm;have:=HW.out;omega))
    have HXM:=hid (fun hxR=>(show Calls prog 57 #[some p,x,at_,.int .u16 typ,.int .u64 ex,.slice (some ⟨g0,0,none⟩) nP nP] w5 (MkD w5 p pn pr D' Es g.R g.b lj parj (ownP own at_) nmj x at_ typ ex Ls)from by
     have:=z2f (x:=x) (typ:=typ) (ex:=ex) D5 HFew.1 (by have:=hgw.cp.few;omega) HFew.2 hG (some ⟨g0,0,none⟩) nP B5 (Nat.le_of_eq HNP.out) hgw.pl hxR;rw[HNP.out]at this;exact this))
    have HXR:=hid h5.nR;have WHY:=hid (show GoodR Ls→chkN L=0→L= []→g.R= []→l= []→False from fun _ _ _ k3 _=>by rw[k3]at hfi;cases hfi);have HGv:=hid (fun W (hf:Fr [] w5 W)=>z0o (h5.fr0 hf));have HFI:=hid (hr.some hfi);clear f5 hfi h5 HMk;go_wp2_with fail;go_call HXM.out HXR.out as e w6 (⟨-,rfl,f6⟩|⟨hno,-⟩)
    ·have hgv:=HGv.out w6 f6
     clear HXM HGv;go_wp2_with fail;go_call hgv as e w8 ⟨rfl,f8,frT,h8⟩;have D8:=(D5.fr0 f6).frS f8 HqD.out;have N8:=(N5.trans (Nk.of0 f6)).trans (Nk.ofQ f8);clear f8 hgv;go_wp2_with fail;by_cases ha:at_=0
     ·subst ha
      have HU:=show CP wa q g l par own nm frT w8 from(⟨h8,hgw.pl,hgw.ew,hgw.rem,hgw.pa,hgw.na,hgw.len,hgw.sf,hgw.no⟩:GwI wa q g l par own nm (lowN L) kk j 0 lj parj nmj frT w8).undo0 HKL.out;have HE:=show Pt24 wa q base p pn pr D g l par own nm Es L typ ex Ls w (.returned (.tuple #[(0:Int),true])) w8 from⟨D',N8,.inl ⟨rfl,WHY.out,_,HU,hgw.undoE0 HKL.out D8,h.ok,HD'.out⟩⟩;have d1:=D8.c1;clear HU hgw;go_wp2_with fail;first|(with_reducible refine(show Calls prog 59 #[q,.int .i64 ((0:Nat):Int)] _ (zR (.tuple #[(0:Int),(0:Int)]) fun w'=>w'=_)from zzy).mono ?_)|(with_reducible refine(zzy).mono ?_)
      rintro e w9 ⟨rfl,he⟩;rw[he];clear he;go_wp2_with fail;first|(with_reducible refine(show Calls prog 60 #[some pn,.int .i64 ((0:Nat):Int)] _ (zR (.tuple #[(0:Int),(0:Int)]) fun w'=>w'=_)from z1t).mono ?_)|(with_reducible refine(z1t).mono ?_)
      rintro e w10 ⟨rfl,he⟩;rw[he];clear he;go_wp2;go_ret2;exact HE
     ·have HDr:=hid (zzx h8 (hgw.pl.resolve_left ha) (own at_) (z0j own ha))
      have HAT:=hid ha;clear ha;go_wp2_with fail;go_call HDr.out as e w9 ⟨n5,l1,fr1,rfl,f5,h5,h5b,h5c⟩;have D9:=D8.frS f5 HqD.out;have hxd:=HXD.out HAT.out _ D9;have d1:=D9.c1;have L9:=hid h5c;clear h5c HDr;go_wp2_with fail;go_call hxd as e w10 ⟨n6,l6,D6,rfl,x6,h6,r6,c6,m6⟩;have el:l6=l1:=r6.uniq h5b m6 h5.firm hgw.cp.nd;have en:n6=n5:=by have:=L9.out;rw[el]at c6;omega
      subst en;have HE:=show Pt24 wa q base p pn pr D g l par own nm Es L typ ex Ls w (.returned (.tuple #[(0:Int),true])) w10 from⟨D6,(N8.trans (Nk.ofQ f5)).trans (Nk.ofD x6),.inl ⟨rfl,WHY.out,fr1,hgw.undo h.c.firm HAT.out (h5.frL h.ok x6.f HD'.out) h5b,hgw.undoE h.c.firm HAT.out h6 r6 m6,h.ok,z2g HD'.out (Nat.le_trans HW.out (Nat.le_trans N8.f.size f5.size)) x6.o⟩⟩;clear h6 r6 c6 m6 x6 hxd hgw;go_wp2;go_ret2;exact HE
    ·obtain⟨d,hd,hd1,hd2⟩:=HFI.out
     exact absurd hd2 (hno d hd hd1)
 ·have HPK:=hid (zq5 w adr capr Ls hRA hG)
  have HMk:=hid (show Calls prog 53 #[q,(1136:Int),(0:Int),.int .u16 typ,.int .u64 ex,.slice none 0 0] w (zN (3:Int) w)from z2o (typ:=typ) (ex:=ex) h.c 1136 0);have HE:=fun w2 (f2:Fr [] w w2)=>(show Pt24 wa q base p pn pr D g l par own nm Es L typ ex Ls w (.returned (.tuple #[(0:Int),true])) w2 from⟨D,Nk.of0 f2,.inl ⟨rfl,fun k1 _ _ _ _=>hG (packE_0.2 k1),fr,h.fr0 f2⟩⟩);have b1:((zql Ls:Int) !=0)=true:=by rw[bne_iff_ne];omega
  have b1':(zql Ls !=0)=true:=by rw[bne_iff_ne];exact hG
  generalize zql Ls=pe at*;clear h hr hE hA hAq hb hl ho hRA ht hex hG;go_in;go_wp2_with fail;go_call HPK.out as e w1 ⟨rfl,hw⟩;have hw:=hw.symm;subst hw;clear HPK;go_wp2_with fail;go_call HMk.out as e w2 ⟨rfl,f2⟩;have HE2:=HE w2 f2;clear f2 HE HMk;go_wp2;go_ret2;exact HE2
end
def ew0(t:TM):EW:=⟨t,[],0,fun _=>HB.zero,fun _=> []⟩
theorem z2q(kz:Nat)(w:World)(hM:TabM w)(hT:Tabs w):Calls prog 7 #[kz] w fun e w'=>∃(q:MH) (t:TM),e= .returned q∧CP w q (ew0 t) [] (fun _=>0) (fun _=>0) (fun _=> []) 7 w'∧P0 t∧(∀k∈q.blocks,w.heap.size≤k)∧Fr [] w w':=by
 have hn:=(show Calls prog 20 #[.agg #[(7:Int),(224:Int)]] w (NewH w 7 224)from hnew w hM hT 7 224 cfg7);go_in;go_wp2_with fail;go_call hn as e w1 ⟨q,rfl,h1,hq,f1⟩;have HB:=hid (zuv h1 cfg7);have HQ:=hid hq;clear h1 hq hn;go_wp2_with fail;go_call HB.out as e w2 ⟨rfl,f2,u,h2,s2,a2,b2,c2,d2⟩;have HG:=hid (zuu h2 d2);have OK:=h2.m.ok;have S2:=hid (And.intro s2 (And.intro a2 (And.intro b2 (And.intro c2 d2))));have F2:=f1.step f2 (fun k hk=> .inr (HQ.out k hk));clear h2 HB s2 a2 b2 c2 d2 f2;go_wp2_with fail;go_call HG.out as e w3 ⟨rfl,h3,f3⟩;have HBe:=hid (zxr h3);have F3:=F2.step f3 (fun k hk=> .inr (HQ.out k hk));clear h3 HG f3;go_wp2_with fail;go_call HBe.out as e w4 ⟨rfl,h4,f4⟩;have HRb:=hid (zsf h4);have OK4:=h4.m.ok;have F4:=F3.step f4 (fun k hk=> .inr (HQ.out k hk));clear h4 HBe f4;go_wp2_with fail;go_call HRb.out as e w5 ⟨rfl,h5,f5⟩;have F4:=F4.step f5 (fun k hk=> .inr (HQ.out k hk));clear HRb f5;go_wp2;go_ret;obtain⟨s2,a2,b2,c2,d2⟩:=S2.out;have o1:((u.setRt 17 0).setRt 13 0).Ok:=zgh OK4 13 0 (by decide);have o2:(((u.setRt 17 0).setRt 13 0).setRt 14 0).Ok:=zgh o1 14 0 (by decide);have hsl:SlI ((((u.setRt 17 0).setRt 13 0).setRt 14 0).setRt 15 0) SS.zero:=(((s2.root OK 17 0 (by decide) (.inr (by decide))).root OK4 13 0 (by decide) (.inr (by decide))).root o1 14 0 (by decide) (.inr (by decide))).root o2 15 0 (by decide) (.inr (by decide));obtain⟨t,ht⟩:∃t,(((u.setRt 17 0).setRt 13 0).setRt 14 0).setRt 15 0=t:=⟨_,rfl⟩;have e13:t.rt 13=0:=by rw[←ht];simp[TM.setRt_rt]
 have e14:t.rt 14=0:=by rw[←ht];simp[TM.setRt_rt]
 have e15:t.rt 15=0:=by rw[←ht];simp[TM.setRt_rt]
 have e17:t.rt 17=0:=by rw[←ht];simp[TM.setRt_rt]
 have ea:t.a=7:=by rw[←ht];exact a2
 have es:t.s=224:=by rw[←ht];exact b2
 have ef:t.ft=0:=by rw[←ht];exact c2
 have ez:t.sl=fun _=>0:=by rw[←ht];exact d2
 have H5:=h5;rw[ht]at H5 hsl
 have hwb:WB w q SS.zero (fun _=>False) t (fun _=>HB.zero) (fun _=> []) w5:=by
  refine⟨H5,hsl,⟨fun x hx=>hx.elim,fun i _=> .inl (by rw[ez]),?_,?_⟩,⟨⟨by decide,fun y=> ?_,fun s _ h0=>absurd (by rw[ez]) h0⟩,⟨0,by decide,.inl (by rw[ez])⟩,fun s s' _ _ h0=>absurd (by rw[ez]) h0⟩,fun x hx=>hx.elim,ea,es,ef,F4,HQ.out,fun i _ h=>absurd rfl h⟩
  ·rw[es];decide
  ·rw[es];decide
  ·unfold hmE;rw[es];exact Nat.mod_lt _ (by decide)
 have hni:NI w q SS.zero (fun _=>False) [] t (fun _=>HB.zero) (fun _=> []) w5:=by
  refine⟨hwb,List.nodup_nil,fun x=>⟨fun h=>(nomatch h),fun h=>h.1.elim⟩,e17,fun x hx=>⟨fun⟨s,_,e⟩=>hx (by rw[←e];rw[ez]),fun h=>h.elim⟩,?_,?_,?_,?_⟩;all_goals(intro x hx;exact(nomatch hx))
 have hal:AllN SS.zero [] (ew0 t).R (fun _=>False):=⟨fun y m h=>by
  obtain⟨i,_,hm,_⟩:=h;exact(nomatch hm),fun y hy=>(nomatch hy)⟩
 have hen:EnD (ew0 t) t (fun _=>HB.zero) (fun _=> []):=⟨fun _ _ _=>rfl,e13,e14,e15,List.nodup_nil,fun h=>absurd rfl h,fun _=>rfl,trivial,fun y hy=>(nomatch hy)⟩;exact⟨q,t,rfl,CP.start (refs:=fun _=>0) (B:=fun _=> []) ⟨SS.zero,fun _=>False,t,fun _=>HB.zero,fun _=> [],hni,hal,hen,fun y hy=>(nomatch hy),rfl⟩,⟨⟨e13,e14,e15⟩,H5.m.ok,ea,es,hsl,ez,ef,e17⟩,HQ.out,F4⟩
section
variable{w0 W:World}{q:MH}{x name typ fr:Nat}{R l:List Nat}{g:EW}{par own:Nat→Nat}{nm:Nat→List (List Nat)}
theorem z2r(h:CP w0 q g l par own nm fr W)(hE:EHs g l nm)(hx:name=0∨name∈l)(ht:typ<65536):Calls prog 19 #[q,name,.int .u16 typ] W (zR (ansN (g.R.find? (zyq g.d name typ))) fun w'=>CP w0 q g l par own nm fr w'∧Fr q.blocks W w'):=by
 obtain⟨refs,B,⟨S,L,u,E,B0,gi,ha,hd,r,hfr⟩,kn,h3⟩:=h;refine(zzc gi (fun z hz=> ?_) (fun z hz=>ha.2 z hz) hd r kn hE hx ht).mono fun e w' ⟨h1,h2,h4⟩=>⟨h1,⟨refs,B,⟨S,L,u,E,B0,gi.same h2 h4,ha,hd,r,hfr⟩,kn,h3⟩,h4⟩;obtain⟨m,hm⟩:=gi.wb.lv hz;rcases ha.1 z m hm with k|k
 ·exact .inl k
 ·exact .inr k
theorem z2s(h:CP w0 q g l par own nm fr W)(hx:x∈g.R):Calls prog 18 #[q,(8:Int)] W (zR (.tuple #[.agg itZ,(30:Int)]) fun w'=>CP w0 q g l par own nm fr w'∧Fr q.blocks W w'):=by
 obtain⟨u,X,hI,_,HM,-,-⟩:=h.en hx;have hk:=z0u hI.m.ok;exact(z0w hI (zyh (8:Int) (by rw[hk];decide) (by rw[hk];decide))).mono fun e w' ⟨h1,h2,h3⟩=>⟨h1,HM _ h2 h3,h3⟩
end
theorem EHs.zero(t:TM)(l:List Nat)(nm:Nat→List (List Nat)):EHs (ew0 t) l nm:=⟨fun _ hy=>(nomatch hy),fun _ hy=>(nomatch hy),fun _ hy=>(nomatch hy)⟩
theorem z2t(w:World)(hM:TabM w)(hT:Tabs w):Calls prog 6 #[] w (zN true w):=by
 have hF:=(show Calls prog 7 #[(0:Int)] w _ from z2q 0 w hM hT);obtain⟨S0,hS0⟩:∃S:ByteArray,⟨#[46]⟩=S:=⟨_,rfl⟩;have HS0:=hid hS0;have bS:(S0==⟨#[46]⟩)=true:=by rw[←hS0];decide
 have bS':S0.toList= [46] :=by rw[←hS0];decide+kernel
 clear hS0;go_in;go_wp2_with fail;go_call hF as e w1 ⟨q,t,rfl,h1,-,hq,f1⟩;have hN:=hid (z2e w1 (fun _=>0) (fun _=>0) (fun _=> []));have HQ:=hid hq;clear hF hq;go_wp2_with fail;go_call hN.out as e w2 ⟨p,pn,pr,D,rfl,d2,f2,hD⟩;obtain⟨w3,hw3⟩:∃w3,(w2.alloc (.cells #[.int .u8 120] 5 (1,2))).alloc (.cells #[.slice (some ⟨w2.heap.size,0,none⟩) 1 1] 49)=w3:=⟨_,rfl⟩;have f3:Fr [] w2 w3:=hw3▸((Fr.refl [] w2).alloc (.cells #[.int .u8 120] 5 (1,2))).alloc _;have K3:=show KE w q w1.heap.size p pn pr D (ew0 t) [] (fun _=>0) (fun _=>0) (fun _=> []) 7 [] (ew0 t).R (ew0 t).b w3 from⟨h1.fr0 (f2.trans f3),d2.fr0 f3,h1.bok,hD⟩;have hr:ERel (ew0 t) [] :=⟨rfl,fun d hd=>(nomatch hd)⟩;have hE:EHs (ew0 t) [] (fun _=> []):=⟨fun y hy=>(nomatch hy),fun y hy=>(nomatch hy),fun y hy=>(nomatch hy)⟩
 have hRA:RecA (fun _=>True) w3 (some ⟨w2.heap.size+1,0,none⟩) [[120]] :=by
  have c1:w3.cell? ⟨w2.heap.size,0,none⟩=some (.int .u8 120):=by
   rw[←hw3];refine(((Fr.refl [] _).alloc _).cell (p:=⟨w2.heap.size,0,none⟩) (S:= []) (by rw[World.size_alloc];exact Nat.lt_succ_self _) (by simp)).trans ?_;exact World.cell?_alloc_mark w2 #[.int .u8 120] _ _ 0
  have c2:w3.cell? ⟨w2.heap.size+1,0,none⟩=some (.slice (some ⟨w2.heap.size,0,none⟩) 1 1):=by
   rw[←hw3];have:=zf3 (w2.alloc (.cells #[.int .u8 120] 5 (1,2))) (.slice (some ⟨w2.heap.size,0,none⟩) 1 1) 49;rw[World.size_alloc]at this;exact this
  have hs3:w3.heap.size=w2.heap.size+2:=by rw[←hw3,World.size_alloc,World.size_alloc]
  refine⟨fun i hi=> ?_,by simp⟩;obtain rfl:i=0:=by simp at hi;omega
  refine⟨w2.heap.size+1,0,some ⟨w2.heap.size,0,none⟩,1,rfl,c2,⟨fun j hj=> ?_,fun b hb=> ?_,by simp⟩,by omega,trivial,fun _ _ _=>trivial⟩
  ·obtain rfl:j=0:=by simp at hj;omega
   exact⟨_,0,rfl,c1,by show w2.heap.size<_;omega⟩
  ·simp at hb;omega
 have kc:=Lib.run_convert_bytes_const (P:=prog) w2 49 5 #[.int .u8 120] 1 1 underlying49 underlying5;have HPut:=hid (show Calls prog 17 #[(0:Int),q,some p,.slice none 0 0,.int .u16 1,.int .u64 0,.slice (some ⟨w2.heap.size+1,0,none⟩) 1 1] w3 (Pt24 w q w1.heap.size p pn pr D (ew0 t) [] (fun _=>0) (fun _=>0) (fun _=> []) [] [] 1 0 [[120]] w3)from z2p 0 K3 hr hE none 0 [] ⟨fun i hi=>by simp at hi,fun s hs=>by simp at hs,fun s hs=>by simp at hs,by simp⟩ (fun h=>by simp at h) (by decide) (by decide) (fun _=>by decide) _ 1 [[120]] hRA (by decide) (by decide));have F3:=f1.trans (f2.trans f3);clear f2 f3 d2 hD hr hE hRA hN;go_wp2_with fail;go_call HPut.out as e w4 ⟨D4,n4,⟨rfl,hno,-⟩|⟨x,name,l1,par1,nm1,fr1,ad1,cp1,rfl,⟨hx0,hxb,hxR,hxl⟩,hG,hck,hname,hnm,hsub,hna,hfi,hrec,k4⟩⟩
 ·exact(hno ⟨by decide,by decide⟩ (by decide) rfl rfl rfl).elim
 have hn0:name=0:=k4.c.inj hname (.inl rfl) (by rw[hnm,k4.c.z];rfl);subst hn0;obtain⟨g',hg'⟩:∃g',(ew0 t).add x (enX (clsM (32+(zqj [[120]]).length)) (zqj [[120]]).length 0 1 0 (keyH (HN (nm1 0)) 1)) (zqj [[120]])=g':=⟨_,rfl⟩;have hC:=k4.c;rw[hg']at hC;have hR:g'.R= [x] :=by rw[←hg'];rfl
 have hd:g'.d x=enX (clsM (32+(zqj [[120]]).length)) (zqj [[120]]).length 0 1 0 (keyH (HN (nm1 0)) 1):=by rw[←hg'];exact zf1 _ _ _
 have hp:g'.p x=zqj [[120]] :=by rw[←hg'];exact zf1 _ _ _
 have hxm:x∈g'.R:=by rw[hR];simp
 have e1:(g'.d x).name=0:=by rw[hd];rfl
 have e2:(g'.d x).typ=1:=by rw[hd];rfl
 have e3:(g'.d x).expiry=0:=by rw[hd];rfl
 have e4:(g'.d x).used=false:=by rw[hd];rfl
 have hEH:EHs g' l1 nm1:=by
  rw[←hg'];exact EHs.add (EHs.zero t l1 nm1) (by simp[ew0]) (.inl rfl) rfl rfl
 have HIt:=hid (fun V (hV:CP w q g' l1 par1 (ownP (fun _=>0) 0) nm1 fr1 V)=>(show Calls prog 18 #[q,x] V fun e w'=>∃ad cp,e= .returned (.tuple #[.agg #[.string S0,.int .u16 1,.slice ad 1 cp,.int .u64 0,false],(0:Int)])∧RecO w' V.heap.size (.slice ad 1 cp) [[120]]∧CP w q g' l1 par1 (ownP (fun _=>0) 0) nm1 fr1 w'∧Fr q.blocks V w' from by
  have:=z0y hV hxm hp hG [46] (fun V2 h2=>by rw[e1];exact z0v h2);rw[e2,e3,e4]at this;rw[←HS0.out];exact this))
 have HFi:=hid (fun V (hV:CP w q g' l1 par1 (ownP (fun _=>0) 0) nm1 fr1 V)=>(show Calls prog 19 #[q,(0:Int),.int .u16 1] V (zR (.tuple #[x,true]) fun w'=>CP w q g' l1 par1 (ownP (fun _=>0) 0) nm1 fr1 w'∧Fr q.blocks V w')from by
  have:=z2r (name:=0) (typ:=1) hV hEH (.inl rfl) (by decide);rw[hR,List.find?_cons,show zyq g'.d 0 1 x=true from isKey_iff.2 ⟨e1,e2⟩]at this;exact this))
 have HNo:=hid (fun V (hV:CP w q g' l1 par1 (ownP (fun _=>0) 0) nm1 fr1 V)=>z2s hV hxm);have HFl:=hid (fun V (hV:CP w q g' l1 par1 (ownP (fun _=>0) 0) nm1 fr1 V)=>zx4 hV);have HqB:=hid hC.bok.q;have HX:=hid (And.intro hx0 hxb)
 have F4:=(show Fr [] w w4 from F3.step n4.f (fun k hk=> .inr (by
  rcases List.mem_append.1 hk with hk|hk
  ·exact HQ.out k hk
  ·have:=K3.hD k hk
   have:=f1.size;omega)))
 clear kc hw3;clear hR hd hp hxm e1 e2 e3 e4 hEH hg' k4 hfi hrec hna hsub hnm hck hG n4 hx0 hxb hxR hxl hname HPut;go_wp2_with fail;go_call HIt.out _ hC as e w5 ⟨ad5,cp5,rfl,k5,h5,f5⟩;obtain⟨ad6,cp6,hv6,hr6⟩:=k5.recA (by decide) (by decide) (by decide);injection hv6 with e5 e7 e6;clear e7;subst e5 e6;have B6:=show Blk (w5.alloc (.cells #[.string S0,.int .u16 1,.slice ad5 1 cp5,.int .u64 0,false] 55)) w5.heap.size 55 #[.string S0,.int .u16 1,.slice ad5 1 cp5,.int .u64 0,.bool false]from Blk.new _ _ _;have f6:Fr [] w5 (w5.alloc (.cells #[.string S0,.int .u16 1,.slice ad5 1 cp5,.int .u64 0,false] 55)):=(Fr.refl [] w5).alloc _;have C6:=h5.fr0 f6;have R6:=hr6.fr0 f6;have F6:=f5.trans f6.nil;have HW5:=hid f5.size;have HFi6:=hid (HFi.out _ C6);clear k5 h5 f5 hr6 f6 HIt HFi;go_wp2_with fail;go_call HFi6.out as e w7 ⟨rfl,h7,f7⟩;have HNo7:=hid (HNo.out _ h7);clear HFi6 HNo;go_wp2_with fail;go_call HNo7.out as e w8 ⟨rfl,h8,f8⟩;have f9:Fr [] w8 (w8.alloc (.cells itZ 55)):=(Fr.refl [] w8).alloc _;have HFl9:=hid (HFl.out _ (h8.fr0 f9));have F9:=f7.trans (f8.trans f9.nil);have B9:=B6.fr F9 (fun hm=>by have:=HqB.out _ hm;have:=HW5.out;omega);have R9:=R6.fr F9 (fun k hk=>by have:=HqB.out _ hk;omega);obtain⟨gr,o,a,c,rfl,hc',hb,-,-,-⟩:=R9.at_ 0 (by decide);have hb:Byt (w8.alloc (.cells itZ 55)) a [120] :=hb;have hc:(w8.alloc (.cells itZ 55)).cell? ⟨gr,o,none⟩=some (.slice a 1 c):=hc';have hcv:(convert 49 9 (.slice a 1 c)).run prog (w8.alloc (.cells itZ 55))= .ok (.string ⟨#[120]⟩) (w8.alloc (.cells itZ 55)):=za3 (w8.alloc (.cells itZ 55)) a c [120] hb;have dd:=B9.cell;have b1':decide (0<x)=true:=decide_eq_true (by have:=HX.1;omega);have FF:=fun W (hf:Fr q.blocks (w8.alloc (.cells itZ 55)) W)=>(show Fr [] w W from F4.step ((F6.trans F9).trans hf) (fun k hk=> .inr (HQ.out k hk)));clear h8 f8 f9 hb B6 R6 C6 h7 F6 f7 HNo7 HFl;clear hc';go_wp2_with fail;go_call HFl9.out as e w10 ⟨rfl,-,f10⟩;have FF10:=FF _ f10;clear f10;go_wp2;go_ret;exact⟨rfl,FF10⟩
def OwnE(g:EW)(own:Nat→Nat):Prop:= ∀y,y≠0→own y=g.R.countP (fun z=>(g.d z).name==y)
section
variable{x y name:Nat}{R A C:List Nat}{g:EW}{own:Nat→Nat}
theorem z2u{f h:Nat→Bool}:∀{M:List Nat},(∀z∈M,f z=h z)→M.countP f=M.countP h
 | [],_=>rfl
 |a::M,e=>by
  rw[List.countP_cons,List.countP_cons,e a (by simp),z2u (fun z hz=>e z (List.mem_cons_of_mem _ hz))]
theorem OwnE.add(h:OwnE g own)(hx:x∉g.R){X:HB}{bs:List Nat}:OwnE (g.add x X bs) (ownP own X.name):=fun y hy=>by
 show ownP own X.name y=(g.R++ [x]).countP (fun z=>(up g.d x X z).name==y);rw[List.countP_append,z2u (h:=fun z=>(g.d z).name==y) (fun z hz=>by rw[zf2 _ _ (show z≠x from fun e=>hx (e▸hz))]),←h y hy,List.countP_cons,List.countP_nil,zf1];by_cases e:X.name=y
 ·subst e
  rw[z0j _ hy];simp
 ·rw[z0k _ (fun k=>e k.symm)]
  simp[e]
theorem OwnE.del(h:OwnE g own)(hR:g.R=A++x::C)(k:Nat)(hk:(g.d x).name≠0→own (g.d x).name=k+1):OwnE (g.del A C x) (if(g.d x).name=0 then own else up own (g.d x).name k):=fun y hy=>by
 show _=(A++C).countP (fun z=>(g.d z).name==y);have h1:=h y hy;rw[hR,List.countP_append,List.countP_cons]at h1;rw[List.countP_append];by_cases h0:(g.d x).name=0
 ·rw[if_pos h0]
  have:((g.d x).name==y)=false:=by rw[beq_eq_false_iff_ne];omega
  rw[this]at h1;simpa using h1
 ·rw[if_neg h0]
  by_cases e:(g.d x).name=y
  ·subst e
   rw[zf1];have:=hk h0;simp at h1;omega
  ·rw[zf2 _ _ (fun k=>e k.symm)]
   have:((g.d x).name==y)=false:=by rw[beq_eq_false_iff_ne];exact e
   rw[this]at h1;simpa using h1
theorem OwnE.pos(h:OwnE g own)(hx:x∈g.R)(h0:(g.d x).name≠0):∃k,own (g.d x).name=k+1:=by
 have h1:=h _ h0;have:0<g.R.countP (fun z=>(g.d z).name==(g.d x).name):=List.countP_pos_iff.2 ⟨x,hx,by simp⟩;exact⟨own (g.d x).name-1,by omega⟩
end
section
open Go.ChangeShapes Go.WideShapes Go.ChangeAt Go.RowKit
theorem z2v{α:Type}{cs:List α}(h:cs.length=6):∃c0 c1 c2 c3 c4 c5,cs= [c0,c1,c2,c3,c4,c5] :=by
 match cs,h with
 | [a0,a1,a2,a3,a4,a5],_=>exact⟨a0,a1,a2,a3,a4,a5,rfl⟩
theorem z2w{n:Int}(h:(Lit.int .u16 n).wf=true):∃k:Nat,n=k∧k<65536:=by
 simp only[Lit.wf,IntKind.min,IntKind.max,IntKind.signed,IntKind.bits,Bool.and_eq_true]at h;simp at h;exact⟨n.toNat,by omega,by omega⟩
structure BytW(w:World)(a:Option Addr)(l:List Nat):Prop where
 at_: ∀i,i<l.length→ ∃g o,a=some ⟨g,o,none⟩∧w.cell? ⟨g,o+i,none⟩=some (.int .u8 ((l[i]?.getD 0:Nat):Int))∧g<w.heap.size
 byte: ∀b∈l,b<256
 len:l.length≤9223372036854775807
theorem BytW.byt{w:World}{a:Option Addr}{l:List Nat}(h:BytW w a l)(hl:l.length≤1099511627776):Byt w a l:=⟨h.at_,h.byte,hl⟩
theorem BytW.fr0{w w':World}{a:Option Addr}{l:List Nat}(h:BytW w a l)(hf:Fr [] w w'):BytW w' a l:=
 ⟨fun i hi=>by
  obtain⟨g,o,e,hc,hg⟩:=h.at_ i hi;exact⟨g,o,e,(hf.cell (p:=⟨g,o+i,none⟩) hg (by simp)).trans hc,Nat.lt_of_lt_of_le hg hf.size⟩,h.byte,h.len⟩
structure RecW(w:World)(ad:Option Addr)(L:List (List Nat)):Prop where
 at_: ∀i,i<L.length→ ∃g o a c,ad=some ⟨g,o,none⟩∧w.cell? ⟨g,o+i,none⟩=some (.slice a (L[i]?.getD []).length c)∧BytW w a (L[i]?.getD [])∧g<w.heap.size∧(L[i]?.getD []).length≤c
 len:L.length≤9223372036854775807
theorem RecW.fr0{w w':World}{ad:Option Addr}{L:List (List Nat)}(h:RecW w ad L)(hf:Fr [] w w'):RecW w' ad L:=
 ⟨fun i hi=>by
  obtain⟨g,o,a,c,e,h1,h2,h3,h4⟩:=h.at_ i hi;exact⟨g,o,a,c,e,(hf.cell (p:=⟨g,o+i,none⟩) h3 (by simp)).trans h1,h2.fr0 hf,Nat.lt_of_lt_of_le h3 hf.size,h4⟩,h.len⟩
theorem RecW.recA{w:World}{ad:Option Addr}{L:List (List Nat)}(h:RecW w ad L)(hl:∀x∈L,x.length≤3000):RecA (fun _=>True) w ad L:=
 ⟨fun i hi=>by
  obtain⟨g,o,a,c,e,h1,h2,h3,_⟩:=h.at_ i hi
  have hx:(L[i]?.getD []).length≤3000:=by
   rw[List.getElem?_eq_getElem hi];exact hl _ (List.getElem_mem hi)
  exact⟨g,o,a,c,e,h1,h2.byt (by omega),h3,trivial,fun _ _ _=>trivial⟩,h.len⟩
theorem z2x{H:Type}{enc:TypeId×Value→H}{w:World}{base:Nat}{spare:Nat→Bool}{held:Bool}{fuel:Nat}{v:Value}{x:DataW H×List MemPlace}(hf:DataW.trod enc prog w base spare held fuel 49 [v] =some x):∃a c l,v= .slice a l.length c∧l.length≤c∧BytW w a l:=by
 rcases open_ints underlying49 underlying5 (by kernel_rfl) hf with⟨hcs,_⟩|⟨ad,len',cap',zs,hcs,_,hl,hm,hz,hx,hcell,hwz⟩
 ·simp at hcs
  exact⟨none,0,[],hcs,Nat.zero_le _,fun i hi=>by simp at hi,fun b hb=>by simp at hb,by simp⟩
 ·simp at hcs
  have hzl:len'≤zs.length:=by rw[hz];split<;>omega
  have hrange:∀z∈zs,0≤z∧z<256:=fun z hz=>by
   have:=hwz z hz;simp only[Lit.wf,IntKind.min,IntKind.max,IntKind.signed,IntKind.bits,Bool.and_eq_true]at this;simp at this;omega
  obtain⟨b,off,spot⟩:=ad;have hll:((zs.take len').map Int.toNat).length=len':=by simp[Nat.min_eq_left hzl]
  refine⟨some ⟨b,off,spot⟩,cap',(zs.take len').map Int.toNat,by rw[hll];exact hcs,by rw[hll];exact hl,fun i hi=> ?_,fun x hx=> ?_,by unfold maxLen at hm;omega⟩
  ·have hil:i<len':=by omega
   have hc:=hcell i (by omega)
   have hspot:spot=none:=by
    have:=World.cell?_spot (hcell 0 (by omega));simpa[Addr.add]using this
   subst hspot;have hadd:(⟨b,off,none⟩:Addr).add i=⟨b,off+i,none⟩:=by unfold Addr.add;split<;>simp_all
   rw[hadd]at hc;refine⟨b,off,rfl,?_,zbw hc⟩;rw[hc];have hz0:=hrange (zs[i]'(by omega)) (List.getElem_mem _)
   have e:(((zs.take len').map Int.toNat)[i]?.getD 0:Nat)=(zs[i]'(by omega)).toNat:=by
    rw[List.getElem?_map,List.getElem?_take_of_lt hil,List.getElem?_eq_getElem (by omega)];rfl
   rw[e,List.getD_eq_getElem?_getD,List.getElem?_eq_getElem (by omega),Option.getD_some,Int.toNat_of_nonneg hz0.1]
  ·obtain⟨z,hz1,rfl⟩:=List.mem_map.1 hx
   have:=hrange z (List.mem_of_mem_take hz1);omega
theorem z2y{H:Type}{enc:TypeId×Value→H}{w:World}{base:Nat}{spare:Nat→Bool}{held:Bool}{fuel:Nat}{v:Value}{x:DataW H×List MemPlace}(hf:DataW.trod enc prog w base spare held fuel 34 [v] =some x):∃a c l,v= .slice a l.length c∧RecW w a l:=by
 rcases Go.Deep.open_slice1 underlying34 (by kernel_rfl) hf with⟨h0,_⟩|⟨ad,len,cap,m,n,V,D,Pl,hcs,hb,hl,hm,hmm,hx,hi⟩
 ·simp at h0
  exact⟨none,0,[],h0,fun i hi=>by simp at hi,by simp⟩
 ·simp at hcs
  by_cases h0:len=0
  ·subst h0
   exact⟨_,_,[],hcs,fun i hi=>by simp at hi,by simp⟩
  obtain⟨b,off,spot⟩:=ad
  have hval0:∀i,i<len→∃d:List Nat,∃a c,w.cell? ((⟨b,off,spot⟩:Addr).add i)=some (.slice a d.length c)∧BytW w a d∧d.length≤c:=fun i him=>by
   obtain⟨hc,ht⟩:=hi i (by rw[hmm];split<;>omega);obtain⟨a1,c1,l1,e,hcc,hs⟩:=z2x ht;exact⟨l1,a1,c1,by rw[hc,e],hs,hcc⟩
  have hspot:spot=none:=by
   obtain⟨d,a,c,hd,_⟩:=hval0 0 (by omega);simpa[Addr.add]using World.cell?_spot hd
  subst hspot;have hadd:∀n,(⟨b,off,none⟩:Addr).add n=⟨b,off+n,none⟩:=fun n=>by unfold Addr.add;split<;>simp_all
  have hval:∀i,i<len→∃d:List Nat,(∃a c,w.cell? ⟨b,off+i,none⟩=some (.slice a d.length c)∧BytW w a d∧d.length≤c)∧True:=fun i him=>by
   obtain⟨d,a,c,hd,hb,hc⟩:=hval0 i him;exact⟨d,⟨a,c,by rwa[hadd]at hd,hb,hc⟩,trivial⟩
  obtain⟨l,hl2,hp⟩:=zbx _ len hval;refine⟨_,_,l,by rw[hl2,hcs],fun i hi=> ?_,by rw[hl2];unfold maxLen at hm;omega⟩;obtain⟨a,c,h1,h2,h3⟩:=(hp i hi).1;rw[List.getElem?_eq_getElem hi];exact⟨b,off,a,c,rfl,h1,h2,zbw h1,h3⟩
theorem z2z{H:Type}{enc:TypeId×Value→H}{w:World}{base:Nat}{spare:Nat→Bool}{held:Bool}{fuel:Nat}{v:Value}{x:DataW H×List MemPlace}(hf:DataW.trod enc prog w base spare held fuel 31 [v] =some x):∃a c l,v= .slice a l.length c∧l.length≤c∧StrA w a l:=by
 rcases Go.Deep.open_slice1 underlying31 (by kernel_rfl) hf with⟨h0,_⟩|⟨ad,len,cap,m,n,V,D,Pl,hcs,hb,hl,hm,hmm,hx,hi⟩
 ·simp at h0
  exact⟨none,0,[],h0,Nat.zero_le _,fun i hi=>by simp at hi,fun d hd=>by simp at hd,fun d hd=>by simp at hd,by simp⟩
 ·simp at hcs
  by_cases h0:len=0
  ·subst h0
   exact⟨_,_,[],hcs,Nat.zero_le _,fun i hi=>by simp at hi,fun d hd=>by simp at hd,fun d hd=>by simp at hd,by simp⟩
  obtain⟨b,off,spot⟩:=ad
  have hval0:∀i,i<len→∃d:List Nat,((∀b∈d,b<256)∧d.length≤9223372036854775807)∧w.cell? ((⟨b,off,spot⟩:Addr).add i)=some (.string (za0 d)):=fun i him=>by
   obtain⟨hc,ht⟩:=hi i (by rw[hmm];split<;>omega);obtain⟨q4,g4,_,w4⟩:=DataW.trod_string underlying9 ht;simp at g4;refine⟨q4.data.toList.map UInt8.toNat,⟨fun x hx=> ?_,?_⟩,?_⟩
   ·obtain⟨y,_,rfl⟩:=List.mem_map.1 hx
    exact y.toNat_lt
   ·rw[List.length_map]
    unfold maxLen at w4;exact w4
   ·rw[zxs,hc,g4]
  have hspot:spot=none:=by
   obtain⟨d,_,hd⟩:=hval0 0 (by omega);simpa[Addr.add]using World.cell?_spot hd
  subst hspot;have hadd:∀n,(⟨b,off,none⟩:Addr).add n=⟨b,off+n,none⟩:=fun n=>by unfold Addr.add;split<;>simp_all
  have hval:∀i,i<len→∃d:List Nat,w.cell? ⟨b,off+i,none⟩=some (.string (za0 d))∧((∀b∈d,b<256)∧d.length≤9223372036854775807):=fun i him=>by
   obtain⟨d,ok,hd⟩:=hval0 i him;exact⟨d,by rwa[hadd]at hd,ok⟩
  obtain⟨l,hl2,hp⟩:=zbx _ len hval;refine⟨_,_,l,by rw[hl2,hcs],by rw[hl2];exact hl,fun i hi=>⟨b,off,rfl,?_,zbw (hp i hi).1⟩,fun d hd=> ?_,fun d hd=> ?_,by rw[hl2];unfold maxLen at hm;omega⟩
  ·rw[(hp i hi).1,List.getElem?_eq_getElem hi];rfl
  ·obtain⟨j,hj,rfl⟩:=List.mem_iff_getElem.1 hd
   exact(hp j hj).2.1
  ·obtain⟨j,hj,rfl⟩:=List.mem_iff_getElem.1 hd
   exact(hp j hj).2.2
structure A24 where
 k:Int
 n:Int
 a:Option Addr
 c:Nat
 l:List (List Nat)
 ty:Nat
 en:Nat
 ra:Option Addr
 rc:Nat
 rl:List (List Nat)
def A24.cells(d:A24):List Value:= [.int .i64 d.k,.int .i64 d.n,.slice d.a d.l.length d.c,.int .u16 d.ty,.int .u64 d.en,.slice d.ra d.rl.length d.rc]
structure A24.Ok(w:World)(d:A24):Prop where
 k: -9223372036854775808≤d.k∧d.k≤9223372036854775807
 n: -9223372036854775808≤d.n∧d.n≤9223372036854775807
 s:StrA w d.a d.l
 c:d.l.length≤d.c
 ty:d.ty<65536
 en:d.en<18446744073709551616
 r:RecW w d.ra d.rl
def z21(w:World)(b o:Nat)(d:A24):Prop:= ∀j,j<6→w.cell? ⟨b,o+j,none⟩=d.cells[j]?
structure z22(w:World)(a:Option Addr)(c:Nat)(l:List A24):Prop where
 row:0<l.length→ ∃b off,a=some ⟨b,off,none⟩∧b<w.heap.size∧ ∀i (h:i<l.length),z21 w b (off+i*6) l[i]
 each: ∀d∈l,d.Ok w
 len:l.length≤9223372036854775807
section
variable{H:Type}{enc:TypeId×Value→H}{w:World}{base b0:Nat}{spare:Nat→Bool}{held:Bool}{r:Reach}{v:Value}{d:DataW H}{p:List MemPlace}
theorem z23{fuel:Nat}{cs:List Value}{x:DataW H×List MemPlace}(hf:DataW.trod enc prog w base spare held fuel 36 cs=some x):∃d:A24,cs=d.cells∧d.Ok w:=by
 obtain⟨ys,n,rfl,_,hl,hyl,hp⟩:=DataW.trod_struct underlying36 hf;have hg:∀i,i<6→∃y,ys[i]?=some y:=fun i hi=>⟨_,List.getElem?_eq_getElem (by rw[hyl];exact hi)⟩;have k0:prog.cellsOf 36=6:=by kernel_rfl
 have k1:prog.cellsOf 3=1:=by kernel_rfl
 have k2:prog.cellsOf 32=1:=by kernel_rfl
 have k3:prog.cellsOf 33=1:=by kernel_rfl
 have k4:prog.cellsOf 31=1:=by kernel_rfl
 have k5:prog.cellsOf 34=1:=by kernel_rfl
 rw[k0]at hl;obtain⟨c0,c1,c2,c3,c4,c5,rfl⟩:=z2v hl;obtain⟨y0,e0⟩:=hg 0 (by decide);obtain⟨y1,e1⟩:=hg 1 (by decide);obtain⟨y2,e2⟩:=hg 2 (by decide);obtain⟨y3,e3⟩:=hg 3 (by decide);obtain⟨y4,e4⟩:=hg 4 (by decide);obtain⟨y5,e5⟩:=hg 5 (by decide);have t0:=(hp 0 _ rfl).trans e0;have t1:=(hp 1 _ rfl).trans e1;have t2:=(hp 2 _ rfl).trans e2;have t3:=(hp 3 _ rfl).trans e3;have t4:=(hp 4 _ rfl).trans e4;have t5:=(hp 5 _ rfl).trans e5;simp only[List.getElem_toArray,List.getElem_cons_zero,List.getElem_cons_succ,k1,k2,k3,k4,k5,List.drop_succ_cons,List.drop_zero,List.take_succ_cons,List.take_zero]at t0 t1 t2 t3 t4 t5;obtain⟨q0,g0,_,w0⟩:=DataW.trod_int underlying3 t0;obtain⟨q1,g1,_,w1⟩:=DataW.trod_int underlying3 t1;obtain⟨q2,m2,s2,e2,hc2,hs2⟩:=z2z t2;obtain⟨q3,g3,_,w3⟩:=DataW.trod_int underlying32 t3;obtain⟨q4,g4,_,w4⟩:=DataW.trod_int underlying33 t4;obtain⟨q5,m5,s5,e5,hs5⟩:=z2y t5;simp at g0 g1 g3 g4;obtain⟨n3,hn3,hl3⟩:=z2w w3;obtain⟨n4,hn4,hl4⟩:=zbz w4;subst g0 g1 g3 g4 e2 e5 hn3 hn4;exact⟨⟨q0,q1,q2,m2,s2,n3,n4,q5,m5,s5⟩,rfl,⟨zby w0,zby w1,hs2,hc2,hl3,hl4,hs5⟩⟩
theorem open_acts24(hv:Value.okWide prog w r b0 22 v)(h:DataW.Trod enc prog w base spare held 22 v d p):∃a c l,v= .slice a l.length c∧z22 w a c l:=by
 obtain⟨a0,len,cap,rfl⟩:=okWide_slice underlying22 hv;obtain⟨fuel,hf⟩:=h;rcases Go.Deep.open_slice underlying22 hf with h0|⟨a,len',cap',m,n,D,Pl,hcs,hb,hl,hm,hmm,hx,hi⟩
 ·have hcs:=h0.1
  simp[Value.cells]at hcs;obtain⟨rfl,rfl,rfl⟩:=hcs;exact⟨none,0,[],rfl,fun h=>by simp at h,fun d hd=>by simp at hd,by simp⟩
 ·simp[Value.cells]at hcs
  obtain⟨rfl,rfl,rfl⟩:=hcs;by_cases h0:len=0
  ·subst h0
   exact⟨_,_,[],rfl,fun h=>by simp at h,fun d hd=>by simp at hd,by simp⟩
  obtain⟨b,off,spot⟩:=a;have k0:prog.cellsOf 36=6:=by kernel_rfl
  have hval0:∀i,i<len→∃d:A24,d.Ok w∧∀j,j<6→w.cell? (((⟨b,off,spot⟩:Addr).add (i*6)).add j)=d.cells[j]?:=fun i him=>by
   obtain⟨cs',hc,ht⟩:=hi i (by rw[hmm];split<;>omega);rw[k0]at hc;obtain⟨d,rfl,ok⟩:=z23 ht;obtain⟨_,_,hat⟩:=World.cells?_some hc;exact⟨d,ok,fun j hj=>hat j hj⟩
  have hspot:spot=none:=by
   obtain⟨d,_,hd⟩:=hval0 0 (by omega);have:=hd 0 (by decide);have c0:w.cell? (((⟨b,off,spot⟩:Addr).add (0*6)).add 0)=some (.int .i64 d.k):=this;simpa[Addr.add]using World.cell?_spot c0
  subst hspot;have hadd:∀n,(⟨b,off,none⟩:Addr).add n=⟨b,off+n,none⟩:=fun n=>by unfold Addr.add;split<;>simp_all
  have hadd2:∀n j,(⟨b,off+n,none⟩:Addr).add j=⟨b,off+n+j,none⟩:=fun n j=>by unfold Addr.add;split<;>simp_all
  have hval:∀i,i<len→∃d:A24,z21 w b (off+i*6) d∧d.Ok w:=fun i him=>by
   obtain⟨d,ok,hd⟩:=hval0 i him;exact⟨d,fun j hj=>by have:=hd j hj;rwa[hadd,hadd2]at this,ok⟩
  obtain⟨l,hl2,hp⟩:=zbx _ len hval;refine⟨_,_,l,by rw[hl2],fun _=>⟨b,off,rfl,?_,fun i h=>(hp i h).1⟩,fun d hd=> ?_,by rw[hl2];unfold maxLen at hm;omega⟩
  ·obtain⟨q,hq,_⟩:=hval 0 (by omega)
   exact zbw (hq 0 (by decide))
  ·obtain⟨j,hj,rfl⟩:=List.mem_iff_getElem.1 hd
   exact(hp j hj).2
end
end
def Few6(L:List (List Nat))(w:World)(e:Ending)(w':World):Prop:= ∃b,e= .returned (.bool b)∧w'=w∧(b=true→L.length≤60∧ ∀x∈L,x.length≤3000)
theorem few6(w:World)(ad:Option Addr)(cap:Nat)(L:List (List Nat))(h:RecW w ad L):Calls prog 16 #[.slice ad L.length cap] w (Few6 L w):=by
 have hle:=h.len;generalize hn:L.length=n at hle⊢;have HN:=hid hn;clear hn;go_in;go_wp2;go_loopg [3,4] (n+1) (fun gk v3 v4 W=>∃t i:Nat,v3= .int .i64 t∧v4= .int .i64 i∧(i+gk=n+1∧i≤n)∧(t≤3000+9999)∧Hid (t≤3000→∀x∈L.take i,x.length≤t)∧w=W);case atStart=>exact⟨0,0,rfl,rfl,by omega,by omega,hid (fun _ d hd=>by simp at hd),rfl⟩
 case round=>
  obtain⟨t,i,rfl,rfl,hi,ht,HD,rfl⟩:=hrel;by_cases hlt:i<n∧t≤3000
  ·have b6':decide (i<n)=true:=by simp;omega
   have b7:decide ((t:Int)≤3000)=true:=by simp;omega
   have b7':decide (t≤3000)=true:=by simp;omega
   have hL:i<L.length:=by rw[HN.out];exact hlt.1
   obtain⟨g,o,a,c,rfl,hc,hb,hg,_⟩:=h.at_ i hL;have hgd:L[i]?=some L[i] :=List.getElem?_eq_getElem hL;rw[hgd]at hc hb;simp only[Option.getD_some]at hc hb;have hbl:=hb.len;generalize L[i]'hL=x at*;generalize hm:x.length=m at hc hbl;obtain⟨k,hk⟩:∃k:Nat,min (m:Int) 9999=k:=⟨min m 9999,by omega⟩;have hk2:k≤9999∧(k≤3000→m=k):=by omega
   have HD2:=hid (show t+k≤3000→∀y∈L.take (i+1),y.length≤t+k from fun h y hy=>by
    rw[List.take_add_one,hgd,Option.toList_some]at hy;rcases List.mem_append.1 hy with h1|h1
    ·have:=HD.out (by omega) y h1;omega
    ·rw[List.mem_singleton]at h1
     rw[h1,hm,hk2.2 (by omega)];omega)
   have i0:(0:Int)≤i:=by omega
   have i1:(i:Int)<n:=by omega
   have wi:=i64_in ((i:Int)+1) (by omega);have wt:IntKind.i64.wrap ((t:Int)+k)=((t+k:Nat):Int):=by rw[i64_in _ (by omega)];push_cast;rfl
   clear hgd hL hb hbl hm;go_wp2;go_roundg (gk-1);case measure=>omega
   case rel=>exact⟨t+k,i+1,by first|rfl|(push_cast;rfl),by go_num,by omega,by omega,HD2,rfl⟩
  ·obtain⟨b6,h6⟩:∃b6,decide ((i:Int)<n)=b6:=⟨_,rfl⟩
   have h6':decide (i<n)=b6:=by rw[←h6];exact decide_eq_decide.2 (by omega)
   obtain⟨b7,h7⟩:∃b7,decide ((t:Int)≤3000)=b7:=⟨_,rfl⟩;have h7':decide (t≤3000)=b7:=by rw[←h7];exact decide_eq_decide.2 (by omega)
   obtain⟨b8,h8⟩:∃b8,decide ((n:Int)≤60)=b8:=⟨_,rfl⟩;have h8':decide (n≤60)=b8:=by rw[←h8];exact decide_eq_decide.2 (by omega)
   have HR:=hid (show b8=true→b7=true→L.length≤60∧∀x∈L,x.length≤3000 from fun e1 e2=>by
    rw[e1]at h8';rw[e2]at h7';have k1:=of_decide_eq_true h8';have k2:=of_decide_eq_true h7';have k3:i=n:=by omega
    have:=HD.out k2;rw[k3,←HN.out,List.take_length]at this;exact⟨by rw[HN.out];exact k1,fun x hx=>Nat.le_trans (this x hx) k2⟩)
   have hnb:b6=false∨b7=false:=by
    by_cases e:i<n
    ·exact .inr (by rw[←h7'];exact decide_eq_false (fun k=>hlt ⟨e,k⟩))
    ·exact .inl (by rw[←h6'];exact decide_eq_false e)
   clear hlt;cases b6 with
   |true=>
    have e7:b7=false:=hnb.resolve_left (by decide);subst e7;cases b8 with
    |true=>
     clear hnb;go_wp2;go_ret;exact⟨_,rfl,rfl,fun h=>by cases h⟩
    |false=>
     clear hnb;go_wp2;go_ret;exact⟨_,rfl,rfl,fun h=>by cases h⟩
   |false=>
    clear hnb;cases b8 with
    |true=>
     go_wp2;go_ret;exact⟨b7,rfl,rfl,fun h=>HR.out trivial h⟩
    |false=>
     go_wp2;go_ret;exact⟨_,rfl,rfl,fun h=>by cases h⟩
def z24(l:List A24)(w:World)(e:Ending)(w':World):Prop:= ∃b,e= .returned (.bool b)∧Fr [] w w'∧(b=true→l.length≤60∧ ∀d∈l,d.l.length≤130∧zzj d.l≤1131∧ ∀x∈d.rl,x.length≤3000)
theorem z25{dl:List (List Nat)}{k:Nat}{s:List Nat}(h:dl[k]?=some s):s.length≤zzj dl:=by
 have h1:=zzm dl k s 1 h
 have h2:(dl.take (k+1)).foldl (fun n s=>n+(s.length+1)) 1≤zzj dl:=by
  unfold zzj;conv=>rhs;rw[←List.take_append_drop (k+1) dl,List.foldl_append]
  exact zzl _ _
 omega
theorem z26(w:World)(z:Int)(ad:Option Addr)(cap:Nat)(l:List A24)(h:z22 w ad cap l):Calls prog 5 #[z,.slice ad l.length cap] w (z24 l w):=by
 have hle:=h.len;obtain⟨n,hn⟩:∃n,l.length=n:=⟨_,rfl⟩;rw[hn];rw[hn]at hle;have HN:=hid hn;clear hn;go_in;go_wp2;go_loopg [5,6] (n+1) (fun gk v5 v6 W=>∃(t:Int) (i:Nat),v5= .int .i64 t∧v6= .int .i64 i∧(i+gk=n+1∧i≤n∧i≤100)∧(8000-400000*(i:Int)≤t∧t≤8000)∧Hid (∀d∈l.take i,d.l.length≤130∧zzj d.l≤1131∧∀x∈d.rl,x.length≤3000)∧Hid (Fr [] w W));case atStart=>exact⟨8000,0,rfl,rfl,by omega,by omega,hid (fun d hd=>by simp at hd),hid (Fr.refl [] w)⟩
 case round=>
  obtain⟨t,i,rfl,rfl,hi,ht,HD,F3⟩:=hrel;obtain⟨G,hG⟩:∃G,G=gk:=⟨_,rfl⟩;subst hG;by_cases hlt:i<n∧i<100
  ·have b6':=dT (i<n)
   have b7:=dT ((i:Int)<100);have b7':=dT (i<100);have hL:i<l.length:=by rw[HN.out];exact hlt.1
   obtain⟨B,off,rfl,hBl,hr⟩:=h.row (by omega);have hrj:=hr i hL;have hok:=h.each _ (List.getElem_mem hL);have hgd:l[i]?=some l[i] :=List.getElem?_eq_getElem hL;generalize l[i]'hL=d at*;obtain⟨dk,dn,da,dc,dl,dt,de,dra,drc,drl⟩:=d;have hc2:=hrj 2 (by decide);have hc5:=hrj 5 (by decide);have hs:=hok.s;have hrw:=hok.r;simp only[A24.cells,List.getElem?_cons_succ,List.getElem?_cons_zero]at hc2 hc5 hs hrw;have HC2:=hid (fun W (hW:Fr [] w W)=>And.intro ((hW.cell (p:=⟨B,off+i*6+2,none⟩) hBl (by simp)).trans hc2) ((hW.cell (p:=⟨B,off+i*6+5,none⟩) hBl (by simp)).trans hc5));have HF4:=hid (fun W (hW:Fr [] w W)=>(show Calls prog 15 #[.slice da dl.length dc,(130:Int),(1000:Int)] W (Few4 dl 130 1000 W)from few4 W da dc dl (hs.fr hW) 130 1000 (by decide) (by decide)));have HF6:=hid (fun W (hW:Fr [] w W)=>few6 W dra drc drl (hrw.fr0 hW));have HSA:=hs;have HLw:=hid (fun k s (hs:dl[k]?=some s)=>z25 hs)
   have HD':=hid (fun(hd:dl.length≤130∧zzj dl≤1131∧∀x∈drl,x.length≤3000)=>(show∀d∈l.take (i+1),d.l.length≤130∧zzj d.l≤1131∧∀x∈d.rl,x.length≤3000 from fun d hm=>by
    rw[List.take_add_one,hgd,Option.toList_some]at hm;rcases List.mem_append.1 hm with h|h
    ·exact HD.out d h
    ·rw[List.mem_singleton]at h;subst h;exact hd))
   obtain⟨c2,c5⟩:=HC2.out _ F3.out;have hle2:=hs.len;have hle3:=hrw.len;generalize hdn:dl.length=m at*;have HDN:=hid hdn;generalize hdr:drl.length=mr at*;have HDR:=hid hdr;have i0:(0:Int)≤i:=by omega
   have i1:(i:Int)<n:=by omega
   have wi:=i6 ((i:Int)+1);clear hr hrj hok hgd hc2 hc5 hs hdn hdr hL;go_wp2_with fail;go_call HF4.out _ F3.out as e w4 ⟨b4,rfl,f4,hb4⟩;have F4:=F3.trans f4;obtain⟨c2,c5⟩:=HC2.out _ F4;cases b4 with
   |false=>
    clear hb4 f4;go_wp2;go_ret;exact⟨false,rfl,F4,fun h=>by cases h⟩
   |true=>
    obtain⟨hb1,hb2⟩:=hb4 rfl;rw[HDN.out]at hb1 hb2;have hwm:zzj dl≤1131:=by omega
    have HW1:=hid (And.intro hb1 hwm);clear hb4 f4 HF4 F3;go_wp2_with fail;go_call HF6.out _ F4 as e w5 ⟨b5,rfl,hw5,hb5⟩;have hw5:=hw5.symm;subst hw5;cases b5 with
    |false=>
     clear hb5;go_wp2;go_ret;exact⟨false,rfl,F4,fun h=>by cases h⟩
    |true=>
     have hb5:=hb5 rfl;rw[HDR.out]at hb5;obtain⟨hr60,hr3⟩:=hb5;have HD2:=hid (HD'.out ⟨hb1,hwm,hr3⟩);have HR3:=hid hr3;clear hr3 HD' HF6;go_wp2;go_loopg [5,7] (mr+1) (fun gk v5 v7 W=>∃(t2:Int) (k:Nat),v5= .int .i64 t2∧v7= .int .i64 k∧(k+gk=mr+1∧k≤mr)∧(t-3001*k≤t2∧t2≤t)∧Hid (Fr [] w W));case atStart=>exact⟨t,0,rfl,rfl,by omega,by omega,F4⟩
     case round=>
      clear F4 c2 c5;obtain⟨t2,k,rfl,rfl,hk,ht2,F5⟩:=hrel;obtain⟨c2,c5⟩:=HC2.out _ F5.out;by_cases hkm:k<mr
      ·have hL:k<drl.length:=by rw[HDR.out];exact hkm
       obtain⟨g,o,a,c,rfl,hc,hbw,hg,_⟩:=(hrw.fr0 F5.out).at_ k hL;have hgd:drl[k]?=some drl[k] :=List.getElem?_eq_getElem hL;rw[hgd]at hc;simp only[Option.getD_some]at hc;have hx3:=HR3.out _ (List.getElem_mem hL);generalize drl[k]'hL=x at*;generalize hxn:x.length=xn at hc hx3;have b8':=dT (k<mr);have k0:(0:Int)≤k:=by omega
       have k1':(k:Int)<mr:=by omega
       have wk:=i6 ((k:Int)+1);have w1:=i6 (t2-1);have w2:=i6 (t2-1-(xn:Int));clear hgd hL hbw hxn;go_wp2;go_roundg (gk-1);case measure=>omega
       case rel=>exact⟨_,k+1,rfl,by go_num,by omega,by push_cast;omega,F5⟩
      ·obtain rfl:k=mr:=by omega
       have b8':=dF (k<k);go_wp2;go_loopg [5,8] (m+1) (fun gk v5 v8 W=>∃(t3:Int) (j:Nat),v5= .int .i64 t3∧v8= .int .i64 j∧(j+gk=m+1∧j≤m)∧(t2-1132*j≤t3∧t3≤t2)∧Hid (Fr [] w W));case atStart=>exact⟨t2,0,rfl,rfl,by omega,by omega,F5⟩
       case round=>
        clear F5 c2 c5 b8';obtain⟨t3,j,rfl,rfl,hj,ht3,F6⟩:=hrel;obtain⟨c2,_⟩:=HC2.out _ F6.out;by_cases hjm:j<m
        ·have hL:j<dl.length:=by rw[HDN.out];exact hjm
         obtain⟨g,o,rfl,hc,hg⟩:=HSA.at_ j hL;have k1:=(F6.cell (p:=⟨g,o+j,none⟩) hg (by simp)).trans hc;have hgd:dl[j]?=some dl[j] :=List.getElem?_eq_getElem hL;rw[hgd]at k1;simp only[Option.getD_some]at k1;have hx:=HLw.out j _ hgd;generalize dl[j]'hL=s at*;have hsz:=zu1 s;generalize hsn:s.length=sn at hx hsz;have hsn2:sn≤1131:=by have:=HW1.2;omega
         have b8':=dT (j<m);have k0:(0:Int)≤j:=by omega
         have k1':(j:Int)<m:=by omega
         have wk:=i6 ((j:Int)+1);have w1:=i6 (t3-1);have w2:=i6 (t3-1-(sn:Int));generalize za0 s=S at*;clear hc hgd hL hx hsn;go_wp2;go_roundg (gk-1);case measure=>omega
         case rel=>exact⟨_,j+1,rfl,by go_num,by omega,by push_cast;omega,F6⟩
        ·obtain rfl:j=m:=by omega
         go_wp2;go_roundg (G-1);case measure=>omega
         case rel=>exact⟨_,i+1,rfl,by go_num,by omega,by push_cast;omega,HD2,F6⟩
  ·obtain⟨b6,h6⟩:∃b6,decide ((i:Int)<n)=b6:=⟨_,rfl⟩
   have h6':decide (i<n)=b6:=by rw[←h6];exact decide_eq_decide.2 (by omega)
   obtain⟨b7,h7⟩:∃b7,decide ((i:Int)<100)=b7:=⟨_,rfl⟩;have h7':decide (i<100)=b7:=by rw[←h7];exact decide_eq_decide.2 (by omega)
   obtain⟨b8,h8⟩:∃b8,decide ((n:Int)≤60)=b8:=⟨_,rfl⟩;have h8':decide (n≤60)=b8:=by rw[←h8];exact decide_eq_decide.2 (by omega)
   obtain⟨b9,h9⟩:∃b9,decide ((0:Int)≤t)=b9:=⟨_,rfl⟩
   have HR:=hid (show b8=true→z24 l w (.returned (.bool b9)) wr from fun h=>⟨b9,rfl,F3.out,fun _=>by
    rw[h]at h8';have h60:=of_decide_eq_true h8';have:i=n:=by omega
    subst this;have hd:=HD.out;rw[←HN.out,List.take_length]at hd;exact⟨by rw[HN.out];exact h60,hd⟩⟩)
   have HFa:=hid (show z24 l w (.returned false) wr from⟨false,rfl,F3.out,fun h=>by cases h⟩)
   have hbb:(b6&&b7)=false:=by
    rw[←h6',←h7'];simp;omega
   cases b6<;>cases b7<;>cases b8<;>first|(exact absurd hbb (by decide))|(go_wp2_with fail;go_ret;first|exact HFa.out|exact HR.out trivial|exact HR.out rfl)
theorem z27{α β:Type}{f:α→β}{L:List α}{k:Nat}{x y:α}(h:L[k]?=some x)(hf:f y=f x):(L.set k y).map f=L.map f:=by
 obtain⟨hk,rfl⟩:=List.getElem?_eq_some_iff.1 h;rw[List.map_set,hf,←List.getElem_map f (h:=by simpa using hk),List.set_getElem_self]
theorem z28:∀(k:Nat) (L L':List (List Nat)),L.map List.length=L'.map List.length→zqi k L=zqi k L'
 |_,[],[],_=>rfl
 |_,[],_::_,h=>by simp at h
 |_,_::_,[],h=>by simp at h
 |k,x::L,y::L',h=>by
  simp only[List.map_cons,List.cons.injEq]at h;unfold zqi;rw[h.1,z28 _ L L' h.2]
theorem z29{L:List (List Nat)}{k:Nat}{x:List Nat}(h:L[k]?=some x):L.flatten=(L.take k).flatten++(x++(L.drop (k+1)).flatten):=by
 conv=>lhs;rw[←List.take_append_drop k L,List.flatten_append]
 congr 1;rw[List.drop_eq_getElem_cons (List.getElem?_eq_some_iff.1 h).1,List.flatten_cons,(List.getElem?_eq_some_iff.1 h).2]
theorem z3a{L:List (List Nat)}{k j b:Nat}{x:List Nat}(h:L[k]?=some x)(hj:j<x.length):zqj (L.set k (x.set j b))=(zqj L).set (2+2*L.length+(L.take k).flatten.length+j) b:=by
 have hk:=(List.getElem?_eq_some_iff.1 h).1
 have e2:(L.set k (x.set j b)).flatten=(L.take k).flatten++(x.set j b++(L.drop (k+1)).flatten):=by
  rw[List.set_eq_take_append_cons_drop,if_pos hk,List.flatten_append,List.flatten_cons]
 have e3:zqi 0 (L.set k (x.set j b))=zqi 0 L:=z28 _ _ _ (z27 h (by simp));have hl:((zqi 0 L).flatMap le2).length=2*L.length:=by rw[zqo,zqn]
 unfold zqj;rw[List.length_set,e3,e2,z29 h,show 2+2*L.length+(L.take k).flatten.length+j=(2*L.length+((L.take k).flatten.length+j))+1+1 from by omega,List.set_cons_succ,List.set_cons_succ,List.set_append_right _ _ (by omega),hl,Nat.add_sub_cancel_left,List.set_append_right _ _ (by omega),Nat.add_sub_cancel_left,List.set_append_left _ _ hj]
theorem GoodR.set{L:List (List Nat)}{k:Nat}{x y:List Nat}(h:GoodR L)(hx:L[k]?=some x)(hy:y.length=x.length):GoodR (L.set k y):=by
 refine⟨by rw[List.length_set];exact h.n,?_⟩;have:=h.s;unfold zqk at this⊢;rwa[z27 hx (by rw[hy])]
section
variable{w W:World}{q:MH}{t:TM}{x:Nat}
theorem IsH.poke(h:IsH W q t)(y b:Nat)(hb:b<256)(hx:zdv t.a t.s≤y)(hl:y<zdw t.a t.s):IsH (W.setCell ⟨q.ga,y,none⟩ (.int .u8 (b:Int))) q (t.setF y 1 (fun _=>b)):=by
 have T:=h.m;have M:=T.m;have f:Fr [q.ga] W (W.setCell ⟨q.ga,y,none⟩ (.int .u8 (b:Int))):=(Fr.refl _ W).setCell (.inl (by simp)) _;have fq:Fr q.blocks W (W.setCell ⟨q.ga,y,none⟩ (.int .u8 (b:Int))):=f.mono (fun _ hm=>by simp at hm;simp[MH.blocks,hm]);have hl':t.ms.l.length=zdw t.a t.s:=TM.bytes_len t;have hf:∀j,j<1→(fun _:Nat=>b) j<256:=fun _ _=>hb
 have e1:spl t.ms.l y [b] =(t.setF y 1 (fun _=>b)).bytes:=zn0 y [b] (by simp;omega) rfl rfl (fun i=>by
  rw[znx T.ok y 1 _ hf hx];by_cases c:y≤i∧i<y+1
  ·rw[if_pos c,if_pos (by simpa using c),show i-y=0 by omega];rfl
  ·rw[if_neg c,if_neg (by simpa using c)])
 have e2:t.ms.l.set y b=spl t.ms.l y [b] :=by
  rw[List.set_eq_take_append_cons_drop,if_pos (by omega)];simp[spl]
 have hl2:(spl t.ms.l y [b]).length=t.ms.l.length:=zda _ _ _ (by simp;omega);obtain⟨lk,hw⟩:=M.wt;obtain⟨_,_,_,n4,_,_,n7,_,n9,_⟩:=M.nes;have hA:=M.ar.set y b (by omega) hb;rw[e2]at hA;have hM:IsM (W.setCell ⟨q.ga,y,none⟩ (.int .u8 (b:Int))) q {t.ms with l:=spl t.ms.l y [b]}:=⟨M.st.fr f (by simp;omega),⟨lk,hw.fr f (by simp;omega) (by simp;omega)⟩,hA,M.ne,M.cfg,hl2.trans M.size,hl2.trans M.grains⟩;rw[e1]at hM;exact h.step ⟨znw T.ok y 1 _ hf,hM,T.tab.fr fq T.hi,T.hi⟩ fq
theorem z3b(w:World)(q:MH)(z:MS)(h:IsM w q z)(x n k:Nat)(hE:x+n≤z.l.length)(hm:∀i,i<n→mayL z.ks ((x+i:Nat):Int) 1 k=true):Calls prog 90 #[q,x,n,k] w (zR (.slice (some ⟨q.ga,zc7 x n,none⟩) n n) fun w'=>IsM w' q z∧Fr [q.pw] w w'):=by
 have hr:=zfv w q z h x n k hE hm;have HZ:=hid (fun W (hM:IsM W q z)=>zdd W q.pa q.ga q.cap z.l hM.ar x n hE);clear h;generalize zc7 x n=o at*;go_in;go_wp2_with fail;go_call hr as e w1 ⟨rfl,h1,f1⟩;have c1:=h1.st.cell 1;simp at c1;clear hr;go_wp2_with fail;go_call HZ.out _ h1 as e w2 ⟨rfl,rfl⟩;go_wp2;go_ret;exact⟨rfl,h1,f1⟩
theorem z3c(h:IsH w q t)(x':Int)(y:Nat)(hx':x'=y)(b:List Nat)(hb:ByOn t y b.length (fun j=>b[j]?.getD 0))(N:Nat)(hN:N %4=0)(hn:b.length≤N)(hy4:y %4=0)(hl:y+N≤zdw t.a t.s)(hk:KdOn t y N 5)(n':Int)(hn':n'=b.length):Calls prog 90 #[q,x',n',(5:Int)] w (zR (.slice (some ⟨q.ga,zc7 y b.length,none⟩) b.length b.length) fun w'=>Byt w' (some ⟨q.ga,zc7 y b.length,none⟩) b∧IsH w' q t∧Fr q.blocks w w'):=by
 subst hx' hn';have hl':t.ms.l.length=zdw t.a t.s:=TM.bytes_len t;refine(z3b w q t.ms h.m.m y b.length 5 (by rw[hl'];omega) (zn1 hl hk hy4 (by decide) b.length hn hN)).mono fun e w' ⟨he,h1,f1⟩=> ?_;have f:Fr q.blocks w w':=f1.pw;have:=h1.ar.part y b.length (by rw[hl'];omega);rw[zn2 t y _ (by omega),zwa hb]at this;exact⟨he,this,h.step ⟨h.m.ok,h1,h.m.tab.fr f h.m.hi,h.m.hi⟩ f,f⟩
end
def RecV(w:World)(base:Nat)(v:Value)(g z:Nat)(L:List (List Nat)):Prop:=
 ∃vs,w.ownsRow base 49 1 v L.length vs∧vs.length=L.length∧ ∀(i:Nat) (x:List Nat),L[i]?=some x→ ∃o,vs[i]?=some (.slice (some ⟨g,o,none⟩) x.length x.length)∧(0<x.length→o=z+(L.take i).flatten.length)
section
variable{w w':World}{base g z:Nat}{v v':Value}{L:List (List Nat)}{S:List Nat}
theorem RecV.fr(h:RecV w base v g z L)(hf:Fr S w w')(hS:∀k∈S,k<base):RecV w' base v g z L:=by
 obtain⟨vs,h1,h2⟩:=h
 exact⟨vs,zrd h1 hf (fun k hk he=>by
  have h4:=hS k hk;have:=(zre h1 (k:=k) (by unfold ownS;rw[he];simp)).1;omega),h2⟩
theorem RecV.lo{base':Nat}(h:RecV w base v g z L)(hb:base'≤base):RecV w base' v g z L:=by
 obtain⟨vs,h1,h2⟩:=h;exact⟨vs,zrf h1 hb,h2⟩
theorem RecV.snoc{vs:List Value}{x:List Nat}{o:Nat}(h2:vs.length=L.length)(h3:∀(i:Nat) (x:List Nat),L[i]?=some x→∃o,vs[i]?=some (.slice (some ⟨g,o,none⟩) x.length x.length)∧(0<x.length→o=z+(L.take i).flatten.length))
  (hn:w'.ownsRow base 49 1 v' (L.length+1) (vs++ [.slice (some ⟨g,o,none⟩) x.length x.length])) (ho:0<x.length→o=z+L.flatten.length):RecV w' base v' g z (L++ [x]):=by
 refine⟨_,by rw[List.length_append];exact hn,by simp[h2],fun i y hy=> ?_⟩;by_cases hi:i<L.length
 ·rw[List.getElem?_append_left hi]at hy
  obtain⟨o',k1,k2⟩:=h3 i y hy;exact⟨o',by rw[List.getElem?_append_left (by omega)];exact k1,by rw[List.take_append_of_le_length (by omega)];exact k2⟩
 ·rw[List.getElem?_append_right (by omega)]at hy
  have hl:=(List.getElem?_eq_some_iff.1 hy).1;simp at hl;have e:i=L.length:=by omega
  subst e;simp at hy;subst hy;exact⟨o,by rw[←h2];simp,by rw[List.take_left];exact ho⟩
theorem RecV.at_{i:Nat}{x:List Nat}(h:RecV w base v g z L)(hi:L[i]?=some x):∃gv cap o,v= .slice (some ⟨gv,0,none⟩) L.length cap∧base≤gv∧gv<w.heap.size∧L.length≤cap∧w.cell? ⟨gv,i,none⟩=some (.slice (some ⟨g,o,none⟩) x.length x.length)∧(0<x.length→o=z+(L.take i).flatten.length):=by
 obtain⟨vs,h1,_,h3⟩:=h;have hl:=(List.getElem?_eq_some_iff.1 hi).1;obtain⟨_,⟨rfl,k2⟩|⟨gv,cap,cur,rfl,kb,kg,kc,_,_,kt⟩⟩:=h1
 ·omega
 ·obtain⟨o,e1,e2⟩:=h3 i _ hi
  refine⟨gv,cap,o,rfl,kb,Blk.lt kg,kc,?_,e2⟩;have h3:(cur.toList.take (L.length*1))[i]?=vs[i]?:=by rw[kt]
  rw[List.getElem?_take,if_pos (by omega),e1]at h3;rw[Blk.cell kg,←h3];simp
theorem RecV.recA{y:Nat}(h:RecV w base v g (y+(2+2*L.length)) L)(hb:Byt w (some ⟨g,y,none⟩) (zqj L))(h1:1≤L.length)(hL:L.length≤1048576):∃ad cap,v= .slice ad L.length cap∧RecA (fun k=>base≤k∨k=g) w ad L:=by
 obtain⟨x0,hx0⟩:∃x0,L[0]?=some x0:=⟨_,List.getElem?_eq_getElem (by omega)⟩;obtain⟨gv,cap,o,rfl,hb1,hgv,_⟩:=h.at_ hx0;refine⟨_,_,rfl,fun i hi=> ?_,by omega⟩;have hx:=List.getElem?_eq_getElem hi;obtain⟨gv',cap',o,e,_,_,_,hc,ho⟩:=h.at_ hx;injection e with e _ e2;injection e with e;injection e with e;subst e;have ht:=(zqu hx).2;have:=hb.part (2+2*L.length+(L.take i).flatten.length) (L[i]'hi).length o (by rw[zqp];omega) (fun h0=>by rw[ho h0];omega);rw[zrl hx]at this;rw[hx];exact⟨gv,0,_,_,rfl,by rw[Nat.zero_add];exact hc,this,hgv,.inl hb1,fun h p e=>by injection e with e;injection e with e;exact .inr e.symm⟩
end
theorem z3d(a b c d:Int)(w:World):(Op.equalIn 10000 238 (.agg #[a,b]) (.agg #[c,d])).run prog w= .ok (a==c&&b==d) w:=by
 rw[show(10000:Nat)=9999+1 from rfl,run_equalIn_struct w 9999 238 _ _ (by kernel_rfl) (by kernel_rfl)];have hF:(prog.fieldsOf 238).toList= [⟨"At",3,0,false,"","",0⟩,⟨"Len",3,1,false,"","",8⟩] :=by kernel_rfl
 rw[hF];have hi:∀(a b:Int) (w:World),(Op.equalIn 9999 3 (.int .i64 a) (.int .i64 b)).run prog w= .ok (a==b) w:=fun a b w=>run_equalIn_int _ 9998 3 .i64 .i64 a b underlying3;refine zdo _ _ _ _ _ (.int .i64 a) (.int .i64 c) _ _ (of_decide_eq_true (by kernel_rfl)) (zdp _ _ _ rfl) (zdp _ _ _ rfl) (fun w=>hi _ _ w) _ ?_;rw[←Bool.and_true (b==d)];refine zdo _ _ _ _ _ (.int .i64 b) (.int .i64 d) _ _ (of_decide_eq_true (by kernel_rfl)) (zdp _ _ _ rfl) (zdp _ _ _ rfl) (fun w=>hi _ _ w) _ ?_;rfl
theorem scut(w:World)(g o m c a n:Nat)(ha:0<a)(hn:a+n≤m)(hm:m≤c)(hc:c≤1099511627776):Calls prog 187 #[.slice (some ⟨g,o,none⟩) m c,.agg #[a,n]] w fun e w'=>∃o',e= .returned (.tuple #[.slice (some ⟨g,o',none⟩) n n,(0:Int)])∧(0<n→o'=o+a)∧Fr [] w w':=by
 have hE:∀w,(Op.equalIn 10000 238 (.agg #[a,n]) (.agg #[(0:Int),(0:Int)])).run prog w= .ok false w:=fun w=>by
  rw[z3d,show((a:Int)==0)=false from by simp;omega];rfl
 have b1:=dF ((a:Int)<0);have b2:=dF ((n:Int)<0);have b3':=dF (m<a);have b4:=dF ((m:Int)-a<n);have ws:=i6 ((m:Int)-a);have x0:(0:Int)≤a:=by omega
 have x1:(a:Int)≤(a:Int)+n:=by omega
 have x2:(a:Int)+n≤c:=by omega
 have hs:a+n-a=n:=by omega
 rcases Nat.eq_zero_or_pos n with h0|h0
 ·subst h0
  go_in;go_wp2;go_ret2;exact⟨o,rfl,fun h=>absurd h (by omega),(Fr.refl [] w).alloc _⟩
 ·go_in
  go_wp2;go_ret2;exact⟨o+a,by show Ending.returned (.tuple #[.slice (some ⟨g,o+a,none⟩) (a+n-a) (a+n-a),(0:Int)])=_;rw[Nat.add_sub_cancel_left],fun _=>rfl,(Fr.refl [] w).alloc _⟩
theorem z3e(w:World)(g o c z B V base a Z n:Nat)(v:Value)(L:List (List Nat))(x:List Nat)(a':Int)(ea:a'=a)(hB:Blk w B 49 #[.slice (some ⟨g,o,none⟩) z c])(hV:Blk w V 34 #[v])(hv:RecV w base v g Z L)(hVb:V<base)(hb:base≤w.heap.size)(hL:L.length≤16)
  (ha:0<a) (hx:x.length=n) (hn:a+n≤z) (hz:z≤c) (hc:c≤1099511627776) (hZ:o+a=Z+L.flatten.length):
  Calls prog 186 #[.agg #[a',n],some B,some V] w (zR (.tuple #[]) fun w'=>(∃v',Blk w' V 34 #[v']∧RecV w' base v' g Z (L++ [x]))∧Fr (V::ownS v) w w'):=by
 subst ea;have HC:=hid (scut (w.alloc (.cells #[a,n] 238)) g o z c a n ha hn hz hc);have F0:=(Fr.refl [] w).alloc (.cells #[a,n] 238);have hBc:=(F0.cell (p:=⟨B,0,none⟩) hB.lt (by simp)).trans (hB.cell 0);simp at hBc;have HVB:=hid (And.intro hV (And.intro hv (And.intro hVb (And.intro hb (And.intro hL (And.intro hx hZ))))));clear hV hv hVb hb hL hn hz hc hZ ha hB hx;go_in;go_wp2_with fail;go_call HC.out as e w2 ⟨o',rfl,ho,f2⟩;obtain⟨hV,hv,hVb,hb,hL,hx,hZ⟩:=HVB.out;have f2':=F0.trans f2;have bV:=hV.fr f2' (by simp);have hV0:=bV.cell 0;simp at hV0;obtain⟨vs,k1,k2,k3⟩:=hv.fr f2' (by simp);obtain⟨v',w6,hrun,k4,f6⟩:=zrj w2 base v L.length vs k1 (some ⟨g,o',none⟩) n n (by omega) (Nat.le_trans hb f2'.size);have hVn:V∉ownS v:=zrh k1 bV (by decide)
 obtain⟨ad',cp',rfl⟩:∃ad cp,v'= .slice ad (L.length+1) cp:=by
  obtain⟨_,⟨_,h0⟩|⟨g',cap',cur',e',_⟩⟩:=k4
  ·omega
  ·exact⟨_,_,e'⟩
 have R6:=show RecV w6 base (.slice ad' (L.length+1) cp') g Z (L++ [x])from RecV.snoc k2 k3 (by rw[hx];exact k4) (fun h0=>by rw[ho (by omega)];omega);have B6:=bV.fr f6 hVn;have F6:=(f2'.nil.step f6 (fun k hk=> .inl (by simp[hk])):Fr (V::ownS v) w w6);have HVB:=hid hVb;have e0:=B6.cell 0;have z0:=B6.frozen 0;simp at e0;generalize L.length+1=n1 at*;clear hV hv hVb hb hL hx hZ f2' k1 k2 k3 k4 f6 ho f2 bV hVn HC F0;go_wp2_with (first|(at_builtin;refine zrb rfl (.tmp 12) (.tmp 14) 34 rfl rfl _ _ _ _ rfl rfl hrun ?_)|fail);go_end0;exact⟨rfl,⟨_,B6.set 0 _,R6.fr ((Fr.refl [V] w6).setCell (.inl (by simp)) _) (fun k hk=>by simp at hk;rw[hk];exact HVB.out)⟩,F6.setCell (.inl (by simp)) _⟩
theorem z3f(w:World)(g o c B V:Nat)(L:List (List Nat))(hG:GoodR L)(hb:Byt w (some ⟨g,o,none⟩) (zqj L))(hcz:(zqj L).length≤c)(hc2:c≤1099511627776)(hB:Blk w B 49 #[.slice (some ⟨g,o,none⟩) (zqj L).length c])(hV:Blk w V 34 #[.slice none 0 0]):Calls prog 185 #[.slice (some ⟨g,o,none⟩) (zqj L).length c,.func (.func 186) #[] #[.pointer (some ⟨B,0,none⟩),.pointer (some ⟨V,0,none⟩)]] w (zR (0:Int) fun w'=>(∃v,Blk w' V 34 #[v]∧RecV w' w.heap.size v g (o+(2+2*L.length)) L)∧Fr [V] w w'):=by
 have HU:=hid (zrm w (some ⟨g,o,none⟩) c L hG hb hcz);have hlen:=zqp L;have hn1:=hG.n
 have hby:∀x∈L,∀b∈x,b<256:=fun x hx b hbx=>by
  obtain⟨i,hi,rfl⟩:=List.mem_iff_getElem.1 hx;have h1:=zrl (List.getElem?_eq_getElem hi);rw[←h1]at hbx;exact hb.byte b (List.mem_of_mem_drop (List.mem_of_mem_take hbx))
 have hfl:∀x∈L,x.length≤1099511627776:=fun x hx=>by
  obtain⟨i,hi,rfl⟩:=List.mem_iff_getElem.1 hx;have:=(zqu (List.getElem?_eq_getElem hi)).2;omega
 have HT:=hid (fun k x (hx:L[k]?=some x)=>zqu hx);have HX:=hid (And.intro hB (And.intro hV (And.intro hby (And.intro hfl hlen))));obtain⟨M,hM⟩:∃M:Nat→Nat,(fun k=>(L.take k).flatten.length)=M:=⟨_,rfl⟩;have hM':∀k,(L.take k).flatten.length=M k:=fun k=>by rw[←hM]
 have HM:=hid hM';obtain⟨n,hn⟩:∃n,L.length=n:=⟨_,rfl⟩;obtain⟨z,hz⟩:∃z,(zqj L).length=z:=⟨_,rfl⟩;have HN:=hid (And.intro hn hz);rw[hn]at hn1;rw[hz]at HU⊢;obtain⟨K,hK⟩:∃K,2+2*n=K:=⟨_,rfl⟩;have HK:=hid hK;have wa:IntKind.i64.wrap (2*(n:Int))=((2*n:Nat):Int):=by rw[i6 _];push_cast;rfl
 have wb:IntKind.i64.wrap (2+((2*n:Nat):Int))=(K:Int):=by rw[i6 _];omega
 have wb':(2:Int)+2*n=(K:Int):=by omega
 have HH:=hid (And.intro hn1 hc2);have hKb:K≤34:=by omega
 have hn16:=hn1.2;rw[hn]at⊢;have HCZ:=hid hcz;have HFB:=hid (show L.flatten.length≤1099511627776 from by omega);clear hM hM' hn hz hK hlen hn1 hby hfl hb hcz hc2 hB hV hG;go_in;go_wp2_with fail;go_call HU.out as e w2 ⟨vl,rfl,hO,f2⟩;obtain⟨hB,hV,hby,hfl,hlen⟩:=HX.out;obtain⟨hn,hz⟩:=HN.out;obtain⟨adl,capl,rfl,hA⟩:=hO.recA hby hfl (by have:=HH.1;omega);rw[hn];have BV2:=hV.fr f2 (by simp);have RV2:=show RecV w2 w2.heap.size (.slice none 0 0) g (o+K) (L.take 0)from⟨[],by rw[List.take_zero];exact⟨rfl,.inl ⟨rfl,rfl⟩⟩,by rw[List.take_zero];rfl,fun i x hx=>by rw[List.take_zero]at hx;cases hx⟩;have hVl:=hV.lt;have hBl:=hB.lt;have HVl:=hid (And.intro hVl hBl);have hBV:B≠V:=Blk.ne_ hB hV (by decide);have HBV:=hid hBV;have B2:=hB.fr f2 (by simp);rw[hz]at B2;clear hB hV hby hfl hlen hn hz hO hVl hBl hBV HU HX;go_wp2;go_loopg [7,21] (n+1) (fun gk v7 v21 W=>∃i:Nat,v7= .int .i64 (K+M i:Nat)∧v21= .int .i64 i∧(i+gk=n+1∧i≤n)∧Hid (∃v,Blk W V 34 #[v]∧RecV W w2.heap.size v g (o+K) (L.take i))∧Hid (Fr [V] w2 W));case atStart=>exact⟨0,by rw[←HM.out 0];rfl,rfl,by omega,⟨_,BV2,RV2⟩,Fr.refl _ _⟩
 case round=>
  clear BV2 RV2;obtain⟨i,rfl,rfl,hi,R4,F4⟩:=hrel;by_cases hlt:i<n
  ·have b6':=dT (i<n)
   have hL:i<L.length:=by rw[HN.1];exact hlt
   have hgd:L[i]?=some L[i] :=List.getElem?_eq_getElem hL;obtain⟨gl,ol,al,cl,rfl,hcl,-,hgl,hP,-⟩:=hA.at_ i hL;generalize L[i]'hL=x at*;rw[hgd,Option.getD_some]at hcl;generalize hm:x.length=m at hcl;obtain⟨t1,t2⟩:=HT.out i x hgd;have hM1:M (i+1)=M i+m:=by rw[←HM.out,t1,List.length_append,HM.out,hm]
   rw[HM.out,hm]at t2;obtain⟨v,b4,r4⟩:=R4.out;have hglV:gl≠V:=by have:=HVl.1;omega
   have hcW:wr.cell? ⟨gl,ol+i,none⟩=some (.slice al m cl):=(F4.cell (p:=⟨gl,ol+i,none⟩) hgl (by simpa using hglV)).trans hcl;have hzz:K+(M i+m)≤z:=by have:=HN.out;have:=HK.out;have:=zqp L;omega
   have H1:=hid (z3e wr g o c z B V w2.heap.size (K+M i) (o+K) m v (L.take i) x ((K:Int)+M i) (by push_cast;rfl) (B2.fr F4.out (by simpa using HBV.out)) b4 r4 (by have:=HVl.1;have:=f2.size;omega) F4.size (by rw[List.length_take];have:=HH.1;omega) (by have:=HK.out;omega) hm (by omega) (by rw[←HN.2];exact HCZ.out) HH.2 (by rw[HM.out];omega));have i2:(0:Int)≤i:=by omega
   have i3:(i:Int)<n:=by omega
   have wi:=i6 ((i:Int)+1);have hfb:=HFB.out;have wm:IntKind.i64.wrap ((K:Int)+M i+m)=((K+M (i+1):Nat):Int):=by rw[hM1,i6 _];push_cast;omega
   have HTk:=hid (show L.take (i+1)=L.take i++ [x]from by rw[List.take_add_one,hgd];rfl);have HS:=hid (show∀k∈ownS v,w2.heap.size≤k from fun k hk=>by obtain⟨vs,k1,-⟩:=r4;exact(zre k1 hk).1);clear hcl t1 t2 hM1 b4 r4 hglV hzz hgd hL hgl hP hm R4;go_wp2_with fail;go_call H1.out as e w5 ⟨rfl,⟨v',b5,r5⟩,f5⟩;have R5:=hid (show∃v,Blk w5 V 34 #[v]∧RecV w5 w2.heap.size v g (o+K) (L.take (i+1))from⟨v',b5,by rw[HTk.out];exact r5⟩)
   have F5:=(F4.step f5 (fun k hk=>by
    rcases List.mem_cons.1 hk with e|e
    ·exact .inl (by simp[e])
    ·exact .inr (HS.out k e)))
   clear b5 r5 f5 F4 H1;go_wp2;go_roundg (gk-1);case measure=>omega
   case rel=>exact⟨i+1,by go_num,by go_num,by omega,R5,F5⟩
  ·obtain rfl:i=n:=by omega
   go_wp2;go_ret;obtain⟨v,b4,r4⟩:=R4.out;rw[←HN.1,List.take_length]at r4;exact⟨rfl,⟨v,b4,by rw[HK.out];exact r4.lo f2.size⟩,f2.nil.trans F4.out⟩
theorem z3g(w:World)(g o c:Nat)(L:List (List Nat))(hG:GoodR L)(hb:Byt w (some ⟨g,o,none⟩) (zqj L))(hcz:(zqj L).length≤c)(hc2:c≤1099511627776):Calls prog 89 #[.slice (some ⟨g,o,none⟩) (zqj L).length c] w fun e w'=>∃v,e= .returned (.tuple #[v,(0:Int)])∧RecV w' w.heap.size v g (o+(2+2*L.length)) L∧Fr [] w w':=by
 have F0:=hid (((Fr.refl [] w).alloc (.cells #[.slice (some ⟨g,o,none⟩) (zqj L).length c] 49)).alloc (.cells #[.slice none 0 0] 34));have B0:=Blk.new (w.alloc (.cells #[.slice (some ⟨g,o,none⟩) (zqj L).length c] 49)) 34 #[.slice none 0 0];rw[World.size_alloc]at B0;have HE:=hid (z3f _ g o c w.heap.size (w.heap.size+1) L hG (hb.fr F0.out (by simp)) hcz hc2 ((Blk.new w _ _).alloc _) B0);have hbc:=((Blk.new w 49 #[.slice (some ⟨g,o,none⟩) (zqj L).length c]).alloc (.cells #[.slice none 0 0] 34)).cell 0;simp at hbc;clear hG hb hcz hc2 B0;generalize(zqj L).length=z at*;go_in;go_wp2_with fail;go_call HE.out as e w2 ⟨rfl,⟨v,b2,r2⟩,f2⟩;have c0:=b2.cell 0;simp at c0;have R2:=hid (And.intro (r2.lo F0.size) (F0.step f2 (fun k hk=> .inr (by simp at hk;omega))));clear b2 r2 f2 HE F0;go_wp2;go_ret2;exact⟨v,rfl,R2.out⟩
section
variable{w0 W:World}{q:MH}{x y n fr:Nat}{u v:TM}{R l:List Nat}{X:HB}{g:EW}{par own:Nat→Nat}{nm:Nat→List (List Nat)}
theorem z3h{Ls:List (List Nat)}(hI:IsH W q u)(hg:EGet q u x X (some ⟨q.m,0,none⟩) x 0)(hsz:X.size=((zqj Ls).length:Int))(hon:ByOn u (x+32) (zqj Ls).length (fun j=>(zqj Ls)[j]?.getD 0))(hlt:∀y∈zqj Ls,y<256)(hfit:∃n,32+(zqj Ls).length≤n∧n %16=0∧x %16=0∧x+n≤zdw u.a u.s∧KdOn u x n 5)(hG:GoodR Ls):Calls prog 32 #[q,x] W fun e w'=>∃v,e= .returned (.tuple #[v,(0:Int)])∧RecV w' W.heap.size v q.ga (x+32+(2+2*Ls.length)) Ls∧IsH w' q u∧Fr q.blocks W w':=by
 have HG:=hid (hg W hI);obtain⟨n,n1,n2,n3,n4,n5⟩:=hfit;have hle:=zdx u.a u.s hI.m.ok.cfg;have hpl:(zqj Ls).length≤480:=by rw[zqp,←hG.size];exact hG.s
 have hp0:zc7 (x+32) (zqj Ls).length=x+32:=by unfold zc7;rw[if_neg (by rw[zqp];omega)]
 have HR:=hid (fun V (hV:IsH V q u)=>by have:=z3c hV ((x:Int)+32) (x+32) (by omega) (zqj Ls) hon (((zqj Ls).length+3)/4*4) (by omega) (by omega) (by omega) (by omega) (fun g g1 g2=>n5 g (by omega) (by omega)) (zqj Ls).length rfl;rw[hp0]at this;exact this);have HS:=hid (fun V (hb:Byt V (some ⟨q.ga,x+32,none⟩) (zqj Ls))=>z3g V q.ga (x+32) (zqj Ls).length Ls hG hb (Nat.le_refl _) (by omega));have HD:=hid (fun V a1 a2 a4 a3 a5 a6 a7 a8 a9 a10 a11 a12=>zyk (a1:=a1) (a2:=a2) (a4:=a4) (a3:=a3) (a5:=a5) (a6:=a6) (a7:=a7) (a8:=a8) (a9:=a9) (a10:=a10) (a11:=a11) (a12:=a12) V _ q.m x (by omega) rfl);clear n1 n2 n3 n4 n5 hlt hon hI hg hpl hp0 hle;obtain⟨tag,cls,used,label,nm1,next,prev,rf,expiry,ty,size,hash⟩:=X;simp only at HG hsz;subst hsz;generalize(zqj Ls).length=z at*;go_in;go_wp2_with fail;go_call HG.out as e w1 ⟨rfl,k1,f1⟩;have hlt:=k1.m.lt;have HNA:=hid (show w1.heap.size∉q.blocks from fun hm=>by have:=hlt _ hm;omega);have K1:=k1.alloc;have F1:=f1.alloc;have A1:=Blk.new w1 124 #[.int .i64 tag,.int .i64 cls,.bool used,.int .i64 label,.int .u32 nm1,.int .u32 next,.int .u32 prev,.int .u32 rf,.int .u64 expiry,.int .u16 ty,.int .i64 z,.int .u32 hash,.pointer (some ⟨q.m,0,none⟩),.int .i64 x];have dd:=A1.cell;have zz:=A1.frozen;clear k1 f1 HG hlt;go_wp2_with fail;have hY:=A1.drew.cell;clear dd zz;refine wp_region_held_drew (S:=fun W=>∀i,W.cell? ⟨w1.heap.size,i,none⟩=(#[.int .i64 tag,.int .i64 cls,.bool used,.int .i64 label,.int .u32 nm1,.int .u32 next,.int .u32 prev,.int .u32 rf,.int .u64 expiry,.int .u16 ty,.int .i64 z,.int .u32 hash,.pointer (some ⟨q.m,0,none⟩),.int .i64 x])[i]?) (by kernel_rfl) (hY) (fun yH=> ?_);refine tkZ 0 ?_;refine tkZ 1 ?_;refine tkZ 3 ?_;refine tkZ 4 ?_;refine tkZ 5 ?_;refine tkC 2 fun K hK=> ?_;go_simp;go_call HD.out _ _ _ _ _ _ _ _ _ _ _ _ _ as e w3 ⟨rfl,f3⟩;have K3:=(K1 _).drew.fr0 f3;have F3:=(F1 _).drew.trans f3.nil;have A3:=A1.drew.fr f3 (by simp);have hY:=A3.cell;clear f3;go_wp2_with fail;refine hK.out _ _ _ hY fun yH=> ?_;clear hK K;refine tkC 6 fun K hK=> ?_;go_simp;go_call HR.out _ K3 as e w7 ⟨rfl,hb7,k7,f7⟩;have HS7:=hid (HS.out _ hb7);have K7:=hid k7;have F7:=hid (F3.trans f7);have A7:=A3.fr f7 HNA.out;have hY:=A7.cell;clear hb7 k7 f7;go_wp2_with fail;refine hK.out _ _ _ hY fun yH=> ?_;clear hK K;refine tkC 7 fun K hK=> ?_;go_simp;go_call HS7.out as e w8 ⟨v8,rfl,r8,f8⟩;have R8:=hid (And.intro (r8.lo F7.size) (And.intro (K7.fr0 f8) (F7.trans f8.nil)));have hY:=(A7.fr f8 (by simp)).cell;clear r8 f8;go_wp2_with fail;refine hK.out _ _ _ hY fun yH=> ?_;clear hK K;refine tkZ 8 ?_;refine tkZ 9 ?_;refine tkZ 10 ?_;refine tkZ 11 ?_;refine wpAnyH_done (by kernel_rfl) ?_ _;go_wp2;go_ret2;exact⟨v8,rfl,R8.out⟩
theorem z3i{Ls:List (List Nat)}(h:CP w0 q g l par own nm fr W)(hx:x∈g.R)(hp:g.p x=zqj Ls)(hG:GoodR Ls):Calls prog 32 #[q,x] W fun e w'=>∃v,e= .returned (.tuple #[v,(0:Int)])∧RecV w' W.heap.size v q.ga (x+32+(2+2*Ls.length)) Ls∧CP w0 q g l par own nm fr w'∧Fr q.blocks W w':=by
 obtain⟨u,X,hI,f,HM,-,-⟩:=h.en hx;obtain⟨f1,-,f3,f4,f5,f6,-⟩:=f;rw[hp]at f3 f4 f5 f6;exact(z3h hI f1 f3 f4 f5 f6 hG).mono fun e w' ⟨v,h1,h2,h3,h4⟩=>⟨v,h1,h2,HM _ h3 h4,h4⟩
end
end Go.Proofs.YtghllbkjghnmhaaGreatDoor
