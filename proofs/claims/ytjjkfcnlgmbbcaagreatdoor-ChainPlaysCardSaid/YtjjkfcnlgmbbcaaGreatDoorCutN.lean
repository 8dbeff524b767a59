/- Rows of the document's nodes of layer 21 (four cells each): append, one of them, a row without one of them. -/
import Derived.Test.YtjjkfcnlgmbbcaaGreatDoorGA
import Derived.Test.YtjjkfcnlgmbbcaaGreatDoorGD
import Derived.Test.YtjjkfcnlgmbbcaaGreatDoorGI
namespace Go.Proofs.YtjjkfcnlgmbbcaaGreatDoor
set_option linter.unusedVariables false
set_option linter.unusedSimpArgs false
open Go.RowKit
structure ND4 where
 y:Nat
 p:Nat
 r:Nat
 s:List Nat
def ND4.cells(b:ND4):Array Value:= #[.int .i64 b.y,.int .i64 b.p,.string (strOf b.s),.int .i64 b.r]
theorem info_nd:(Tryz.prog.info? 102).map (fun i=>(i.zero,i.size,i.bytes))=some (some (.agg #[.int .i64 0,.int .i64 0,.string ⟨#[]⟩,.int .i64 0]),4,40):=by kernel_rfl
theorem info_nd':∃i,Tryz.prog.info? 102=some i∧i.zero=some (.agg #[.int .i64 0,.int .i64 0,.string ⟨#[]⟩,.int .i64 0])∧i.size=4∧i.bytes=40:=by
 have h:=info_nd;cases e:Tryz.prog.info? 102 with
 |none=>rw[e]at h;cases h
 |some i=>
  rw[e]at h;simp at h;exact⟨i,rfl,h.1,h.2.1,h.2.2⟩
def ND4.cl(b:ND4):List Value:= [.int .i64 b.y,.int .i64 b.p,.string (strOf b.s),.int .i64 b.r]
theorem ND4.cl_len(b:ND4):b.cl.length=4:=rfl
def ndL:List ND4→List Value
 | [] => []
 |b::l=>b.cl++ndL l
theorem ndL_len:∀l:List ND4,(ndL l).length=l.length*4
 | [] =>rfl
 |b::l=>by rw[ndL,List.length_append,ndL_len l,ND4.cl_len,List.length_cons];omega
theorem ndL_app:∀l m:List ND4,ndL (l++m)=ndL l++ndL m
 | [],m=>rfl
 |b::l,m=>by rw[List.cons_append,ndL,ndL,ndL_app l m,List.append_assoc]
theorem ndL_get:∀(l:List ND4) (i:Nat) (hi:i<l.length) (j:Nat),j<4→(ndL l)[i*4+j]?=l[i].cl[j]?
 |b::l,0,hi,j,hj=>by
  rw[ndL,Nat.zero_mul,Nat.zero_add,List.getElem?_append_left (by rw[ND4.cl_len];exact hj)];rfl
 |b::l,i+1,hi,j,hj=>by
  rw[ndL,List.getElem?_append_right (by rw[ND4.cl_len];omega),ND4.cl_len,show(i+1)*4+j-4=i*4+j by omega,ndL_get l i (by simpa using hi) j hj];rfl
theorem ndL_one:∀(l:List ND4),∀u∈ndL l,u.oneCell'=true
 | [],u,hu=>by cases hu
 |b::l,u,hu=>by
  rw[ndL]at hu;rcases List.mem_append.1 hu with hu|hu
  ·simp only[ND4.cl,List.mem_cons,List.not_mem_nil,or_false]at hu
   rcases hu with rfl|rfl|rfl|rfl<;>rfl
  ·exact ndL_one l u hu
def Rkn(W:World)(base:Nat)(v:Value)(L:List ND4):Prop:=W.ownsRow base 102 4 v L.length (ndL L)
theorem Rkn.lt{W:World}{base:Nat}{v:Value}{L:List ND4}(h:Rkn W base v L)(g:Nat)(e:v.ownBlock=some g):base≤g∧g<W.heap.size:=by
 obtain⟨h1,⟨rfl,h2⟩|⟨g',cap,cur,rfl,hb,hg,_⟩⟩:=h
 ·cases e
 ·injection e with e
  have e:g'=g:=e;subst e;exact⟨hb,(Array.getElem?_eq_some_iff.1 hg).1⟩
theorem Rkn.fr{W W':World}{base:Nat}{v:Value}{L:List ND4}{S:List Nat}(h:Rkn W base v L)(hf:Fr S W W')(hS:∀k∈S,v.ownBlock≠some k):Rkn W' base v L:=by
 obtain⟨h1,⟨h2,h3⟩|⟨g,cap,cur,rfl,hb,hg,r1,r2,r3,r4⟩⟩:=h
 ·exact⟨h1,.inl ⟨h2,h3⟩⟩
 ·exact⟨h1,.inr ⟨g,cap,cur,rfl,hb,(hf.block g (Array.getElem?_eq_some_iff.1 hg).1 (fun hm=>hS g hm rfl)).trans hg,r1,r2,r3,r4⟩⟩
theorem Rkn.fr0{W W':World}{base:Nat}{v:Value}{L:List ND4}(h:Rkn W base v L)(hf:Fr [] W W'):Rkn W' base v L:=h.fr hf (by simp)
theorem Rkn.lo{W:World}{base base':Nat}{v:Value}{L:List ND4}(h:Rkn W base' v L)(hb:base≤base'):Rkn W base v L:=by
 obtain⟨h1,⟨h2,h3⟩|⟨g,cap,cur,rfl,hb',hg,r⟩⟩:=h
 ·exact⟨h1,.inl ⟨h2,h3⟩⟩
 ·exact⟨h1,.inr ⟨g,cap,cur,rfl,Nat.le_trans hb hb',hg,r⟩⟩
theorem Rkn.nil(W:World)(base:Nat):Rkn W base (.slice none 0 0) [] :=⟨rfl,.inl ⟨rfl,rfl⟩⟩
def RowKn(w:World)(g cap:Nat)(l:List ND4):Prop:= ∃cur,Blk w g 102 cur∧cur.size=cap*4∧l.length≤cap∧cur.toList.take (l.length*4)=ndL l
theorem RowKn.fr{w w':World}{g cap:Nat}{l:List ND4}{S:List Nat}(h:RowKn w g cap l)(hf:Fr S w w')(hg:g∉S):RowKn w' g cap l:=by
 obtain⟨cur,hb,h1,h2,h3⟩:=h;exact⟨cur,hb.fr hf hg,h1,h2,h3⟩
theorem RowKn.lt{w:World}{g cap:Nat}{l:List ND4}(h:RowKn w g cap l):g<w.heap.size:=by
 obtain⟨cur,hb,_⟩:=h;exact hb.lt
theorem RowKn.le{w:World}{g cap:Nat}{l:List ND4}(h:RowKn w g cap l):l.length≤cap:=by
 obtain⟨cur,hb,h1,h2,_⟩:=h;exact h2
theorem RowKn.cell{w:World}{g cap:Nat}{l:List ND4}(h:RowKn w g cap l)(i:Nat)(hi:i<l.length)(j:Nat)(hj:j<4):w.cell? ⟨g,i*4+j,none⟩=l[i].cl[j]?:=by
 obtain⟨cur,hb,h1,h2,h3⟩:=h;rw[hb.cell,←ndL_get l i hi j hj,←h3,List.getElem?_take_of_lt (by omega),Array.getElem?_toList]
theorem Rkn.row{W:World}{base:Nat}{v:Value}{L:List ND4}(h:Rkn W base v L):∃ad cap,v= .slice ad L.length cap∧(0<L.length→∃g,ad=some ⟨g,0,none⟩∧base≤g∧RowKn W g cap L):=by
 obtain⟨h1,⟨h2,h3⟩|⟨g,cap,cur,rfl,hb,hg,r1,r2,r3,r4⟩⟩:=h
 ·exact⟨none,0,by rw[h2,h3],fun h=>by omega⟩
 ·exact⟨_,cap,rfl,fun _=>⟨g,rfl,hb,⟨cur,hg,r3,r1,r4⟩⟩⟩
theorem addr_addN(g o j:Nat):(⟨g,o,none⟩:Addr).add j=⟨g,o+j,none⟩:=by unfold Addr.add;split<;>simp_all
set_option maxRecDepth 100000 in
theorem run_appKn(w:World)(base:Nat)(v:Value)(l:List ND4)(h:Rkn w base v l)(A:Option Addr)(c:Nat)(m:List ND4)(hm:0<m.length→∃g o,A=some ⟨g,o,none⟩∧∀j (hj:j<m.length) i,i<4→w.cell? ⟨g,o+(j*4+i),none⟩=m[j].cl[i]?)(hl:l.length+m.length≤1048576)(hbase:base≤w.heap.size):∃v' w',(Builtin.append_ #[29,29] 29 #[v,.slice A m.length c]).run Tryz.prog w= .ok v' w'∧Rkn w' base v' (l++m)∧w.grownBy w' v.ownBlock∧(v'.ownBlock=v.ownBlock∨v'.ownBlock=some w.heap.size):=by
 obtain⟨i,hi,hz,hs,hb⟩:=info_nd';rcases A with _|ad
 ·have hm0:m= [] :=by
   rcases m with _|⟨x,m⟩
   ·rfl
   ·obtain⟨g,o,e,_⟩:=hm (by simp)
    cases e
  subst hm0;refine⟨v,w,?_,by simpa using h,World.grownBy.refl w _,.inl rfl⟩;obtain⟨h1,⟨rfl,h2⟩|⟨g,cap,cur,rfl,hg,hh,hc,_⟩⟩:=h
  ·have:l= [] :=List.eq_nil_of_length_eq_zero h2
   subst this;simp[Builtin.append_,run_underlying Tryz.underlying29,sizeOf,typeInfo,hi,Builtin.lenOf,Builtin.firstCells]
  ·simp[Builtin.append_,run_underlying Tryz.underlying29,sizeOf,typeInfo,hi,Builtin.lenOf,Builtin.firstCells,hc,storeCells]
 ·have hcells:∀j u,(ndL m)[j]?=some u→w.cell? (ad.add j)=some u:=by
   intro j u hu;have hj:=(List.getElem?_eq_some_iff.1 hu).1;rw[ndL_len]at hj;obtain⟨g,o,e,hc⟩:=hm (by omega);injection e with e;subst e;have hj2:j/4<m.length:=by omega
   rw[addr_addN,show o+j=o+(j/4*4+j %4)by omega,hc (j/4) hj2 (j %4) (by omega),←ndL_get m (j/4) hj2 (j %4) (by omega),show j/4*4+j %4=j by omega,hu]
  obtain⟨v',w',hrun,h2,h3,_,h5⟩:=run_append_own_at (P:=Tryz.prog) w base 29 29 102 i (.agg #[.int .i64 0,.int .i64 0,.string ⟨#[]⟩,.int .i64 0]) 4 40 Tryz.underlying29 hi hz hs hb rfl (by decide) v l.length (ndL l) h ad m.length c (ndL m) (ndL_len m) hcells (ndL_one m) (by unfold maxLen;omega) (by omega) hbase;refine⟨v',w',hrun,?_,h3,h5⟩;unfold Rkn;rw[List.length_append,ndL_app];exact h2
theorem ownKn0(w:World):Rkn (w.alloc (.cells #[] 102)) w.heap.size (.slice (some ⟨w.heap.size,0,none⟩) 0 0) [] :=
 ⟨rfl,.inr ⟨_,0,#[],rfl,Nat.le_refl _,Blk.new _ _ _,Nat.le_refl _,by unfold maxLen;omega,rfl,rfl⟩⟩
theorem Rkn.grow{w W W':World}{base:Nat}{v:Value}{l:List ND4}(h:Rkn W base v l)(hg:W.grownBy W' v.ownBlock)(hf:Fr [] w W)(hb:w.heap.size≤base):Fr [] w W':=
 ⟨hg.os.trans hf.os,hg.tape.trans hf.tape,hg.output.trans hf.output,Nat.le_trans hf.size hg.size,fun k hk hn=>(hg.block k (Nat.lt_of_lt_of_le hk hf.size) (fun e=>by
  have:=(h.lt k e.symm).1;omega)).trans (hf.block k hk hn)⟩
def cutN(L:List ND4)(k:Nat):List ND4:=L.take k++L.drop (k+1)
theorem cut_runN{w:World}{L:List ND4}{g cap k:Nat}(hr:RowKn w g cap L)(hk:k<L.length)(hl:L.length≤1048576):∃v1 w1 v2 w2,(Builtin.append_ #[29,29] 29 #[.slice (some ⟨w.heap.size,0,none⟩) 0 0,.slice (some ⟨g,0,none⟩) k cap]).run Tryz.prog (w.alloc (.cells #[] 102)).drew= .ok v1 w1
   ∧(Builtin.append_ #[29,29] 29 #[v1,.slice (if cap-(k+1)=0 then some ⟨g,0,none⟩else some ⟨g,(k+1)*4,none⟩) (L.length-(k+1)) (cap-(k+1))]).run Tryz.prog w1= .ok v2 w2
   ∧Rkn w2 w.heap.size v2 (cutN L k)∧Fr [] w w2:=by
 have hO0:Rkn (w.alloc (.cells #[] 102)).drew w.heap.size (.slice (some ⟨w.heap.size,0,none⟩) 0 0) [] :=ownKn0 w
 have f0:Fr [] w (w.alloc (.cells #[] 102)).drew:=((Fr.refl [] w).alloc _).drew
 have hl1:(L.take k).length=k:=by rw[List.length_take];omega
 have hl2:(L.drop (k+1)).length=L.length-(k+1):=List.length_drop
 have hcap:=hr.le
 obtain⟨v1,w1,e1,hO1,g1,_⟩:=run_appKn _ _ _ [] hO0 (some ⟨g,0,none⟩) cap (L.take k) (fun _=>⟨g,0,rfl,fun j hj i hi=>by
  rw[hl1]at hj
  have:=(hr.fr f0 (by simp)).cell j (by omega) i hi
  rw[Nat.zero_add,this,List.getElem_take]⟩) (by rw[hl1];simp;omega) f0.size
 rw[hl1]at e1
 rw[List.nil_append]at hO1
 have f1:Fr [] w w1:=hO0.grow g1 f0 (Nat.le_refl _)
 obtain⟨v2,w2,e2,hO2,g2,_⟩:=run_appKn w1 w.heap.size v1 (L.take k) hO1 (if cap-(k+1)=0 then some ⟨g,0,none⟩else some ⟨g,(k+1)*4,none⟩) (cap-(k+1)) (L.drop (k+1)) (fun h0=>by
  rw[hl2]at h0
  refine⟨g,(k+1)*4,by rw[if_neg (by omega)],fun j hj i hi=> ?_⟩
  rw[hl2]at hj
  have:=(hr.fr f1 (by simp)).cell (k+1+j) (by omega) i hi
  rw[show(k+1)*4+(j*4+i)=(k+1+j)*4+i by omega,this,List.getElem_drop]) (by rw[hl1,hl2];omega) f1.size
 rw[hl2]at e2
 exact⟨v1,w1,v2,w2,e1,e2,hO2,hO1.grow g2 f1 (Nat.le_refl _)⟩
end Go.Proofs.YtjjkfcnlgmbbcaaGreatDoor
