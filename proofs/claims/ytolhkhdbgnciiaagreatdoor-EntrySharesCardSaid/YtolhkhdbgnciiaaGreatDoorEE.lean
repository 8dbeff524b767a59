/- Several texts in one. -/
import Derived.Test.YtolhkhdbgnciiaaGreatDoorED
import Derived.Test.YtolhkhdbgnciiaaGreatDoorKD
import Derived.Test.YtolhkhdbgnciiaaGreatDoorEC
import Derived.Lib.SmallJoins
namespace Go.Proofs.YtolhkhdbgnciiaaGreatDoor
open _root_.Go.Proofs.Tryz
open Go.Lib (hid)
open Go.IntWalk (i64_in)
set_option linter.unusedVariables false
set_option linter.unusedSimpArgs false
open Go.RowKit
set_option maxRecDepth 100000
set_option maxHeartbeats 8000000
structure ED where
 y:Nat
 p:Nat
 ty:Nat
 en:Nat
 ad:Option Addr
 n:Nat
 cp:Nat
 us:Bool
def ED.cells(b:ED):Array Value:= #[.int .i64 b.y,.int .i64 b.p,.int .u16 b.ty,.int .u64 b.en,.slice b.ad b.n b.cp,.bool b.us]
theorem zuz:(prog.info? 112).map (fun i=>(i.zero,i.size,i.bytes))=some (some (.agg #[.int .i64 0,.int .i64 0,.int .u16 0,.int .u64 0,.slice none 0 0,.bool false]),6,64):=by kernel_rfl
theorem zre:∃i,prog.info? 112=some i∧i.zero=some (.agg #[.int .i64 0,.int .i64 0,.int .u16 0,.int .u64 0,.slice none 0 0,.bool false])∧i.size=6∧i.bytes=64:=by
 have h:=zuz;cases e:prog.info? 112 with
 |none=>rw[e]at h;cases h
 |some i=>
  rw[e]at h;simp at h;exact⟨i,rfl,h.1,h.2.1,h.2.2⟩
def ED.cl(b:ED):List Value:= [.int .i64 b.y,.int .i64 b.p,.int .u16 b.ty,.int .u64 b.en,.slice b.ad b.n b.cp,.bool b.us]
theorem ED.cl_len(b:ED):b.cl.length=6:=rfl
def edL:List ED→List Value
 | [] => []
 |b::l=>b.cl++edL l
theorem zit:∀l:List ED,(edL l).length=l.length*6
 | [] =>rfl
 |b::l=>by rw[edL,List.length_append,zit l,ED.cl_len,List.length_cons];omega
theorem znp:∀l m:List ED,edL (l++m)=edL l++edL m
 | [],m=>rfl
 |b::l,m=>by rw[List.cons_append,edL,edL,znp l m,List.append_assoc]
theorem zjw:∀(l:List ED) (i:Nat) (hi:i<l.length) (j:Nat),j<6→(edL l)[i*6+j]?=l[i].cl[j]?
 |b::l,0,hi,j,hj=>by
  rw[edL,Nat.zero_mul,Nat.zero_add,List.getElem?_append_left (by rw[ED.cl_len];exact hj)];rfl
 |b::l,i+1,hi,j,hj=>by
  rw[edL,List.getElem?_append_right (by rw[ED.cl_len];omega),ED.cl_len,show(i+1)*6+j-6=i*6+j by omega,zjw l i (by simpa using hi) j hj];rfl
theorem zpf:∀(l:List ED),∀u∈edL l,u.oneCell'=true
 | [],u,hu=>by cases hu
 |b::l,u,hu=>by
  rw[edL]at hu;rcases List.mem_append.1 hu with hu|hu
  ·simp only[ED.cl,List.mem_cons,List.not_mem_nil,or_false]at hu
   rcases hu with rfl|rfl|rfl|rfl|rfl|rfl<;>rfl
  ·exact zpf l u hu
def Rke(W:World)(base:Nat)(v:Value)(L:List ED):Prop:=W.ownsRow base 112 6 v L.length (edL L)
theorem Rke.lt{W:World}{base:Nat}{v:Value}{L:List ED}(h:Rke W base v L)(g:Nat)(e:v.ownBlock=some g):base≤g∧g<W.heap.size:=by
 obtain⟨h1,⟨rfl,h2⟩|⟨g',cap,cur,rfl,hb,hg,_⟩⟩:=h
 ·cases e
 ·injection e with e
  have e:g'=g:=e;subst e;exact⟨hb,(Array.getElem?_eq_some_iff.1 hg).1⟩
theorem Rke.fr{W W':World}{base:Nat}{v:Value}{L:List ED}{S:List Nat}(h:Rke W base v L)(hf:Fr S W W')(hS:∀k∈S,v.ownBlock≠some k):Rke W' base v L:=by
 obtain⟨h1,⟨h2,h3⟩|⟨g,cap,cur,rfl,hb,hg,r1,r2,r3,r4⟩⟩:=h
 ·exact⟨h1,.inl ⟨h2,h3⟩⟩
 ·exact⟨h1,.inr ⟨g,cap,cur,rfl,hb,(hf.block g (Array.getElem?_eq_some_iff.1 hg).1 (fun hm=>hS g hm rfl)).trans hg,r1,r2,r3,r4⟩⟩
theorem Rke.fr0{W W':World}{base:Nat}{v:Value}{L:List ED}(h:Rke W base v L)(hf:Fr [] W W'):Rke W' base v L:=h.fr hf (by simp)
theorem Rke.frq{W W':World}{base:Nat}{v:Value}{L:List ED}{S:List Nat}(h:Rke W base v L)(hf:Fr S W W')(hS:∀k∈S,k<base):Rke W' base v L:=h.fr hf (fun k hk e=>by
 have:=(h.lt k e).1;have:=hS k hk;omega)
theorem Rke.nil(W:World)(base:Nat):Rke W base (.slice none 0 0) [] :=⟨rfl,.inl ⟨rfl,rfl⟩⟩
def RowKe(w:World)(g cap:Nat)(l:List ED):Prop:= ∃cur,Blk w g 112 cur∧cur.size=cap*6∧l.length≤cap∧cur.toList.take (l.length*6)=edL l
theorem RowKe.cell{w:World}{g cap:Nat}{l:List ED}(h:RowKe w g cap l)(i:Nat)(hi:i<l.length)(j:Nat)(hj:j<6):w.cell? ⟨g,i*6+j,none⟩=l[i].cl[j]?:=by
 obtain⟨cur,hb,h1,h2,h3⟩:=h;rw[hb.cell,←zjw l i hi j hj,←h3,List.getElem?_take_of_lt (by omega),Array.getElem?_toList]
theorem Rke.row{W:World}{base:Nat}{v:Value}{L:List ED}(h:Rke W base v L):∃ad cap,v= .slice ad L.length cap∧(0<L.length→∃g,ad=some ⟨g,0,none⟩∧base≤g∧RowKe W g cap L):=by
 obtain⟨h1,⟨h2,h3⟩|⟨g,cap,cur,rfl,hb,hg,r1,r2,r3,r4⟩⟩:=h
 ·exact⟨none,0,by rw[h2,h3],fun h=>by omega⟩
 ·exact⟨_,cap,rfl,fun _=>⟨g,rfl,hb,⟨cur,hg,r3,r1,r4⟩⟩⟩
theorem zno(g o j:Nat):(⟨g,o,none⟩:Addr).add j=⟨g,o+j,none⟩:=by unfold Addr.add;split<;>simp_all
theorem zna(w:World)(base:Nat)(v:Value)(l:List ED)(h:Rke w base v l)(A:Option Addr)(c:Nat)(m:List ED)(hm:0<m.length→∃g o,A=some ⟨g,o,none⟩∧∀j (hj:j<m.length) i,i<6→w.cell? ⟨g,o+(j*6+i),none⟩=m[j].cl[i]?)(hl:l.length+m.length≤1048576)(hbase:base≤w.heap.size):∃v' w',(Builtin.append_ #[75,75] 75 #[v,.slice A m.length c]).run prog w= .ok v' w'∧Rke w' base v' (l++m)∧w.grownBy w' v.ownBlock∧(v'.ownBlock=v.ownBlock∨v'.ownBlock=some w.heap.size):=by
 obtain⟨i,hi,hz,hs,hb⟩:=zre;rcases A with _|ad
 ·have hm0:m= [] :=by
   rcases m with _|⟨x,m⟩
   ·rfl
   ·obtain⟨g,o,e,_⟩:=hm (by simp)
    cases e
  subst hm0;refine⟨v,w,?_,by simpa using h,World.grownBy.refl w _,.inl rfl⟩;obtain⟨h1,⟨rfl,h2⟩|⟨g,cap,cur,rfl,hg,hh,hc,_⟩⟩:=h
  ·have:l= [] :=List.eq_nil_of_length_eq_zero h2
   subst this;simp[Builtin.append_,run_underlying underlying75,sizeOf,typeInfo,hi,Builtin.lenOf,Builtin.firstCells]
  ·simp[Builtin.append_,run_underlying underlying75,sizeOf,typeInfo,hi,Builtin.lenOf,Builtin.firstCells,hc,storeCells]
 ·have hcells:∀j u,(edL m)[j]?=some u→w.cell? (ad.add j)=some u:=by
   intro j u hu;have hj:=(List.getElem?_eq_some_iff.1 hu).1;rw[zit]at hj;obtain⟨g,o,e,hc⟩:=hm (by omega);injection e with e;subst e;have hj2:j/6<m.length:=by omega
   rw[zno,show o+j=o+(j/6*6+j %6)by omega,hc (j/6) hj2 (j %6) (by omega),←zjw m (j/6) hj2 (j %6) (by omega),show j/6*6+j %6=j by omega,hu]
  obtain⟨v',w',hrun,h2,h3,_,h5⟩:=run_append_own_at (P:=prog) w base 75 75 112 i (.agg #[.int .i64 0,.int .i64 0,.int .u16 0,.int .u64 0,.slice none 0 0,.bool false]) 6 64 underlying75 hi hz hs hb rfl (by decide) v l.length (edL l) h ad m.length c (edL m) (zit m) hcells (zpf m) (by unfold maxLen;omega) (by omega) hbase;refine⟨v',w',hrun,?_,h3,h5⟩;unfold Rke;rw[List.length_append,znp];exact h2
structure IsE(w:World)(p:Nat)(v:Value)(pn pr:Nat)(L:List ED):Prop where
 st:Blk w p 77 #[v,.pointer (some ⟨pn,0,none⟩),.pointer (some ⟨pr,0,none⟩)]
 r:Rke w (p+1) v L
section
variable {w w' W : World} {p pn pr : Nat} {v : Value} {L : List ED}
theorem IsE.fr{S:List Nat}(h:IsE w p v pn pr L)(hf:Fr S w w')(hp:p∉S)(hS:∀k∈S,v.ownBlock≠some k):IsE w' p v pn pr L:=⟨h.st.fr hf hp,h.r.fr hf hS⟩
theorem IsE.row(h:IsE w p v pn pr L):∃ad cap,v= .slice ad L.length cap∧(0<L.length→∃g,ad=some ⟨g,0,none⟩∧p+1≤g∧RowKe w g cap L):=h.r.row
theorem RowKe.six{g cap:Nat}(h:RowKe w g cap L){i:Nat}{d:ED}(hi:L[i]?=some d):w.cell? ⟨g,i*6,none⟩=some (.int .i64 d.y)∧w.cell? ⟨g,i*6+1,none⟩=some (.int .i64 d.p)∧w.cell? ⟨g,i*6+2,none⟩=some (.int .u16 d.ty)∧w.cell? ⟨g,i*6+3,none⟩=some (.int .u64 d.en)∧w.cell? ⟨g,i*6+4,none⟩=some (.slice d.ad d.n d.cp)∧w.cell? ⟨g,i*6+5,none⟩=some (.bool d.us):=by
 obtain⟨hlt,e⟩:=List.getElem?_eq_some_iff.1 hi;have h0:=h.cell i hlt 0 (by decide);have h1:=h.cell i hlt 1 (by decide);have h2:=h.cell i hlt 2 (by decide);have h3:=h.cell i hlt 3 (by decide);have h4:=h.cell i hlt 4 (by decide);have h5:=h.cell i hlt 5 (by decide);rw[e]at h0 h1 h2 h3 h4 h5;exact⟨h0,h1,h2,h3,h4,h5⟩
def FndE(L:List ED)(a ty:Nat)(e:Ending):Prop:=(∃(i:Nat) (d:ED),e= .returned (.tuple #[.int .i64 (d.y:Nat),.bool true])∧L[i]?=some d∧d.p=a∧d.ty=ty)∨(e= .returned (.tuple #[.int .i64 0,.bool false])∧ ∀d∈L,d.p=a→d.ty≠ty)
theorem zx9(h:IsE w p v pn pr L)(hl:L.length≤100000)(a ty:Nat):Calls prog 60 #[.pointer (some ⟨p,0,none⟩),.int .i64 a,.int .u16 ty] w fun e w'=>FndE L a ty e∧w'=w:=by
 obtain⟨ad,cap,rfl,hrow⟩:=h.row;have hst:=h.st.cell 0;simp at hst;have HR:=hid hrow;obtain⟨n,hn⟩:∃n,L.length=n:=⟨_,rfl⟩;have HN:=hid hn;rw[hn]at hst hl;clear h hrow hn;go_enter func60,ntmps60;go_wp2_with fail;go_loopg [8] (n+1) (fun gk v8 W=>∃i:Nat,v8= .int .i64 i∧(i+gk=n+1∧i≤n)∧Hid (∀d∈L.take i,d.p=a→d.ty≠ty)∧w=W);case atStart=>exact⟨0,rfl,by omega,hid (fun d hd=>by simp at hd),rfl⟩
 case round=>
  obtain⟨i,rfl,hi,HD,rfl⟩:=hrel;by_cases hlt:i<n
  ·have b6':decide (i<n)=true:=by simp;omega
   obtain⟨d,hd⟩:∃d,L[i]?=some d:=⟨_,List.getElem?_eq_getElem (by rw[HN.out];exact hlt)⟩;obtain⟨g,rfl,hg,hr⟩:=HR.out (by rw[HN.out];omega);obtain⟨c0,c1,c2,-⟩:=hr.six hd;have HDd:=hid hd;have i0:(0:Int)≤i:=by omega
   have i1:(i:Int)<n:=by omega
   have wi:=i64_in ((i:Int)+1) (by omega);clear hr hd;by_cases hx:d.p=a∧d.ty=ty
   ·have HX:=hid hx
    have b1:((d.p:Int)==(a:Int))=true:=by simp;omega
    have b1':(d.p==a)=true:=by simp;omega
    have b2:((d.ty:Int)==(ty:Int))=true:=by simp;omega
    have b2':(d.ty==ty)=true:=by simp;omega
    clear hx;go_wp2_with fail;go_ret2;exact⟨.inl ⟨i,d,rfl,HDd.out,HX.out⟩,rfl⟩
   ·have HD':=hid (show∀d∈L.take (i+1),d.p=a→d.ty≠ty from fun d' hd'=>by
     rw[List.take_add_one,HDd.out,Option.toList_some]at hd';rcases List.mem_append.1 hd' with h|h
     ·exact HD.out d' h
     ·rw[List.mem_singleton]at h;rw[h];exact fun e1 e2=>hx ⟨e1,e2⟩)
    by_cases h1:d.p=a
    ·have b1:((d.p:Int)==(a:Int))=true:=by simp;omega
     have b1':(d.p==a)=true:=by simp;omega
     have b2:((d.ty:Int)==(ty:Int))=false:=by simp;omega
     have b2':(d.ty==ty)=false:=by simp;omega
     clear hx;go_wp2_with fail;go_roundg (gk-1);case measure=>omega
     case rel=>exact⟨i+1,by go_num,by omega,HD',rfl⟩
    ·have b1:((d.p:Int)==(a:Int))=false:=by simp;omega
     have b1':(d.p==a)=false:=by simp;omega
     clear hx h1;go_wp2_with fail;go_roundg (gk-1);case measure=>omega
     case rel=>exact⟨i+1,by go_num,by omega,HD',rfl⟩
  ·obtain rfl:i=n:=by omega
   have b6':decide (i<i)=false:=by simp
   have HNo:=hid (show∀d∈L,d.p=a→d.ty≠ty from by have:=HD.out;rwa[←HN.out,List.take_length]at this);go_wp2_with fail;go_ret2;exact⟨.inr ⟨rfl,HNo.out⟩,rfl⟩
end
theorem IsG.frS{W W':World}{p cap b:Nat}{ad:Option Addr}{R S:List Nat}(h:IsG W p ad cap R b)(hf:Fr S W W')(hp:p∉S)(hr:0<R.length→∀g o,ad=some ⟨g,o,none⟩→g∉S):IsG W' p ad cap R b:=
 ⟨h.st.fr hf hp,fun h0=>by
  obtain⟨g,e,hb,r⟩:=h.row h0;exact⟨g,e,hb,r.fr hf (hr h0 g 0 e)⟩⟩
def blkA(R:List Nat)(ad:Option Addr):List Nat:=if 0<R.length then(match ad with|some a=> [a.block] |none=> [])else[]
theorem zfl{R:List Nat}{ad:Option Addr}(h0:0<R.length){g o:Nat}(e:ad=some ⟨g,o,none⟩):g∈blkA R ad:=by
 subst e;unfold blkA;rw[if_pos h0];exact List.mem_singleton.2 rfl
theorem zf1{W:World}{p cap b:Nat}{ad:Option Addr}{R:List Nat}(h:IsG W p ad cap R b){k:Nat}(hk:k∈blkA R ad):0<R.length∧ad=some ⟨k,0,none⟩∧p+1≤k∧RowI W k cap R:=by
 unfold blkA at hk;by_cases h0:0<R.length
 ·obtain⟨g,rfl,hg,r⟩:=h.row h0
  rw[if_pos h0]at hk;obtain rfl:=List.mem_singleton.1 hk;exact⟨h0,rfl,hg,r⟩
 ·rw[if_neg h0]at hk
  cases hk
structure DV(w:World)(p pn pr:Nat)(D:List Nat)(Es:List ED)(R:List Nat)(b:Nat)(l:List Nat)(par own:Nat→Nat)(nm:Nat→List (List Nat))(vE vN:Value)(ad:Option Addr)(cap:Nat):Prop where
 e:IsE w p vE pn pr Es
 n:DD w pn vN l par own nm
 g:IsG w pr ad cap R b
 d:D=p::pn::pr::(ownS vE++(ownS vN++blkA R ad))
def DE(w:World)(p pn pr:Nat)(D:List Nat)(Es:List ED)(R:List Nat)(b:Nat)(l:List Nat)(par own:Nat→Nat)(nm:Nat→List (List Nat)):Prop:= ∃vE vN ad cap,DV w p pn pr D Es R b l par own nm vE vN ad cap
section
variable {w w' W : World} {p pn pr b x a name typ ex : Nat} {D Rr R l : List Nat} {Es : List ED} {par own : Nat → Nat} {nm : Nat → List (List Nat)} {v vE vN : Value} {ad : Option Addr} {cap : Nat}
theorem ownS_iff{v:Value}{k:Nat}:k∈ownS v↔v.ownBlock=some k:=by
 unfold ownS;cases v.ownBlock with
 |none=>simp
 |some g=>simp[eq_comm]
theorem DV.mem(h:DV w p pn pr D Es R b l par own nm vE vN ad cap)(k:Nat):k∈D↔k=p∨k=pn∨k=pr∨k∈ownS vE∨k∈ownS vN∨k∈blkA R ad:=by
 rw[h.d];simp[or_assoc]
theorem DV.frS{S:List Nat}(h:DV w p pn pr D Es R b l par own nm vE vN ad cap)(hf:Fr S w W)(hS:∀k∈S,k∉D):DV W p pn pr D Es R b l par own nm vE vN ad cap:=
 ⟨h.e.fr hf (fun k=>hS _ k ((h.mem p).2 (.inl rfl))) (fun k hk e=>hS k hk ((h.mem k).2 (.inr (.inr (.inr (.inl (ownS_iff.2 e))))))),IsN.fr h.n hf (fun k=>hS _ k ((h.mem pn).2 (.inr (.inl rfl)))) (fun k hk e=>hS k hk ((h.mem k).2 (.inr (.inr (.inr (.inr (.inl (ownS_iff.2 e)))))))),h.g.frS hf (fun k=>hS _ k ((h.mem pr).2 (.inr (.inr (.inl rfl))))) (fun h0 g o e k=>hS g k ((h.mem g).2 (.inr (.inr (.inr (.inr (.inr (zfl h0 e)))))))),h.d⟩
theorem DV.fr0(h:DV w p pn pr D Es R b l par own nm vE vN ad cap)(hf:Fr [] w W):DV W p pn pr D Es R b l par own nm vE vN ad cap:=h.frS hf (by simp)
theorem DE.frS{S:List Nat}(h:DE w p pn pr D Es R b l par own nm)(hf:Fr S w W)(hS:∀k∈S,k∉D):DE W p pn pr D Es R b l par own nm:=by
 obtain⟨vE,vN,ad,cap,h⟩:=h;exact⟨vE,vN,ad,cap,h.frS hf hS⟩
theorem DE.fr0(h:DE w p pn pr D Es R b l par own nm)(hf:Fr [] w W):DE W p pn pr D Es R b l par own nm:=h.frS hf (by simp)
theorem DV.lt(h:DV w p pn pr D Es R b l par own nm vE vN ad cap):∀k∈D,k<w.heap.size:=fun k hk=>by
 rcases(h.mem k).1 hk with rfl|rfl|rfl|e|e|e
 ·exact h.e.st.lt
 ·exact(show IsN w k vN _ from h.n).st.lt
 ·exact h.g.st.lt
 ·exact(h.e.r.lt k (ownS_iff.1 e)).2
 ·exact((show IsN w pn vN _ from h.n).r.lt k (ownS_iff.1 e)).2
 ·exact(zf1 h.g e).2.2.2.lt
theorem DE.lt(h:DE w p pn pr D Es R b l par own nm):∀k∈D,k<w.heap.size:=by
 obtain⟨vE,vN,ad,cap,h⟩:=h;exact h.lt
theorem DV.ne(h:DV w p pn pr D Es R b l par own nm vE vN ad cap):p≠pn∧p≠pr∧pn≠pr:=by
 have hn:IsN w pn vN _:=h.n;exact⟨Blk.ne_ h.e.st hn.st (by decide),Blk.ne_ h.e.st h.g.st (by decide),Blk.ne_ hn.st h.g.st (by decide)⟩
theorem DV.e_ne(h:DV w p pn pr D Es R b l par own nm vE vN ad cap):∀k∈ownS vE,k≠p∧k≠pn∧k≠pr∧k∉ownS vN∧k∉blkA R ad:=fun k hk=>by
 have hn:IsN w pn vN _:=h.n;refine⟨fun e=>za6 h.e.r h.e.st (by decide) (e▸hk),fun e=>za6 h.e.r hn.st (by decide) (e▸hk),fun e=>za6 h.e.r h.g.st (by decide) (e▸hk),fun e=>zox h.e.r hn.r (by decide) k hk (ownS_iff.1 e),fun e=> ?_⟩;obtain⟨_,_,_,cur,r,_⟩:=zf1 h.g e;exact za6 h.e.r r (by decide) hk
theorem DV.n_ne(h:DV w p pn pr D Es R b l par own nm vE vN ad cap):∀k∈ownS vN,k≠p∧k≠pn∧k≠pr∧k∉ownS vE∧k∉blkA R ad:=fun k hk=>by
 have hn:IsN w pn vN _:=h.n;refine⟨fun e=>za6 hn.r h.e.st (by decide) (e▸hk),fun e=>za6 hn.r hn.st (by decide) (e▸hk),fun e=>za6 hn.r h.g.st (by decide) (e▸hk),fun e=>zox hn.r h.e.r (by decide) k hk (ownS_iff.1 e),fun e=> ?_⟩;obtain⟨_,_,_,cur,r,_⟩:=zf1 h.g e;exact za6 hn.r r (by decide) hk
theorem DV.r_ne(h:DV w p pn pr D Es R b l par own nm vE vN ad cap):∀k∈blkA R ad,k≠p∧k≠pn∧k≠pr:=fun k hk=>by
 have hn:IsN w pn vN _:=h.n;obtain⟨_,_,_,cur,r,_⟩:=zf1 h.g hk;exact⟨Blk.ne_ r h.e.st (by decide),Blk.ne_ r hn.st (by decide),Blk.ne_ r h.g.st (by decide)⟩
structure Nd(D:List Nat)(w:World)(D':List Nat)(w':World):Prop where
 f:Fr D w w'
 o: ∀k∈D',k∈D∨w.heap.size≤k
theorem Nd.trans{D D1 D2:List Nat}{w w1 w2:World}(h:Nd D w D1 w1)(h2:Nd D1 w1 D2 w2):Nd D w D2 w2:=
 ⟨h.f.step h2.f (fun k hk=>h.o k hk),fun k hk=>(h2.o k hk).elim (fun e=>h.o k e) (fun e=> .inr (Nat.le_trans h.f.size e))⟩
theorem Nd.of0{D:List Nat}(h:Fr [] w W):Nd D w D W:=⟨h.nil,fun k hk=> .inl hk⟩
theorem DV.nodes(h:DV w p pn pr D Es R b l par own nm vE vN ad cap){vN':Value}{l':List Nat}{par' own':Nat→Nat}{nm':Nat→List (List Nat)}(hx:Nx pn vN w vN' W)(hd:DD W pn vN' l' par' own' nm'):∃D',DV W p pn pr D' Es R b l' par' own' nm' vE vN' ad cap∧Nd D w D' W:=by
 obtain⟨a1,a2,a3⟩:=h.ne;have h1:=h.e_ne;have h2:=h.n_ne;have h3:=h.r_ne;have hS:∀k,k∈pn::ownS vN→k=pn∨k∈ownS vN:=fun k hk=>List.mem_cons.1 hk;refine⟨_,⟨h.e.fr hx.f (fun k=> ?_) (fun k hk e=> ?_),hd,h.g.frS hx.f (fun k=> ?_) (fun h0 g o e k=> ?_),rfl⟩,hx.f.mono (fun k hk=> ?_),fun k hk=> ?_⟩
 ·rcases hS _ k with k|k
  ·exact a1 k
  ·exact(h2 _ k).1 rfl
 ·rcases hS _ hk with k1|k1
  ·exact(h1 _ (ownS_iff.2 e)).2.1 k1
  ·exact(h1 _ (ownS_iff.2 e)).2.2.2.1 k1
 ·rcases hS _ k with k|k
  ·exact a3 k.symm
  ·exact(h2 _ k).2.2.1 rfl
 ·rcases hS _ k with k1|k1
  ·exact(h3 _ (zfl h0 e)).2.1 k1
  ·exact(h2 _ k1).2.2.2.2 (zfl h0 e)
 ·rcases hS _ hk with k1|k1
  ·exact .inl ((h.mem k).2 (.inr (.inl k1)))
  ·exact .inl ((h.mem k).2 (.inr (.inr (.inr (.inr (.inl k1))))))
 ·have hm:=h.mem k
  simp only[List.mem_cons,List.mem_append]at hk;rcases hk with e|e|e|e|e|e
  ·exact .inl (hm.2 (.inl e))
  ·exact .inl (hm.2 (.inr (.inl e)))
  ·exact .inl (hm.2 (.inr (.inr (.inl e))))
  ·exact .inl (hm.2 (.inr (.inr (.inr (.inl e)))))
  ·rcases hx.o k e with e|e
   ·exact .inl (hm.2 (.inr (.inr (.inr (.inr (.inl e))))))
   ·exact .inr e
  ·exact .inl (hm.2 (.inr (.inr (.inr (.inr (.inr e))))))
theorem DV.ring(h:DV w p pn pr D Es R b l par own nm vE vN ad cap){b':Nat}(hg:IsGy w.heap.size W pr Rr b')(hf:Fr [pr] w W):∃D' ad' cap',DV W p pn pr D' Es Rr b' l par own nm vE vN ad' cap'∧Nd D w D' W:=by
 obtain⟨a1,a2,a3⟩:=h.ne;have h1:=h.e_ne;have h2:=h.n_ne;obtain⟨ad',cap',h5,h6⟩:=hg;refine⟨_,ad',cap',⟨h.e.fr hf (by simpa using a2) (fun k hk e=> ?_),IsN.fr h.n hf (by simpa using a3) (fun k hk e=> ?_),h5,rfl⟩,hf.mono (fun k hk=> ?_),fun k hk=> ?_⟩
 ·obtain rfl:=List.mem_singleton.1 hk
  exact(h1 _ (ownS_iff.2 e)).2.2.1 rfl
 ·obtain rfl:=List.mem_singleton.1 hk
  exact(h2 _ (ownS_iff.2 e)).2.2.1 rfl
 ·obtain rfl:=List.mem_singleton.1 hk
  exact .inl ((h.mem _).2 (.inr (.inr (.inl rfl))))
 ·have hm:=h.mem k
  simp only[List.mem_cons,List.mem_append]at hk;rcases hk with e|e|e|e|e|e
  ·exact .inl (hm.2 (.inl e))
  ·exact .inl (hm.2 (.inr (.inl e)))
  ·exact .inl (hm.2 (.inr (.inr (.inl e))))
  ·exact .inl (hm.2 (.inr (.inr (.inr (.inl e)))))
  ·exact .inl (hm.2 (.inr (.inr (.inr (.inr (.inl e))))))
  ·obtain⟨h0,e2,_⟩:=zf1 h5 e
   exact .inr (h6 h0 k 0 e2)
theorem DV.ents(h:DV w p pn pr D Es R b l par own nm vE vN ad cap){vE':Value}{Es':List ED}(he:IsE W p vE' pn pr Es')(hf:Fr (p::ownS vE) w W)(ho:∀k∈ownS vE',k∈ownS vE∨w.heap.size≤k):∃D',DV W p pn pr D' Es' R b l par own nm vE' vN ad cap∧Nd D w D' W:=by
 obtain⟨a1,a2,a3⟩:=h.ne;have h1:=h.e_ne;have h2:=h.n_ne;have h3:=h.r_ne;have hS:∀k,k∈p::ownS vE→k=p∨k∈ownS vE:=fun k hk=>List.mem_cons.1 hk;refine⟨_,⟨he,IsN.fr h.n hf (fun k=> ?_) (fun k hk e=> ?_),h.g.frS hf (fun k=> ?_) (fun h0 g o e k=> ?_),rfl⟩,hf.mono (fun k hk=> ?_),fun k hk=> ?_⟩
 ·rcases hS _ k with k|k
  ·exact a1 k.symm
  ·exact(h1 _ k).2.1 rfl
 ·rcases hS _ hk with k1|k1
  ·exact(h2 _ (ownS_iff.2 e)).1 k1
  ·exact(h1 _ k1).2.2.2.1 (ownS_iff.2 e)
 ·rcases hS _ k with k|k
  ·exact a2 k.symm
  ·exact(h1 _ k).2.2.1 rfl
 ·rcases hS _ k with k1|k1
  ·exact(h3 _ (zfl h0 e)).1 k1
  ·exact(h1 _ k1).2.2.2.2 (zfl h0 e)
 ·rcases hS _ hk with k1|k1
  ·exact .inl ((h.mem k).2 (.inl k1))
  ·exact .inl ((h.mem k).2 (.inr (.inr (.inr (.inl k1)))))
 ·have hm:=h.mem k
  simp only[List.mem_cons,List.mem_append]at hk;rcases hk with e|e|e|e|e|e
  ·exact .inl (hm.2 (.inl e))
  ·exact .inl (hm.2 (.inr (.inl e)))
  ·exact .inl (hm.2 (.inr (.inr (.inl e))))
  ·rcases ho k e with e|e
   ·exact .inl (hm.2 (.inr (.inr (.inr (.inl e)))))
   ·exact .inr e
  ·exact .inl (hm.2 (.inr (.inr (.inr (.inr (.inl e))))))
  ·exact .inl (hm.2 (.inr (.inr (.inr (.inr (.inr e))))))
theorem zx8(w:World)(par own:Nat→Nat)(nm:Nat→List (List Nat)):Calls prog 10 #[] w fun e w'=>∃p pn pr D,e= .returned (.pointer (some ⟨p,0,none⟩))∧DE w' p pn pr D [] [] 0 [] par own nm∧Fr [] w w'∧∀k∈D,w.heap.size≤k:=by
 obtain⟨w1,hw1⟩:∃w1,w.alloc (.cells #[.slice none 0 0] 71)=w1:=⟨_,rfl⟩;obtain⟨w2,hw2⟩:∃w2,w1.alloc (.cells #[.slice none 0 0,.int .i64 0] 74)=w2:=⟨_,rfl⟩;obtain⟨w3,hw3⟩:∃w3,w2.alloc (.cells #[.slice none 0 0,.pointer (some ⟨w.heap.size,0,none⟩),.pointer (some ⟨w1.heap.size,0,none⟩)] 77)=w3:=⟨_,rfl⟩;have B1:Blk w1 w.heap.size 71 #[.slice none 0 0] :=hw1▸Blk.new _ _ _;have B2:Blk w2 w1.heap.size 74 #[.slice none 0 0,.int .i64 0] :=hw2▸Blk.new _ _ _;have B3:Blk w3 w2.heap.size 77 #[.slice none 0 0,.pointer (some ⟨w.heap.size,0,none⟩),.pointer (some ⟨w1.heap.size,0,none⟩)] :=hw3▸Blk.new _ _ _;have f1:Fr [] w w1:=hw1▸(Fr.refl [] w).alloc _;have f2:Fr [] w1 w2:=hw2▸(Fr.refl [] w1).alloc _;have f3:Fr [] w2 w3:=hw3▸(Fr.refl [] w2).alloc _
 have H:=hid (show∃D,DE w3 w2.heap.size w.heap.size w1.heap.size D [] [] 0 [] par own nm∧Fr [] w w3∧∀k∈D,w.heap.size≤k from by
  have e1:=f1.size;have e2:=f2.size;refine⟨_,⟨.slice none 0 0,.slice none 0 0,none,0,⟨B3,Rke.nil _ _⟩,⟨(B1.fr f2 (by simp)).fr f3 (by simp),Rkn.nil _ _⟩,⟨B2.fr f3 (by simp),fun h0=>by simp at h0⟩,rfl⟩,(f1.trans f2).trans f3,fun k hk=> ?_⟩;simp[ownS,Value.ownBlock,blkA]at hk;rcases hk with rfl|rfl|rfl<;>omega)
 clear B1 B2 B3 f1 f2 f3;go_enter func10,ntmps10;go_wp2_with fail;go_ret;obtain⟨D,h1,h2,h3⟩:=H.out;exact⟨_,_,_,D,rfl,h1,h2,h3⟩
theorem IsE.app(h:IsE w p v pn pr Es)(hl:Es.length≤100000)(d:ED):∃g cp w',∀v',v'= .slice (some ⟨g,0,none⟩) (Es.length+1) cp→(Builtin.append_ #[75,75] 75 #[v,.slice (some ⟨w.heap.size,0,none⟩) 1 1]).run prog (w.alloc (.cells d.cells 112))= .ok v' w'∧w'.frozen? ⟨p,0,none⟩=false∧(∃u,w'.cell? ⟨p,0,none⟩=some u)
  ∧IsE (w'.setCell ⟨p,0,none⟩ v') p v' pn pr (Es++ [d])∧Fr (p::ownS v) w (w'.setCell ⟨p,0,none⟩ v')∧∀k∈ownS v',k∈ownS v∨w.heap.size≤k:=by
 have hp:=h.st.lt
 obtain⟨v',w',hrun,h2,h3,h5⟩:=zna (w.alloc (.cells d.cells 112)) (p+1) v Es (h.r.fr0 ((Fr.refl [] w).alloc _)) (some ⟨w.heap.size,0,none⟩) 1 [d] (fun _=>⟨_,0,rfl,fun j hj i hi=>by
  obtain rfl:j=0:=by simp at hj;omega
  rw[Nat.zero_mul,Nat.zero_add,Nat.zero_add,(Blk.new w 112 d.cells).cell];show(#[.int .i64 (d.y:Int),.int .i64 (d.p:Int),.int .u16 (d.ty:Int),.int .u64 (d.en:Int),.slice d.ad d.n d.cp,.bool d.us] :Array Value)[i]?=d.cl[i]?;rw[List.getElem?_toArray];rfl⟩) (by simp;omega) (by simp;omega)
 obtain⟨g,cp,rfl⟩:=ownsRow_succ (show w'.ownsRow (p+1) 112 6 v' (Es.length+1) (edL (Es++ [d]))from by
  have:=h2;unfold Rke at this;rwa[List.length_append]at this)
 have f3:Fr (ownS v) w w':=zdm h3;have hb:=h.st.fr f3 (za6 h.r h.st (by decide));have hf:Fr [p] w' (w'.setCell ⟨p,0,none⟩ (.slice (some ⟨g,0,none⟩) (Es.length+1) cp)):=(Fr.refl [p] w').setCell (p:=⟨p,0,none⟩) (.inl (by simp)) _;refine⟨g,cp,w',?_⟩;rintro v' rfl;refine⟨hrun,hb.frozen 0,⟨_,hb.cell 0⟩,⟨by simpa using hb.set 0 (.slice (some ⟨g,0,none⟩) (Es.length+1) cp),h2.frq hf (by simp)⟩,(f3.mono (fun k hk=> .inl (List.mem_cons_of_mem _ hk))).setCell (p:=⟨p,0,none⟩) (.inl (by simp)) _,fun k hk=> ?_⟩;have e:=ownS_iff.1 hk;rcases h5 with h5|h5
 ·exact .inl (ownS_iff.2 (h5.symm.trans e))
 ·rw[e]at h5
  injection h5 with h5;rw[World.size_alloc]at h5;exact .inr (by omega)
def MkD(w:World)(p pn pr:Nat)(D:List Nat)(Es:List ED)(R:List Nat)(b:Nat)(l:List Nat)(par own:Nat→Nat)(nm:Nat→List (List Nat))(x name typ ex:Nat)(Ls:List (List Nat))(e:Ending)(w':World):Prop:=
 ((∃d∈Es,d.p=name∧d.ty=typ)∧e= .returned (.int .i64 8)∧Fr [] w w')∨
 ((∀d∈Es,d.p=name→d.ty≠typ)∧e= .returned (.int .i64 0)∧ ∃D' ad cp,DE w' p pn pr D' (Es++ [⟨x,name,typ,ex,ad,Ls.length,cp,false⟩]) (R++ [x]) (insB R b x) l par own nm∧Nd D w D' w'∧RecO w' w.heap.size (.slice ad Ls.length cp) Ls)
theorem ztw{Ls:List (List Nat)}(h:DE w p pn pr D Es R b l par own nm)(hl:Es.length≤1000)(hln:l.length≤1000)(hlr:R.length≤1000)(hG:GoodR Ls)(ad0:Option Addr)(c:Nat)(hb:Byt w ad0 (zad Ls))(hc:(zad Ls).length≤c)(hx:name=0∨name∈l)(hxR:x∉R):Calls prog 38 #[.pointer (some ⟨p,0,none⟩),.int .i64 x,.int .i64 name,.int .u16 typ,.int .u64 ex,.slice ad0 (zad Ls).length c] w (MkD w p pn pr D Es R b l par own nm x name typ ex Ls):=by
 obtain⟨vE,vN,ad,cap,h⟩:=h;have HU:=hid (zu1 w ad0 c Ls hG hb hc);have HD:=hid h;have HX:=hid hx;have HF:=hid (fun V (hf:Fr [] w V)=>zx9 (h.fr0 hf).e (by omega) name typ);have HA:=hid (fun V (hf:Fr [] w V) (h0:name≠0)=>zg7 (h.fr0 hf).n (by omega) (hx.resolve_left h0));have HA1:=hid (fun V (hf:Fr [] w V) d=>(h.fr0 hf).e.app (by omega) d);have HI:=hid (fun V (hV:IsG V pr ad cap R b)=>z1s hV (by omega) hxR);generalize(zad Ls).length=z at*;clear h hl hln hlr hG hb hc hx hxR;go_enter func38,ntmps38;go_wp2_with fail;with_reducible refine HU.out.mono ?_
 rintro e w1 ⟨vr,rfl,hR1,f1⟩;obtain⟨adr,cpr,rfl⟩:=hR1.val;have F1:=hid f1;have HR1:=hid hR1;have HD1:=hid (HD.out.fr0 f1);have d1:=HD1.out.e.st.cell 1;simp only[List.getElem?_toArray,List.getElem?_cons_zero,List.getElem?_cons_succ]at d1;have hj:=(show∀(K:Prop),(name=0→K)→(name≠0→K)→K from fun K a b=>(Nat.decEq name 0).byCases a b);clear HU f1 hR1;by_cases h0:name=0
 ·have b1:((name:Int) !=0)=false:=by simp;omega
  have b1':(name !=0)=false:=by simp;omega
  clear h0 hj;go_wp2_with fail;with_reducible refine(HF.out w1 F1.out).mono ?_
  rintro e w2 ⟨hfe,hw⟩;have hw:=hw.symm;subst hw;rcases hfe with⟨i,d,rfl,hd,hd1,hd2⟩|⟨rfl,hno⟩
  ·have HQ:=hid (show∃d∈Es,d.p=name∧d.ty=typ from⟨d,List.mem_of_getElem? hd,hd1,hd2⟩)
   clear hd hd1 hd2;go_wp2_with fail;go_ret;exact .inl ⟨HQ.out,rfl,F1.out⟩
  ·have HNo:=hid hno
   clear hno HF HA;obtain⟨g3,cp3,w3,hq⟩:=HA1.out w1 F1.out ⟨x,name,typ,ex,adr,Ls.length,cpr,false⟩;obtain⟨hrun,hz3,⟨c3,hc3⟩,he3,hf3,ho3⟩:=hq _ rfl;clear hq;obtain⟨D4,hD4,hn4⟩:=HD1.out.ents he3 hf3 ho3;have HRUN:=hid hrun;have D4':=hid hD4;have N4:=hid hn4;have d0:=HD1.out.e.st.cell 0;have d2:=hD4.e.st.cell 2;simp only[List.getElem?_toArray,List.getElem?_cons_zero,List.getElem?_cons_succ]at d0 d2;have hpw:=HD1.out.e.st.lt
   have R4:=hid (show RecO (w3.setCell ⟨p,0,none⟩ (.slice (some ⟨g3,0,none⟩) (Es.length+1) cp3)) w.heap.size (.slice adr Ls.length cpr) Ls from HR1.out.fr hf3 (fun k hk=>by
    have:=HD.out.lt k;have hm:=HD1.out.mem k;rcases List.mem_cons.1 hk with e|e
    ·exact this (hm.2 (.inl e))
    ·exact this (hm.2 (.inr (.inr (.inr (.inl e)))))))
   clear hrun hD4 hn4 he3 hf3 ho3 HD1 HR1;go_wp2_with (first|(at_builtin;refine za1 rfl (.tmp 48) (.tmp 55) 75 rfl rfl _ _ _ _ rfl rfl HRUN.out ?_)|fail);with_reducible refine(HI.out _ D4'.out.g).mono ?_
   rintro e w5 ⟨rfl,h5,f5⟩;obtain⟨D5,ad5,cap5,hD5,hn5⟩:=D4'.out.ring h5 f5;have HFin:=hid (And.intro hD5 ((Nd.of0 F1.out).trans (N4.out.trans hn5)))
   have R5:=hid (show RecO w5 w.heap.size (.slice adr Ls.length cpr) Ls from R4.out.fr f5 (fun k hk=>by
    obtain rfl:=List.mem_singleton.1 hk;exact HD.out.lt _ ((HD.out.mem _).2 (.inr (.inr (.inl rfl))))))
   clear h5 f5 hD5 hn5;go_wp2_with fail;go_ret;exact .inr ⟨HNo.out,rfl,D5,adr,cpr,⟨_,_,ad5,cap5,HFin.out.1⟩,HFin.out.2,R5.out⟩
 ·have b1:((name:Int) !=0)=true:=by simp;omega
  have b1':(name !=0)=true:=by simp;omega
  have hat:=HA.out w1 F1.out h0;clear h0 hj;go_wp2_with fail;with_reducible refine hat.mono ?_
  rintro e w2 ⟨⟨i,rfl,hi⟩,hw⟩;have hw:=hw.symm;subst hw;have b2:decide ((i:Int)<0)=false:=decide_eq_false (by omega);clear hi hat;go_wp2_with fail;with_reducible refine(HF.out w1 F1.out).mono ?_
  rintro e w2 ⟨hfe,hw⟩;have hw:=hw.symm;subst hw;rcases hfe with⟨i,d,rfl,hd,hd1,hd2⟩|⟨rfl,hno⟩
  ·have HQ:=hid (show∃d∈Es,d.p=name∧d.ty=typ from⟨d,List.mem_of_getElem? hd,hd1,hd2⟩)
   clear hd hd1 hd2;go_wp2_with fail;go_ret;exact .inl ⟨HQ.out,rfl,F1.out⟩
  ·have HNo:=hid hno
   clear hno HF HA;obtain⟨g3,cp3,w3,hq⟩:=HA1.out w1 F1.out ⟨x,name,typ,ex,adr,Ls.length,cpr,false⟩;obtain⟨hrun,hz3,⟨c3,hc3⟩,he3,hf3,ho3⟩:=hq _ rfl;clear hq;obtain⟨D4,hD4,hn4⟩:=HD1.out.ents he3 hf3 ho3;have HRUN:=hid hrun;have D4':=hid hD4;have N4:=hid hn4;have d0:=HD1.out.e.st.cell 0;have d2:=hD4.e.st.cell 2;simp only[List.getElem?_toArray,List.getElem?_cons_zero,List.getElem?_cons_succ]at d0 d2;have hpw:=HD1.out.e.st.lt
   have R4:=hid (show RecO (w3.setCell ⟨p,0,none⟩ (.slice (some ⟨g3,0,none⟩) (Es.length+1) cp3)) w.heap.size (.slice adr Ls.length cpr) Ls from HR1.out.fr hf3 (fun k hk=>by
    have:=HD.out.lt k;have hm:=HD1.out.mem k;rcases List.mem_cons.1 hk with e|e
    ·exact this (hm.2 (.inl e))
    ·exact this (hm.2 (.inr (.inr (.inr (.inl e)))))))
   clear hrun hD4 hn4 he3 hf3 ho3 HD1 HR1;go_wp2_with (first|(at_builtin;refine za1 rfl (.tmp 48) (.tmp 55) 75 rfl rfl _ _ _ _ rfl rfl HRUN.out ?_)|fail);with_reducible refine(HI.out _ D4'.out.g).mono ?_
   rintro e w5 ⟨rfl,h5,f5⟩;obtain⟨D5,ad5,cap5,hD5,hn5⟩:=D4'.out.ring h5 f5;have HFin:=hid (And.intro hD5 ((Nd.of0 F1.out).trans (N4.out.trans hn5)))
   have R5:=hid (show RecO w5 w.heap.size (.slice adr Ls.length cpr) Ls from R4.out.fr f5 (fun k hk=>by
    obtain rfl:=List.mem_singleton.1 hk;exact HD.out.lt _ ((HD.out.mem _).2 (.inr (.inr (.inl rfl))))))
   clear h5 f5 hD5 hn5;go_wp2_with fail;go_ret;exact .inr ⟨HNo.out,rfl,D5,adr,cpr,⟨_,_,ad5,cap5,HFin.out.1⟩,HFin.out.2,R5.out⟩
end
structure Nk(q:MH)(D:List Nat)(w:World)(D':List Nat)(w':World):Prop where
 f:Fr (q.blocks++D) w w'
 o: ∀k∈D',k∈D∨w.heap.size≤k
theorem Nk.trans{q:MH}{D D1 D2:List Nat}{w w1 w2:World}(h:Nk q D w D1 w1)(h2:Nk q D1 w1 D2 w2):Nk q D w D2 w2:=
 ⟨h.f.step h2.f (fun k hk=>by
  rcases List.mem_append.1 hk with e|e
  ·exact .inl (List.mem_append_left _ e)
  ·exact(h.o k e).imp (List.mem_append_right _) id),fun k hk=>(h2.o k hk).elim (fun e=>h.o k e) (fun e=> .inr (Nat.le_trans h.f.size e))⟩
theorem Nk.ofQ{q:MH}{D:List Nat}{w W:World}(h:Fr q.blocks w W):Nk q D w D W:=⟨h.mono (fun k hk=> .inl (List.mem_append_left _ hk)),fun k hk=> .inl hk⟩
theorem Nk.of0{q:MH}{D:List Nat}{w W:World}(h:Fr [] w W):Nk q D w D W:=⟨h.nil,fun k hk=> .inl hk⟩
theorem Nk.ofD{q:MH}{D D':List Nat}{w W:World}(h:Nd D w D' W):Nk q D w D' W:=⟨h.f.mono (fun k hk=> .inl (List.mem_append_right _ hk)),h.o⟩
structure KE(wa:World)(q:MH)(base p pn pr:Nat)(D:List Nat)(g:EW)(l:List Nat)(par own:Nat→Nat)(nm:Nat→List (List Nat))(fr:Nat)(Es:List ED)(R:List Nat)(b:Nat)(W:World):Prop where
 c:CP wa q g l par own nm fr W
 d:DE W p pn pr D Es R b l par own nm
 ok:zfi wa q base
 hD: ∀k∈D,base≤k
section
variable {wa w W W' : World} {q : MH} {base p pn pr fr b x : Nat} {D D' l R : List Nat} {g : EW} {par own : Nat → Nat} {nm : Nat → List (List Nat)} {Es : List ED} {N : List (List Nat)} {k j at_ frj : Nat} {lj : List Nat} {parj : Nat → Nat} {nmj : Nat → List (List Nat)}
theorem KE.qD(k:KE wa q base p pn pr D g l par own nm fr Es R b W):∀k∈q.blocks,k∉D:=fun x hx hd=>by
 have:=k.ok.q x hx;have:=k.hD x hd;omega
theorem KE.fr0(k:KE wa q base p pn pr D g l par own nm fr Es R b W)(hf:Fr [] W W'):KE wa q base p pn pr D g l par own nm fr Es R b W':=⟨k.c.fr0 hf,k.d.fr0 hf,k.ok,k.hD⟩
theorem zdf{D D':List Nat}(hD:∀k∈D,base≤k)(hw:base≤w.heap.size)(h:∀k∈D',k∈D∨w.heap.size≤k):∀k∈D',base≤k:=fun k hk=>(h k hk).elim (hD k) (fun e=>Nat.le_trans hw e)
theorem Nk.cell{gb o:Nat}{v:Value}(h:Nk q D w D' W)(hg:gb<w.heap.size)(hq:gb∉q.blocks)(hd:gb∉D)(hc:w.cell? ⟨gb,o,none⟩=some v):W.cell? ⟨gb,o,none⟩=some v:=
 (h.f.cell (p:=⟨gb,o,none⟩) hg (fun hm=>(List.mem_append.1 hm).elim hq hd)).trans hc
def Gn24(wa:World)(q:MH)(base p pn pr:Nat)(D:List Nat)(g:EW)(l:List Nat)(par own:Nat→Nat)(nm:Nat→List (List Nat))(Es:List ED)(R:List Nat)(b:Nat)(L:List (List Nat))(w:World)(e:Ending)(w':World):Prop:=
 ∃D',Nk q D w D' w'∧
  ((e= .returned (.tuple #[.int .i64 0,.bool false])∧(chkN L≠0∨L≠ [])∧ ∃fr1,KE wa q base p pn pr D' g l par own nm fr1 Es R b w')∨
   (∃at_:Nat,e= .returned (.tuple #[.int .i64 at_,.bool true])∧chkN L=0∧ ∃j kk lj parj nmj frj,kk+j=L.length∧GwI wa q g l par own nm (lowN L) kk j at_ lj parj nmj frj w'∧KE wa q base p pn pr D' g lj parj (ownP own at_) nmj frj Es R b w'))
def DNs(w:World)(p pn pr:Nat)(D:List Nat)(Es:List ED)(R:List Nat)(b:Nat)(l:List Nat)(par own:Nat→Nat)(nm:Nat→List (List Nat)):Prop:= ∃vN,DD w pn vN l par own nm∧w.cell? ⟨p,1,none⟩=some (.pointer (some ⟨pn,0,none⟩))∧ ∀{W vN' l' par' own' nm'},Nx pn vN w vN' W→DD W pn vN' l' par' own' nm'→ ∃D',DE W p pn pr D' Es R b l' par' own' nm'∧Nd D w D' W
theorem DE.ns(h:DE W p pn pr D Es R b l par own nm):DNs W p pn pr D Es R b l par own nm:=by
 obtain⟨vE,vN,ad,cap,h⟩:=h;refine⟨vN,h.n,?_,fun hx hd=> ?_⟩
 ·have:=h.e.st.cell 1
  simpa using this
 ·obtain⟨D',h1,h2⟩:=h.nodes hx hd
  exact⟨D',⟨_,_,_,_,h1⟩,h2⟩
theorem DE.c1(h:DE W p pn pr D Es R b l par own nm):W.cell? ⟨p,1,none⟩=some (.pointer (some ⟨pn,0,none⟩)):=by
 obtain⟨vN,_,h,_⟩:=h.ns;exact h
theorem z1g(h:DE w p pn pr D Es R b l par own nm)(d:DN l par own nm)(ad:Option Addr)(cap:Nat)(L:List (List Nat))(hA:StrA w ad L)(hb:zb4 L≤1000000)(ho:∀y,own y≤900000000):Calls prog 94 #[.pointer (some ⟨pn,0,none⟩),.slice ad L.length cap] w fun e w'=>∃D',Nd D w D' w'∧((chkN L≠0∧e= .returned (.tuple #[.int .i64 0,.int .i64 0,.int .i64 (chkN L)])∧DE w' p pn pr D' Es R b l par own nm)∨(chkN L=0∧∃at_ k:Nat,e= .returned (.tuple #[.int .i64 at_,.int .i64 k,.int .i64 0])∧Kn l nm (lowN L) at_ k∧DE w' p pn pr D' Es R b l par (ownP own at_) nm)):=by
 obtain⟨vN,h1,_,h2⟩:=h.ns;refine(xpin h1 d ad cap L hA hb ho).mono fun e w' ⟨f,hh⟩=> ?_;have hx:Nx pn vN w vN w':=⟨f.mono (fun k hk=> .inl (List.mem_cons_of_mem _ hk)),fun k hk=> .inl hk⟩;rcases hh with⟨a,b,c⟩|⟨a,at_,k,b,c,d⟩
 ·obtain⟨D',e1,e2⟩:=h2 hx c
  exact⟨D',e2,.inl ⟨a,b,e1⟩⟩
 ·obtain⟨D',e1,e2⟩:=h2 hx d
  exact⟨D',e2,.inr ⟨a,at_,k,b,c,e1⟩⟩
theorem zzh{a:Nat}{s:List Nat}(h:DE w p pn pr D Es R b l par own nm)(d:DN l par own nm)(gr:GrQ l par own x a)(hb:∀k∈s,k<256)(hk:zap s=true)(hno:∀y∈l,nm y≠s.map lowB::nm a)(ho:∀y,own y≤900000000):Calls prog 97 #[.pointer (some ⟨pn,0,none⟩),.int .i64 a,.int .i64 x,.string (zag s)] w fun e w'=>∃D',e= .returned (.int .i64 0)∧Nd D w D' w'∧DE w' p pn pr D' Es R b (l++ [x]) (up par x a) (ownG own x a) (up nm x (s.map lowB::nm a)):=by
 obtain⟨vN,h1,_,h2⟩:=h.ns;refine(z1q h1 d gr hb hk hno ho).mono fun e w' ⟨v',he,hd,hx⟩=> ?_;obtain⟨D',e1,e2⟩:=h2 hx hd;exact⟨D',he,e2,e1⟩
theorem ztm(h:DE w p pn pr D Es R b l par own nm)(d:DN l par own nm)(hx:x∈l)(k:Nat)(ho:own x=k+1)(ho2:∀y,own y≤900000000):Calls prog 41 #[.pointer (some ⟨pn,0,none⟩),.int .i64 x] w fun e w'=>∃(n:Nat) (l1:List Nat) (D':List Nat),e= .returned (.tuple #[.int .i64 (n:Nat),.int .i64 0])∧Nd D w D' w'∧DE w' p pn pr D' Es R b l1 par (up own x k) nm∧Rem (up own x k) par l l1∧n+l1.length=l.length∧Firm (up own x k) par l1:=by
 obtain⟨vN,h1,_,h2⟩:=h.ns;refine(z0k h1 d hx k ho ho2).mono fun e w' ⟨n,l1,v',he,hd,hr,hn,hf,hx⟩=> ?_;obtain⟨D',e1,e2⟩:=h2 hx hd;exact⟨n,l1,D',he,e2,e1,hr,hn,hf⟩
theorem GwI.undoE(gw:GwI wa q g l par own nm N k j at_ lj parj nmj frj W')(hF:Firm own par l)(hat:at_≠0){l1:List Nat}(h1:DE W p pn pr D Es R b l1 parj (up (ownP own at_) at_ (own at_)) nmj)(h2:Rem (up (ownP own at_) at_ (own at_)) parj lj l1)(h3:Firm (up (ownP own at_) at_ (own at_)) parj l1):DE W p pn pr D Es R b l par own nm:=by
 obtain⟨vE,vN,ad,cap,h⟩:=h1;exact⟨vE,vN,ad,cap,h.e,gw.undoD hF hat h.n h2 h3,h.g,h.d⟩
theorem GwI.undoE0(gw:GwI wa q g l par own nm N k j 0 lj parj nmj frj W')(hk:k+j≤N.length)(h1:DE W p pn pr D Es R b lj parj (ownP own 0) nmj):DE W p pn pr D Es R b l par own nm:=by
 obtain⟨vE,vN,ad,cap,h⟩:=h1;exact⟨vE,vN,ad,cap,h.e,gw.undoD0 hk h.n,h.g,h.d⟩
theorem zw3(kz:Nat)(h:KE wa q base p pn pr D g l par own nm fr Es R b w)(ad:Option Addr)(cap:Nat)(L:List (List Nat))(hA:StrA w ad L)(hAq:0<L.length→∀gb o,ad=some ⟨gb,o,none⟩→gb∉q.blocks∧gb∉D)(hb:zb4 L≤1131)(hl:L.length≤130)(ho:∀y,own y≤1000000):Calls prog 35 #[.int .i64 kz,.pointer (some ⟨q.m,0,none⟩),.pointer (some ⟨p,0,none⟩),.slice ad L.length cap] w (Gn24 wa q base p pn pr D g l par own nm Es R b L w):=by
 have HP:=hid (z1e h.c ad cap L hA (fun h0 g o e=>(hAq h0 g o e).1) (by omega) (fun y=>by have:=ho y;omega));have hdn:=h.c.dn;have HXP:=hid (fun W (hf:Fr q.blocks w W)=>z1g (h.d.frS hf h.qD) hdn ad cap L (hA.frN hf (fun h0 g o e=>(hAq h0 g o e).1)) (by omega) (fun y=>by have:=ho y;omega));have HK:=hid h;have HA:=hid hA;have HQ:=hid (fun g (hg:g<w.heap.size) (hn:g∉q.blocks∧g∉D) W D' (hW:Nk q D w D' W) o u (hc:w.cell? ⟨g,o,none⟩=some u)=>hW.cell hg hn.1 hn.2 hc);have HAq:=hid hAq;have HO:=hid ho;have HDN:=hid hdn;have HW:=hid (show base≤w.heap.size from Nat.le_of_lt (Nat.lt_of_le_of_lt (h.hD p (by obtain⟨vE,vN,ad,cap,h⟩:=h.d;exact(h.mem p).2 (.inl rfl))) (h.d.lt p (by obtain⟨vE,vN,ad,cap,h⟩:=h.d;exact(h.mem p).2 (.inl rfl)))));obtain⟨n,hn⟩:∃n,L.length=n:=⟨_,rfl⟩;have HN:=hid hn;rw[hn]at hl HP HXP⊢;clear h hA hAq hb ho hn hdn;go_enter func35,ntmps35;go_wp2_with fail;with_reducible refine HP.out.mono ?_
 rintro e w1 ⟨f1,⟨hck,rfl,h1⟩|⟨hck,at0,k,rfl,hk,h1⟩⟩
 ·have hxp:=HXP.out _ f1
  have F1:=hid f1;have C1:=hid h1;have HCK:=hid hck;have d1:=(HK.out.d.frS f1 HK.out.qD).c1;have bc:((chkN L:Int) !=0)=true:=by rw[bne_iff_ne];omega
  have bc':(chkN L !=0)=true:=by rw[bne_iff_ne];exact hck
  generalize hce:chkN L=ck at*;have HCE:=hid hce;clear hce;clear f1 h1 hck HP HXP;go_wp2_with fail;with_reducible refine hxp.mono ?_
  rintro e w2 ⟨D2,n2,⟨-,rfl,h2⟩|⟨hc0,-⟩⟩
  ·have HE:=hid (show Gn24 wa q base p pn pr D g l par own nm Es R b L w (.returned (.tuple #[.int .i64 0,.bool false])) w2 from⟨D2,(Nk.ofQ F1.out).trans (Nk.ofD n2),.inl ⟨rfl,.inl (by rw[HCE.out];exact HCK.out),fr,C1.out.frL HK.out.ok n2.f HK.out.hD,h2,HK.out.ok,zdf HK.out.hD HW.out (fun k hk=>(n2.o k hk).imp id (fun e=>Nat.le_trans F1.out.size e))⟩⟩)
   clear n2 h2 hxp;go_wp2_with fail;go_ret2;exact HE.out
  ·exact absurd hc0 HCK.out
 ·have hxp:=HXP.out _ f1
  have F1:=hid f1;have C1:=hid h1;have HCK:=hid hck;have HK1:=hid hk;have d1:=(HK.out.d.frS f1 HK.out.qD).c1;rw[hck]at hxp;clear f1 h1 hck HP HXP hk;go_wp2_with fail;with_reducible refine hxp.mono ?_
  rintro e w2 ⟨D2,n2,⟨hc0,-⟩|⟨-,at1,k1,rfl,hk1,h2⟩⟩
  ·exact absurd rfl hc0
  obtain⟨rfl,rfl⟩:=HK1.out.uniq HDN.out hk1;have hkn:k≤n:=by have:=hk1.le;rw[zas,HN.out]at this;exact this
  have N2:=hid (show Nk q D w D2 w2 from(Nk.ofQ F1.out).trans (Nk.ofD n2));have G2:=hid (GwI.start (own:=own) (C1.out.frL HK.out.ok n2.f HK.out.hD) hk1);have K2:=hid (show KE wa q base p pn pr D2 g l par (ownP own at0) nm fr Es R b w2 from⟨G2.out.cp,h2,HK.out.ok,zdf HK.out.hD HW.out (fun k hk=>(n2.o k hk).imp id (fun e=>Nat.le_trans F1.out.size e))⟩);have w1':IntKind.i64.wrap ((n:Int)-k)=((n-k:Nat):Int):=by rw[i64_in _ (by omega)];omega
  have w2':IntKind.i64.wrap (((n-k:Nat):Int)-1)=((n-k:Nat):Int)-1:=i64_in _ (by omega);obtain⟨R0,hR⟩:∃R0,n-k=R0:=⟨_,rfl⟩;rw[hR]at w1' w2';have hRn:k+R0=n:=by omega
  clear hxp n2 h2 hk1 hR C1 HK1 F1 d1;go_wp2_with fail;go_loopg [10,13] (R0+1) (fun gk v10 v13 W=>∃(j at_ m:Nat),v10= .int .i64 at_∧v13= .int .i64 ((m:Int)-1)∧(m+1=gk∧j+m=R0)∧Hid (∃D' lj parj nmj frj,GwI wa q g l par own nm (lowN L) k j at_ lj parj nmj frj W∧KE wa q base p pn pr D' g lj parj (ownP own at_) nmj frj Es R b W∧Nk q D w D' W));case atStart=>exact⟨0,at0,R0,rfl,rfl,by omega,hid ⟨_,_,_,_,_,G2.out,K2.out,N2.out⟩⟩
  case round=>
   clear G2 K2 N2;obtain⟨j,at_,m,rfl,rfl,hm,HG⟩:=hrel;cases m with
   |zero=>
    have HE:=hid (show Gn24 wa q base p pn pr D g l par own nm Es R b L w (.returned (.tuple #[.int .i64 at_,.bool true])) wr from by
     obtain⟨D',lj,parj,nmj,frj,h1,h2,h3⟩:=HG.out;exact⟨D',h3,.inr ⟨at_,rfl,HCK.out,j,k,lj,parj,nmj,frj,by rw[HN.out];omega,h1,h2⟩⟩)
    rw[show(((0:Nat):Int)-1)= -1 from rfl];clear HG HCK;go_wp2_with fail;go_ret2;exact HE.out
   |succ t=>
    have ez:(((t+1:Nat):Int)-1)=(t:Int):=by omega
    rw[ez];have hL:t<L.length:=by rw[HN.out];omega
    have HNE:=hid (show L≠ []from fun e=>by rw[e]at hL;simp at hL);obtain⟨gb,o,rfl,hc,hg⟩:=HA.out.at_ t hL;have hgd:L[t]?=some (L[t]'hL):=List.getElem?_eq_getElem hL;rw[hgd]at hc;simp only[Option.getD_some]at hc;have hs:=HA.out.lt _ (List.getElem_mem hL)
    have hsk:zap (L[t]'hL)=true:=by
     have hck:=HCK.out;unfold chkN at hck;by_cases ha:L.all zap=true
     ·exact List.all_eq_true.1 ha _ (List.getElem_mem hL)
     ·rw[if_neg ha]at hck;cases hck
    have HSX:=hid (show sfx (lowN L) (k+j+1)=(L[t]'hL).map lowB::sfx (lowN L) (k+j)from by
     rw[zc3 (by rw[zas,HN.out];omega)];congr 1;simp only[lowN,List.getElem_map,List.length_map,HN.out];congr 1;congr 1;omega)
    have hkl:k+j<(lowN L).length:=by rw[zas,HN.out];omega
    obtain⟨D',lj,parj,nmj,frj,hG,hKj,hNj⟩:=HG.out;have HcW:=hid (fun W D2 (hW:Nk q D w D2 W)=>HQ.out gb hg (HAq.out (by omega) gb o rfl) W D2 hW _ _ hc);have hcW:=HcW.out _ _ hNj;generalize L[t]'hL=s at*;have hs63:=(zfo hsk).2;have hcls:=zpl (16+s.length) (by omega);have HCl:=hid (zu5 hG.cp hs hsk);have HTk:=hid (fun W' (hf:Fr [] wr W')=>zt2 (hG.cp.fr0 hf) (c:=clsN (16+s.length)) ⟨hcls.1,hcls.2.1⟩);have HG2:=hid hG;have HKJ:=hid hKj;have HNJ:=hid hNj
    have hpa:at_=0∨(at_∈lj∧ownP own at_ at_≠0):=hG.pl.imp id (fun hm=>⟨hm,by
      have h0:at_≠0:=(hG.cp.rng hm).1;rw[zbe _ h0];omega⟩)
    have hnos:∀y∈lj,nmj y≠s.map lowB::nmj at_:=fun y hy e=>hG.no hkl y hy (by rw[e,HSX.out,hG.ew])
    have HGr:=hid (fun W x (hW:CPT wa q g lj parj (ownP own at_) nmj x (clsN (16+s.length)) W)=>zxo hW (p:=at_) hpa hs hsk hnos (fun _=>by
      have:=zhd own at_ at_;have:=HO.out at_;omega) hG.cp.few)
    have HXG:=hid (fun W x (hW:DE W p pn pr D' Es R b lj parj (ownP own at_) nmj) (h1:x∉lj) (h2:x≠0)=>zzh hW hG.cp.dn ⟨h1,h2,hpa⟩ hs hsk hnos (fun y=>by
      have:=zhd own at_ y;have:=HO.out y;omega))
    have HXD:=hid (fun(h0:at_≠0) W (hW:DE W p pn pr D' Es R b lj parj (ownP own at_) nmj)=>ztm hW hG.cp.dn (hG.pl.resolve_left h0) (own at_) (zbe own h0) (fun y=>by
      have:=zhd own at_ y;have:=HO.out y;omega))
    have HX0:=hid (fun x (hx:x∉lj)=>(show own x=0 from by
     have h1:=hG.cp.out hx;have h2:=zv2 own at_ x;omega))
    have HKL:=hid hkl;have HNDj:=hid hG.cp.nd;have b1:decide ((0:Int)≤t)=true:=by simp
    have t0:(0:Int)≤t:=by omega
    have t1:(t:Int)<n:=by omega
    have wt:=i64_in ((t:Int)-1) (by omega);generalize zag s=S at*;generalize clsN (16+s.length)=cl at*;clear hc hgd hL hs hsk hG hs63 hcls hkl ez HG hKj hNj hpa hnos;go_wp2_with fail;with_reducible refine HCl.out.mono ?_
    rintro e w3 ⟨rfl,f3⟩;have HTk':=hid (HTk.out _ f3);have F3:=hid (f3.nil (S:=q.blocks));clear f3 HCl HTk hcW;go_wp2_with fail;with_reducible refine HTk'.out.mono ?_
    rintro e w4 ⟨x,r,rfl,f4,⟨rfl,h4⟩|⟨rfl,h4⟩⟩
    ·have F4:=hid (F3.out.trans f4)
     have D4:=hid (HKJ.out.d.frS F4.out HKJ.out.qD);have H4:=hid h4;clear f4 h4 HTk' HGr HX0 HXG;by_cases ha:at_=0
     ·subst ha
      have HU:=hid (show CP wa q g l par own nm 0 w4 from(⟨H4.out,HG2.out.pl,HG2.out.ew,HG2.out.rem,HG2.out.pa,HG2.out.na,HG2.out.len,HG2.out.sf,HG2.out.no⟩:GwI wa q g l par own nm (lowN L) k j 0 lj parj nmj 0 w4).undo0 (Nat.le_of_lt HKL.out));have HE:=hid (show Gn24 wa q base p pn pr D g l par own nm Es R b L w (.returned (.tuple #[.int .i64 0,.bool false])) w4 from⟨D',HNJ.out.trans (Nk.ofQ F4.out),.inl ⟨rfl,.inr HNE.out,_,HU.out,HG2.out.undoE0 (Nat.le_of_lt HKL.out) D4.out,HKJ.out.ok,HKJ.out.hD⟩⟩);have d1:=D4.out.c1;clear HU H4 HG2 HXD;go_wp2_with fail;with_reducible refine(zfp).mono ?_
      rintro e w5 ⟨rfl,he⟩;rw[he];clear he;go_wp2_with fail;with_reducible refine(zh2).mono ?_
      rintro e w6 ⟨rfl,he⟩;rw[he];clear he;go_wp2_with fail;go_ret2;exact HE.out
     ·have HDr:=hid (zp4 H4.out (HG2.out.pl.resolve_left ha) (own at_) (zbe own ha))
      have HAT:=hid ha;clear ha H4;go_wp2_with fail;with_reducible refine HDr.out.mono ?_
      rintro e w5 ⟨n5,l1,fr1,rfl,f5,h5,h5b,h5c⟩;have D5:=hid (D4.out.frS f5 HKJ.out.qD);have hxd:=HXD.out HAT.out _ D5.out;have d1:=D5.out.c1;have F5:=hid (F4.out.trans f5);have H5:=hid h5;have R5:=hid h5b;clear f5 h5 h5b h5c HDr;go_wp2_with fail;with_reducible refine hxd.mono ?_
      rintro e w6 ⟨n6,l6,D6,rfl,x6,h6,r6,c6,m6⟩;have HE:=hid (show Gn24 wa q base p pn pr D g l par own nm Es R b L w (.returned (.tuple #[.int .i64 0,.bool false])) w6 from⟨D6,(HNJ.out.trans (Nk.ofQ F5.out)).trans (Nk.ofD x6),.inl ⟨rfl,.inr HNE.out,fr1,HG2.out.undo HK.out.c.firm HAT.out (H5.out.frL HK.out.ok x6.f HKJ.out.hD) R5.out,HG2.out.undoE HK.out.c.firm HAT.out h6 r6 m6,HK.out.ok,zdf HKJ.out.hD (Nat.le_trans HW.out (Nat.le_trans HNJ.out.f.size F5.out.size)) x6.o⟩⟩);clear h6 r6 c6 m6 x6 hxd HG2;go_wp2_with fail;go_ret2;exact HE.out
    ·have F4:=hid (F3.out.trans f4)
     have HGr':=hid (HGr.out _ _ h4);have hcW:=HcW.out _ _ (HNJ.out.trans (Nk.ofQ F4.out));clear f4 h4 HTk' HGr;go_wp2_with fail;with_reducible refine HGr'.out.mono ?_
     rintro e w5 ⟨rfl,f5,hx1,hx2,hx3,fr5,h5⟩;have F5:=hid (F4.out.trans f5);have D5:=hid (HKJ.out.d.frS F5.out HKJ.out.qD);have HXg:=hid (fun W (hf:Fr [] w5 W)=>HXG.out W x (D5.out.fr0 hf) hx1 hx2);have N5:=hid (HNJ.out.trans (Nk.ofQ F5.out));have C5:=hid h5;have X5:=hid (And.intro hx1 (And.intro hx2 hx3));clear f5 h5 hx1 hx2 hx3 hcW HGr' HXG;have hY:=And.intro (HcW.out _ _ (N5.out.trans (Nk.of0 ((Fr.refl [] w5).drew)))) (D5.out.fr0 (Fr.refl [] w5).drew).c1;go_wp2_with fail;refine wp_region_held_drew (S:=fun W=>W.cell? ⟨gb,o+t,none⟩=some (.string S)∧W.cell? ⟨p,1,none⟩=some (.pointer (some ⟨pn,0,none⟩))) (by kernel_rfl) (hY) (fun yH=> ?_);refine tkY 0 yH ?_;refine tkY 1 yH ?_;refine tkY 2 yH ?_;refine tkY 3 yH ?_;refine tkY 4 yH ?_;refine tkY 5 yH ?_;refine tkY 6 yH ?_;refine tkY 7 yH ?_;refine tkY 8 yH ?_;refine tkY 9 yH ?_;refine tkC 10 fun K hK=> ?_;go_simp;with_reducible refine(HXg.out _ (Fr.refl [] _).drew).mono ?_
     rintro e w6 ⟨D6,rfl,x6,d6⟩;have x6':=(Nd.of0 (D:=D') (Fr.refl [] w5).drew).trans x6;have N6:=hid (N5.out.trans (Nk.ofD x6'));have G6:=hid (HG2.out.next HKL.out HSX.out X5.out.1 X5.out.2.1 X5.out.2.2 (HX0.out x X5.out.1) (C5.out.frL HK.out.ok x6'.f HKJ.out.hD));rw[zp1 X5.out.2.1 (HX0.out x X5.out.1) X5.out.2.2]at d6;have hY:=And.intro (HcW.out _ _ N6.out) d6.c1;have K6:=hid (show KE wa q base p pn pr D6 g _ _ _ _ _ Es R b w6 from⟨G6.out.cp,d6,HK.out.ok,zdf HKJ.out.hD (Nat.le_trans HW.out N5.out.f.size) x6'.o⟩);clear d6 x6 x6';go_wp2_with fail;refine hK.out _ _ _ hY fun yH=> ?_;clear hK K;refine wpAnyH_done (by kernel_rfl) ?_ _;try simp only[Act.put,List.getElem_toArray,List.getElem_cons_zero,List.getElem_cons_succ,List.setIfInBounds_toArray,List.set_cons_zero,List.set_cons_succ]
     clear hY HX0 HXg HXD;go_wp2_with fail;go_roundg (gk-1);case measure=>omega
     case rel=>exact⟨j+1,x,t,rfl,rfl,by omega,hid ⟨D6,_,_,_,_,G6.out,K6.out,N6.out⟩⟩
end
theorem zkx:∀(k:Nat) (L:List (List Nat)),∀e∈zbs k L,e≤k+L.flatten.length
 |k,[],e,h=>by cases h
 |k,x::L,e,h=>by
  simp only[zbs,List.mem_cons]at h;rw[List.flatten_cons,List.length_append];rcases h with rfl|h
  ·omega
  ·have:=zkx (k+x.length) L e h
   omega
theorem zue{L:List (List Nat)}(hG:GoodR L)(hb:∀x∈L,∀b∈x,b<256):∀b∈zad L,b<256:=by
 have h1:=hG.n;have h2:=hG.s;have h3:=hG.size;intro b hm;simp only[zad,List.mem_cons,List.mem_append,List.mem_flatMap,List.mem_flatten]at hm;rcases hm with rfl|rfl|⟨e,he,hm⟩|⟨x,hx,hm⟩
 ·omega
 ·omega
 ·have:=zkx 0 L e he
  simp only[le2,List.mem_cons,List.not_mem_nil,or_false]at hm;rcases hm with rfl|rfl<;>omega
 ·exact hb x hx b hm
structure ERel(g:EW)(Es:List ED):Prop where
 y:Es.map (·.y)=g.R
 f: ∀d∈Es,d.p=(g.d d.y).name∧d.ty=(g.d d.y).typ
section
variable {wa w W : World} {q : MH} {base p pn pr fr b x c name typ ex : Nat} {D D' l R : List Nat} {g : EW} {par own : Nat → Nat} {nm : Nat → List (List Nat)} {Es : List ED} {k j at_ frj : Nat} {lj : List Nat} {parj : Nat → Nat} {nmj : Nat → List (List Nat)}
theorem ERel.in_(h:ERel g Es){z:Nat}:z∈g.R↔∃d∈Es,d.y=z:=by
 rw[←h.y,List.mem_map]
theorem isKey_iff{E:Nat→HB}{z:Nat}:zbg E name typ z=true↔(E z).name=name∧(E z).typ=typ:=by
 unfold zbg;simp
theorem ERel.none(h:ERel g Es)(hn:g.R.find? (zbg g.d name typ)=none):∀d∈Es,d.p=name→d.ty≠typ:=fun d hd e1 e2=>by
 have:=List.find?_eq_none.1 hn d.y (h.in_.2 ⟨d,hd,rfl⟩);exact this (isKey_iff.2 ⟨by rw[←(h.f d hd).1,e1],by rw[←(h.f d hd).2,e2]⟩)
theorem ERel.some(h:ERel g Es){z:Nat}(hn:g.R.find? (zbg g.d name typ)=some z):∃d∈Es,d.p=name∧d.ty=typ:=by
 have h1:=List.find?_some hn;obtain⟨d,hd,e⟩:=h.in_.1 (List.mem_of_find?_eq_some hn);obtain⟨k1,k2⟩:=isKey_iff.1 h1;exact⟨d,hd,by rw[(h.f d hd).1,e,k1],by rw[(h.f d hd).2,e,k2]⟩
theorem EHs.sub(h:EHs g l nm)(hs:∀y∈l,y∈lj)(hn:∀y,y=0∨y∈l→nmj y=nm y):EHs g lj nmj:=
 ⟨fun y hy=>(h.ok y hy).imp id (hs _),fun y hy=>by rw[hn _ (h.ok y hy)];exact h.hs y hy,h.one⟩
theorem EHs.add(h:EHs g l nm)(hx:x∉g.R){X:HB}{bs:List Nat}(hN:X.name=0∨X.name∈l)(hh:X.hash=keyH (HN (nm X.name)) X.typ)(hn:g.R.find? (zbg g.d X.name X.typ)=none):EHs (g.add x X bs) l nm:=by
 have hne:∀{y},y∈g.R→y≠x:=fun{y} hy e=>hx (e▸hy)
 have hm:∀{y},y∈(g.add x X bs).R→y∈g.R∨y=x:=fun{y} hy=>by
  rcases List.mem_append.1 (show y∈g.R++ [x]from hy)with k|k
  ·exact .inl k
  ·exact .inr (List.mem_singleton.1 k)
 have e1:∀{y},y∈g.R→(g.add x X bs).d y=g.d y:=fun{y} hy=>zac _ _ (hne hy);have e2:(g.add x X bs).d x=X:=zaa _ _ _;have hno:=List.find?_eq_none.1 hn;refine⟨fun y hy=> ?_,fun y hy=> ?_,fun y hy z hz k1 k2=> ?_⟩
 ·rcases hm hy with k|rfl
  ·rw[e1 k];exact h.ok y k
  ·rw[e2];exact hN
 ·rcases hm hy with k|rfl
  ·rw[e1 k];exact h.hs y k
  ·rw[e2];exact hh
 ·rcases hm hy with k|rfl<;>rcases hm hz with k'|rfl
  ·rw[e1 k,e1 k']at k1 k2;exact h.one y k z k' k1 k2
  ·rw[e1 k,e2]at k1 k2;exact absurd (isKey_iff.2 ⟨k1,k2⟩) (hno y k)
  ·rw[e1 k',e2]at k1 k2;exact absurd (isKey_iff.2 ⟨k1.symm,k2.symm⟩) (hno z k')
  ·rfl
theorem zsp(h:CP wa q g l par own nm fr W)(n:Nat)(hn:n≤480):Calls prog 36 #[.int .i64 n] W fun e w'=>e= .returned (.tuple #[.int .i64 (clsM (32+n)),.int .i64 0])∧w'=W:=by
 obtain⟨refs,B,⟨S,L,u,E,B0,gi,_⟩,_⟩:=h;exact zop gi.wb.h.m.tab n hn
theorem zjn(h:CP wa q g l par own nm fr W)(p name:Nat):Calls prog 34 #[.pointer (some ⟨q.m,0,none⟩),.int .i64 p,.int .i64 name,.int .u16 typ,.int .u64 ex,.slice none 0 0] W fun e w'=>e= .returned (.int .i64 3)∧Fr [] W w':=by
 obtain⟨refs,B,⟨S,L,u,E,B0,gi,_⟩,_⟩:=h;exact zov gi.wb.h.m p name
theorem CP.rfew(h:CP wa q g l par own nm fr W):g.R.length≤224∧g.R.Nodup:=by
 obtain⟨refs,B,⟨S,L,u,E,B0,gi,ha,hd,_⟩,_⟩:=h;exact⟨gi.wb.fewL hd.nd (fun y hy=>(ha.2 y hy).1),hd.nd⟩
theorem CPT.nR(h:CPT wa q g l par own nm x c W):x∉g.R:=fun hm=>by
 obtain⟨refs,B,⟨S,L,v,E,B0,gi,hfx,ha,_⟩,_⟩:=h;exact hfx.no (ha.2 x hm).1
theorem CP.empty(h:CP wa q g [] par own nm fr W)(hR:g.R= []):fr=7:=by
 obtain⟨refs,B,h1,_⟩:=h;exact h1.empty hR
def Pt24(wa:World)(q:MH)(base p pn pr:Nat)(D:List Nat)(g:EW)(l:List Nat)(par own:Nat→Nat)(nm:Nat→List (List Nat))(Es:List ED)(L:List (List Nat))(typ ex:Nat)(Ls:List (List Nat))(w:World)(e:Ending)(w':World):Prop:=
 ∃D',Nk q D w D' w'∧
  ((e= .returned (.tuple #[.int .i64 0,.bool true])∧(GoodR Ls→chkN L=0→L= [] →g.R= [] →l= [] →False)∧ ∃fr1,KE wa q base p pn pr D' g l par own nm fr1 Es g.R g.b w')∨
   (∃(x name:Nat) (l1:List Nat) (par1:Nat→Nat) (nm1:Nat→List (List Nat)) (fr1:Nat) (ad:Option Addr) (cp:Nat),e= .returned (.tuple #[.int .i64 x,.bool true])∧(x≠0∧x<1048576∧x∉g.R∧x∉l1)∧GoodR Ls∧chkN L=0∧(name=0∨name∈l1)∧nm1 name=lowN L∧(∀y∈l,y∈l1)∧(∀y,y=0∨y∈l→nm1 y=nm y)∧g.R.find? (zbg g.d name typ)=none∧RecO w' w.heap.size (.slice ad Ls.length cp) Ls∧
    KE wa q base p pn pr D' (g.add x (enX (clsM (32+(zad Ls).length)) (zad Ls).length name typ ex (keyH (HN (nm1 name)) typ)) (zad Ls)) l1 par1 (ownP own name) nm1 fr1 (Es++ [⟨x,name,typ,ex,ad,Ls.length,cp,false⟩]) (g.R++ [x]) (insB g.R g.b x) w'))
theorem zzu{P:Nat→Prop}(kz:Nat)(h:KE wa q base p pn pr D g l par own nm fr Es g.R g.b w)(hr:ERel g Es)(hE:EHs g l nm)(ad:Option Addr)(cap:Nat)(L:List (List Nat))(hA:StrA w ad L)(hAq:0<L.length→∀gb o,ad=some ⟨gb,o,none⟩→gb∉q.blocks∧gb∉D)(hb:zb4 L≤1131)(hl:L.length≤130)(ho:∀y,own y≤1000000)
  (adr:Option Addr) (capr:Nat) (Ls:List (List Nat)) (hRA:RecA P w adr Ls) (ht:typ<65536) (hex:ex<18446744073709551616):
  Calls prog 11 #[.int .i64 kz,.pointer (some ⟨q.m,0,none⟩),.pointer (some ⟨p,0,none⟩),.slice ad L.length cap,.int .u16 typ,.int .u64 ex,.slice adr Ls.length capr] w (Pt24 wa q base p pn pr D g l par own nm Es L typ ex Ls w):=by
 by_cases hG:zdc Ls=0
 ·have hG:=packE_0.1 hG
  have hPk:=z0v w adr capr Ls hRA hG;rw[show zci Ls=(zad Ls).length from by rw[hG.size,zar]]at hPk;have hpl:(zad Ls).length≤480:=by rw[zar,←hG.size];exact hG.s
  have HPB:=hid (zue hG hRA.byte);have HPK:=hid hPk;have HGr:=hid (fun W (hW:Fr [] w W)=>(show Calls prog 35 #[.int .i64 0,.pointer (some ⟨q.m,0,none⟩),.pointer (some ⟨p,0,none⟩),.slice ad L.length cap] W (Gn24 wa q base p pn pr D g l par own nm Es g.R g.b L W)from zw3 0 (h.fr0 hW) ad cap L (hA.frN hW (fun _ _ _ _=>by simp)) hAq hb hl ho));have HK:=hid h;have HR:=hid hr;have HEH:=hid hE;have HGd:=hid hG;have HO:=hid ho;have HT:=hid (And.intro ht hex);have HqD:=hid h.qD;have HW:=hid (show base≤w.heap.size from Nat.le_of_lt (Nat.lt_of_le_of_lt (h.hD p (by obtain⟨vE,vN,ad,cap,h⟩:=h.d;exact(h.mem p).2 (.inl rfl))) (h.d.lt p (by obtain⟨vE,vN,ad,cap,h⟩:=h.d;exact(h.mem p).2 (.inl rfl)))))
  have HFew:=hid (show Es.length≤1000∧g.R.length≤1000 from by
   have e:Es.length=g.R.length:=by rw[←hr.y,List.length_map]
   have:=h.c.rfew.1;omega)
  obtain⟨nL,hnL⟩:∃nL,L.length=nL:=⟨_,rfl⟩;have HNL:=hid hnL;obtain⟨nP,hnP⟩:∃nP,(zad Ls).length=nP:=⟨_,rfl⟩;have HNP:=hid hnP;rw[hnL]at HGr⊢;rw[hnP]at HPK hpl;obtain⟨nR,hnR⟩:∃nR,Ls.length=nR:=⟨_,rfl⟩;have HNR:=hid hnR;rw[hnR]at HPK⊢;clear h hr hE hA hAq hb hl ho hRA ht hex hG hPk hnL hnP hnR;go_enter func11,ntmps11;go_wp2_with fail;with_reducible refine HPK.out.mono ?_
  rintro e w1 ⟨g0,rfl,hg0,hb1,f1⟩;have hgr:=HGr.out w1 f1;have F1:=hid f1;have B1:=hid (hb1.byt HPB.out (by rw[HNP.out];omega));have HG0:=hid hg0;clear hg0 hb1 f1 HPK HGr;go_wp2_with fail;with_reducible refine hgr.mono ?_
  rintro e w2 ⟨D',n2,⟨rfl,hwhy,fr1,h2⟩|⟨at_,rfl,hck,j,kk,lj,parj,nmj,frj,hkj,hgw,h2⟩⟩
  ·have HE:=hid (show Pt24 wa q base p pn pr D g l par own nm Es L typ ex Ls w (.returned (.tuple #[.int .i64 0,.bool true])) w2 from⟨D',(Nk.of0 F1.out).trans n2,.inl ⟨rfl,fun _ k1 k2 _ _=>hwhy.elim (fun k=>k k1) (fun k=>k k2),fr1,h2⟩⟩)
   clear n2 hwhy h2 hgr;go_wp2_with fail;go_ret2;exact HE.out
  have N2:=hid ((Nk.of0 (D:=D) F1.out).trans n2)
  have B2:=hid (show Byt w2 (some ⟨g0,0,none⟩) (zad Ls)from B1.out.fr n2.f (fun gb o e=>by
   injection e with e;injection e with e _;subst e;intro hm;have h1:=HG0.out;rcases List.mem_append.1 hm with hm|hm
   ·have:=HK.out.ok.q _ hm
    have:=HW.out;omega
   ·have:=HK.out.d.lt _ hm
    omega))
  have HG:=hid hgw;have K2:=hid h2;have HCK:=hid hck;have HKJ:=hid hkj;have HKL:=hid (show kk+j≤(lowN L).length from by rw[zas];omega);have HCe:=hid (zsp h2.c nP hpl);have hcl:=zji (32+nP) (by omega);have HTk:=hid (zt2 h2.c ⟨hcl.1,hcl.2.1⟩)
  have HXD:=hid (fun(h0:at_≠0) W D' (hW:DE W p pn pr D' Es g.R g.b lj parj (ownP own at_) nmj)=>ztm hW hgw.cp.dn (hgw.pl.resolve_left h0) (own at_) (zbe own h0) (fun y=>by
   have:=zhd own at_ y;have:=HO.out y;omega))
  have HD':=hid h2.hD;clear n2 hgw h2 hck hgr HO hcl hkj;go_wp2_with fail;with_reducible refine HCe.out.mono ?_
  rintro e w3 ⟨rfl,hw3⟩;have hw3:=hw3.symm;subst hw3;obtain⟨cl,hcl⟩:∃cl,clsM (32+nP)=cl:=⟨_,rfl⟩;have HCL:=hid hcl;rw[hcl]at HTk;rw[hcl];clear hcl HCe;go_wp2_with fail;with_reducible refine HTk.out.mono ?_
  rintro e w4 ⟨x,r,rfl,f4,⟨rfl,h4⟩|⟨rfl,h4⟩⟩
  ·obtain⟨frT,hfrT⟩:∃frT,0=frT:=⟨_,rfl⟩
   have WHY:=hid (show GoodR Ls→chkN L=0→L= []→g.R= []→l= []→False from fun _ _ k2 k3 k4=>by
    have e1:=HG.out.len;have e2:=HKJ.out;rw[k4]at e1;rw[k2]at e2;simp at e1 e2;have e3:lj= [] :=List.eq_nil_of_length_eq_zero (by omega);rw[e3]at h4;have:=h4.empty k3;omega)
   rw[hfrT]at h4;have N8:=hid (N2.out.trans (Nk.ofQ f4));have D8:=hid (K2.out.d.frS f4 K2.out.qD);have C8:=hid h4;have HqD:=hid K2.out.qD;obtain⟨w8,hw8⟩:∃w8,w4=w8:=⟨_,rfl⟩;subst hw8;have HXD:=hid (fun h0 W hW=>HXD.out h0 W D' hW);clear f4 h4 HTk hfrT;go_wp2_with fail;by_cases ha:at_=0
   ·subst ha
    have HU:=hid (show CP wa q g l par own nm frT w4 from(⟨C8.out,HG.out.pl,HG.out.ew,HG.out.rem,HG.out.pa,HG.out.na,HG.out.len,HG.out.sf,HG.out.no⟩:GwI wa q g l par own nm (lowN L) kk j 0 lj parj nmj frT w4).undo0 HKL.out);have HE:=hid (show Pt24 wa q base p pn pr D g l par own nm Es L typ ex Ls w (.returned (.tuple #[.int .i64 0,.bool true])) w4 from⟨D',N8.out,.inl ⟨rfl,WHY.out,_,HU.out,HG.out.undoE0 HKL.out D8.out,HK.out.ok,HD'.out⟩⟩);have d1:=D8.out.c1;clear HU HG;go_wp2_with fail;first|(with_reducible refine(show Calls prog 40 #[.pointer (some ⟨q.m,0,none⟩),.int .i64 ((0:Nat):Int)] _ fun e w'=>e= .returned (.tuple #[.int .i64 0,.int .i64 0])∧w'=_ from zfp).mono ?_)|(with_reducible refine(zfp).mono ?_)
    rintro e w9 ⟨rfl,he⟩;rw[he];clear he;go_wp2_with fail;first|(with_reducible refine(show Calls prog 41 #[.pointer (some ⟨pn,0,none⟩),.int .i64 ((0:Nat):Int)] _ fun e w'=>e= .returned (.tuple #[.int .i64 0,.int .i64 0])∧w'=_ from zh2).mono ?_)|(with_reducible refine(zh2).mono ?_)
    rintro e w10 ⟨rfl,he⟩;rw[he];clear he;go_wp2_with fail;go_ret2;exact HE.out
   ·have HDr:=hid (zp4 C8.out (HG.out.pl.resolve_left ha) (own at_) (zbe own ha))
    have HAT:=hid ha;clear ha;go_wp2_with fail;with_reducible refine HDr.out.mono ?_
    rintro e w9 ⟨n5,l1,fr1,rfl,f5,h5,h5b,h5c⟩;have D9:=hid (D8.out.frS f5 HqD.out);have hxd:=HXD.out HAT.out _ D9.out;have d1:=D9.out.c1;have F9:=hid f5;have H9:=hid h5;have R9:=hid h5b;have L9:=hid h5c;clear f5 h5 h5b h5c HDr;go_wp2_with fail;with_reducible refine hxd.mono ?_
    rintro e w10 ⟨n6,l6,D6,rfl,x6,h6,r6,c6,m6⟩;have el:l6=l1:=r6.uniq R9.out m6 H9.out.firm HG.out.cp.nd;have en:n6=n5:=by have:=L9.out;rw[el]at c6;omega
    subst en;have be:((n6:Int)==n6)=true:=by simp
    have HE:=hid (show Pt24 wa q base p pn pr D g l par own nm Es L typ ex Ls w (.returned (.tuple #[.int .i64 0,.bool true])) w10 from⟨D6,(N8.out.trans (Nk.ofQ F9.out)).trans (Nk.ofD x6),.inl ⟨rfl,WHY.out,fr1,HG.out.undo HK.out.c.firm HAT.out (H9.out.frL HK.out.ok x6.f HD'.out) R9.out,HG.out.undoE HK.out.c.firm HAT.out h6 r6 m6,HK.out.ok,zdf HD'.out (Nat.le_trans HW.out (Nat.le_trans N8.out.f.size F9.out.size)) x6.o⟩⟩);clear h6 r6 c6 m6 x6 hxd HG;go_wp2_with fail;go_ret2;exact HE.out
  ·have h4':=h4.fr0 (Fr.refl [] w4)
   have C4:=hid h4;have HqD:=hid K2.out.qD;have HXD:=hid (fun h0 W hW=>HXD.out h0 W D' hW);have N4:=hid (N2.out.trans (Nk.ofQ f4));have D4:=hid (K2.out.d.frS f4 K2.out.qD)
   have B4:=hid (show Byt w4 (some ⟨g0,0,none⟩) (zad Ls)from B2.out.fr f4 (fun gb o e=>by
    injection e with e;injection e with e _;subst e;intro hm;have h1:=HG0.out;have:=HK.out.ok.q _ hm;have:=HW.out;omega))
   have HEJ:=hid (HEH.out.sub HG.out.sub HG.out.na)
   have HMk:=hid (show Calls prog 34 #[.pointer (some ⟨q.m,0,none⟩),.int .i64 x,.int .i64 at_,.int .u16 typ,.int .u64 ex,.slice (some ⟨g0,0,none⟩) nP nP] w4 _ from by
    have:=zuu (name:=at_) (typ:=typ) (ex:=ex) (by rw[HNP.out,HCL.out];exact h4) HEJ.out HGd.out (some ⟨g0,0,none⟩) nP B4.out (Nat.le_of_eq HNP.out) (fun k o e=>by
     injection e with e;injection e with e _;subst e;intro hm;have h1:=HG0.out;have:=HK.out.ok.q _ hm;have:=HW.out;omega) HG.out.pl HT.out.1 HT.out.2
    rw[HNP.out]at this;exact this)
   clear f4 h4 h4' HTk;go_wp2_with fail;with_reducible refine HMk.out.mono ?_
   rintro e w5 ⟨f5,⟨rfl,hfi,hxR,hxl,hx0,hxb,fr5,h5⟩|⟨rfl,⟨z,hfi⟩,h5⟩⟩
   ·have D5:=hid (D4.out.frS f5 HqD.out)
    have N5:=hid (N4.out.trans (Nk.ofQ f5))
    have B5:=hid (B4.out.fr f5 (fun gb o e=>by
     injection e with e;injection e with e _;subst e;intro hm;have h1:=HG0.out;have:=HK.out.ok.q _ hm;have:=HW.out;omega))
    have HXM:=hid (show Calls prog 38 #[.pointer (some ⟨p,0,none⟩),.int .i64 x,.int .i64 at_,.int .u16 typ,.int .u64 ex,.slice (some ⟨g0,0,none⟩) nP nP] w5 (MkD w5 p pn pr D' Es g.R g.b lj parj (ownP own at_) nmj x at_ typ ex Ls)from by
     have:=ztw (x:=x) (typ:=typ) (ex:=ex) D5.out HFew.out.1 (by have:=HG.out.cp.few;omega) HFew.out.2 HGd.out (some ⟨g0,0,none⟩) nP B5.out (Nat.le_of_eq HNP.out) HG.out.pl hxR;rw[HNP.out]at this;exact this)
    have C5:=hid h5;have HX:=hid (And.intro hx0 (And.intro hxb (And.intro hxR hxl)));have HFI:=hid hfi;clear f5 h5 hfi hxR hxl hx0 hxb HMk;go_wp2_with fail;with_reducible refine HXM.out.mono ?_
    rintro e w6 (⟨hk,rfl,-⟩|⟨-,rfl,D6,ad6,cp6,d6,n6,r6⟩)
    ·obtain⟨d,hd,hd1,hd2⟩:=hk
     exact absurd hd2 (HR.out.none HFI.out d hd hd1)
    ·have HE:=hid (show Pt24 wa q base p pn pr D g l par own nm Es L typ ex Ls w (.returned (.tuple #[.int .i64 x,.bool true])) w6 from⟨D6,N5.out.trans (Nk.ofD n6),.inr ⟨x,at_,lj,parj,nmj,fr5,ad6,cp6,rfl,HX.out,HGd.out,HCK.out,HG.out.pl,by rw[HG.out.ew,HKJ.out,←zas,zp8],HG.out.sub,HG.out.na,HFI.out,r6.lo (Nat.le_trans N5.out.f.size (Nat.le_refl _)),by rw[HNP.out];exact C5.out.frL HK.out.ok n6.f HD'.out,d6,HK.out.ok,zdf HD'.out (Nat.le_trans HW.out N5.out.f.size) n6.o⟩⟩)
     clear d6 n6 r6 HXM;go_wp2_with fail;go_ret2;exact HE.out
   ·have D5:=hid (D4.out.frS f5 HqD.out)
    have N5:=hid (N4.out.trans (Nk.ofQ f5))
    have B5:=hid (B4.out.fr f5 (fun gb o e=>by
     injection e with e;injection e with e _;subst e;intro hm;have h1:=HG0.out;have:=HK.out.ok.q _ hm;have:=HW.out;omega))
    have HXM:=hid (fun hxR=>(show Calls prog 38 #[.pointer (some ⟨p,0,none⟩),.int .i64 x,.int .i64 at_,.int .u16 typ,.int .u64 ex,.slice (some ⟨g0,0,none⟩) nP nP] w5 (MkD w5 p pn pr D' Es g.R g.b lj parj (ownP own at_) nmj x at_ typ ex Ls)from by
     have:=ztw (x:=x) (typ:=typ) (ex:=ex) D5.out HFew.out.1 (by have:=HG.out.cp.few;omega) HFew.out.2 HGd.out (some ⟨g0,0,none⟩) nP B5.out (Nat.le_of_eq HNP.out) HG.out.pl hxR;rw[HNP.out]at this;exact this))
    have HXR:=hid h5.nR;have WHY:=hid (show GoodR Ls→chkN L=0→L= []→g.R= []→l= []→False from fun _ _ _ k3 _=>by rw[k3]at hfi;cases hfi);have HGv:=hid (fun W (hf:Fr [] w5 W)=>zvu (h5.fr0 hf));have HFI:=hid (HR.out.some hfi);clear f5 hfi h5 HMk;go_wp2_with fail;with_reducible refine(HXM.out HXR.out).mono ?_
    rintro e w6 (⟨-,rfl,f6⟩|⟨hno,-⟩)
    ·have hgv:=HGv.out w6 f6
     have F6:=hid f6;have b8:((8:Int) !=8)=false:=by decide
     clear f6 HXM HGv;go_wp2_with fail;with_reducible refine hgv.mono ?_
     rintro e w8 ⟨rfl,f8,frT,h8⟩;have D8:=hid ((D5.out.fr0 F6.out).frS f8 HqD.out);have N8:=hid ((N5.out.trans (Nk.of0 F6.out)).trans (Nk.ofQ f8));have C8:=hid h8;clear f8 h8 hgv;go_wp2_with fail;by_cases ha:at_=0
     ·subst ha
      have HU:=hid (show CP wa q g l par own nm frT w8 from(⟨C8.out,HG.out.pl,HG.out.ew,HG.out.rem,HG.out.pa,HG.out.na,HG.out.len,HG.out.sf,HG.out.no⟩:GwI wa q g l par own nm (lowN L) kk j 0 lj parj nmj frT w8).undo0 HKL.out);have HE:=hid (show Pt24 wa q base p pn pr D g l par own nm Es L typ ex Ls w (.returned (.tuple #[.int .i64 0,.bool true])) w8 from⟨D',N8.out,.inl ⟨rfl,WHY.out,_,HU.out,HG.out.undoE0 HKL.out D8.out,HK.out.ok,HD'.out⟩⟩);have d1:=D8.out.c1;clear HU HG;go_wp2_with fail;first|(with_reducible refine(show Calls prog 40 #[.pointer (some ⟨q.m,0,none⟩),.int .i64 ((0:Nat):Int)] _ fun e w'=>e= .returned (.tuple #[.int .i64 0,.int .i64 0])∧w'=_ from zfp).mono ?_)|(with_reducible refine(zfp).mono ?_)
      rintro e w9 ⟨rfl,he⟩;rw[he];clear he;go_wp2_with fail;first|(with_reducible refine(show Calls prog 41 #[.pointer (some ⟨pn,0,none⟩),.int .i64 ((0:Nat):Int)] _ fun e w'=>e= .returned (.tuple #[.int .i64 0,.int .i64 0])∧w'=_ from zh2).mono ?_)|(with_reducible refine(zh2).mono ?_)
      rintro e w10 ⟨rfl,he⟩;rw[he];clear he;go_wp2_with fail;go_ret2;exact HE.out
     ·have HDr:=hid (zp4 C8.out (HG.out.pl.resolve_left ha) (own at_) (zbe own ha))
      have HAT:=hid ha;clear ha;go_wp2_with fail;with_reducible refine HDr.out.mono ?_
      rintro e w9 ⟨n5,l1,fr1,rfl,f5,h5,h5b,h5c⟩;have D9:=hid (D8.out.frS f5 HqD.out);have hxd:=HXD.out HAT.out _ D9.out;have d1:=D9.out.c1;have F9:=hid f5;have H9:=hid h5;have R9:=hid h5b;have L9:=hid h5c;clear f5 h5 h5b h5c HDr;go_wp2_with fail;with_reducible refine hxd.mono ?_
      rintro e w10 ⟨n6,l6,D6,rfl,x6,h6,r6,c6,m6⟩;have el:l6=l1:=r6.uniq R9.out m6 H9.out.firm HG.out.cp.nd;have en:n6=n5:=by have:=L9.out;rw[el]at c6;omega
      subst en;have be:((n6:Int)==n6)=true:=by simp
      have HE:=hid (show Pt24 wa q base p pn pr D g l par own nm Es L typ ex Ls w (.returned (.tuple #[.int .i64 0,.bool true])) w10 from⟨D6,(N8.out.trans (Nk.ofQ F9.out)).trans (Nk.ofD x6),.inl ⟨rfl,WHY.out,fr1,HG.out.undo HK.out.c.firm HAT.out (H9.out.frL HK.out.ok x6.f HD'.out) R9.out,HG.out.undoE HK.out.c.firm HAT.out h6 r6 m6,HK.out.ok,zdf HD'.out (Nat.le_trans HW.out (Nat.le_trans N8.out.f.size F9.out.size)) x6.o⟩⟩);clear h6 r6 c6 m6 x6 hxd HG;go_wp2_with fail;go_ret2;exact HE.out
    ·obtain⟨d,hd,hd1,hd2⟩:=HFI.out
     exact absurd hd2 (hno d hd hd1)
 ·have HPK:=hid (zrg w adr capr Ls hRA hG)
  have HMk:=hid (show Calls prog 34 #[.pointer (some ⟨q.m,0,none⟩),.int .i64 1136,.int .i64 0,.int .u16 typ,.int .u64 ex,.slice none 0 0] w fun e w'=>e= .returned (.int .i64 3)∧Fr [] w w' from zjn (typ:=typ) (ex:=ex) h.c 1136 0);have HE:=hid (fun w2 (f2:Fr [] w w2)=>(show Pt24 wa q base p pn pr D g l par own nm Es L typ ex Ls w (.returned (.tuple #[.int .i64 0,.bool true])) w2 from⟨D,Nk.of0 f2,.inl ⟨rfl,fun k1 _ _ _ _=>hG (packE_0.2 k1),fr,h.fr0 f2⟩⟩));have b1:((zdc Ls:Int) !=0)=true:=by rw[bne_iff_ne];omega
  have b1':(zdc Ls !=0)=true:=by rw[bne_iff_ne];exact hG
  generalize zdc Ls=pe at*;clear h hr hE hA hAq hb hl ho hRA ht hex hG;go_enter func11,ntmps11;go_wp2_with fail;with_reducible refine HPK.out.mono ?_
  rintro e w1 ⟨rfl,hw⟩;have hw:=hw.symm;subst hw;clear HPK;go_wp2_with fail;with_reducible refine HMk.out.mono ?_
  rintro e w2 ⟨rfl,f2⟩;have HE2:=hid (HE.out w2 f2);clear f2 HE HMk;go_wp2_with fail;go_ret2;exact HE2.out
end
def ew0(t:TM):EW:=⟨t,[],0,fun _=>HB.zero,fun _=> []⟩
theorem zpz(kz:Nat)(w:World)(hM:TabM w)(hT:Tabs w):Calls prog 9 #[.int .i64 kz] w fun e w'=>∃(q:MH) (t:TM),e= .returned (.pointer (some ⟨q.m,0,none⟩))∧CP w q (ew0 t) [] (fun _=>0) (fun _=>0) (fun _=> []) 7 w'∧P0 t∧(∀k∈q.blocks,w.heap.size≤k)∧Fr [] w w':=by
 have hn:=(show Calls prog 28 #[.agg #[.int .i64 7,.int .i64 224]] w (NewH w 7 224)from hnew w hM hT 7 224 cfg7);go_enter func9,ntmps9;go_wp2_with fail;with_reducible refine hn.mono ?_
 rintro e w1 ⟨q,rfl,h1,hq,f1⟩;have HB:=hid (zme h1 cfg7);have HQ:=hid hq;have F1:=hid f1;clear h1 hq f1 hn;go_wp2_with fail;with_reducible refine HB.out.mono ?_
 rintro e w2 ⟨rfl,f2,u,h2,s2,a2,b2,c2,d2⟩;have HG:=hid (zya h2 d2);have OK:=hid h2.m.ok;have S2:=hid (And.intro s2 (And.intro a2 (And.intro b2 (And.intro c2 d2))));have F2:=hid (F1.out.step f2 (fun k hk=> .inr (HQ.out k hk)));clear h2 HB s2 a2 b2 c2 d2 f2;go_wp2_with fail;with_reducible refine HG.out.mono ?_
 rintro e w3 ⟨rfl,h3,f3⟩;have HBe:=hid (zx0 h3);have F3:=hid (F2.out.step f3 (fun k hk=> .inr (HQ.out k hk)));clear h3 HG f3;go_wp2_with fail;with_reducible refine HBe.out.mono ?_
 rintro e w4 ⟨rfl,h4,f4⟩;have HRb:=hid (zxx h4);have OK4:=hid h4.m.ok;have F4:=hid (F3.out.step f4 (fun k hk=> .inr (HQ.out k hk)));clear h4 HBe f4;go_wp2_with fail;with_reducible refine HRb.out.mono ?_
 rintro e w5 ⟨rfl,h5,f5⟩;have H4:=hid h5;have F4:=hid (F4.out.step f5 (fun k hk=> .inr (HQ.out k hk)));clear h5 HRb f5;go_wp2_with fail;go_ret;obtain⟨s2,a2,b2,c2,d2⟩:=S2.out;have o1:((u.setRt 17 0).setRt 13 0).Ok:=za5 OK4.out 13 0 (by decide);have o2:(((u.setRt 17 0).setRt 13 0).setRt 14 0).Ok:=za5 o1 14 0 (by decide);have hsl:SlI ((((u.setRt 17 0).setRt 13 0).setRt 14 0).setRt 15 0) SS.zero:=(((s2.root OK.out 17 0 (by decide) (.inr (by decide))).root OK4.out 13 0 (by decide) (.inr (by decide))).root o1 14 0 (by decide) (.inr (by decide))).root o2 15 0 (by decide) (.inr (by decide));obtain⟨t,ht⟩:∃t,(((u.setRt 17 0).setRt 13 0).setRt 14 0).setRt 15 0=t:=⟨_,rfl⟩;have e13:t.rt 13=0:=by rw[←ht];simp[TM.setRt_rt]
 have e14:t.rt 14=0:=by rw[←ht];simp[TM.setRt_rt]
 have e15:t.rt 15=0:=by rw[←ht];simp[TM.setRt_rt]
 have e17:t.rt 17=0:=by rw[←ht];simp[TM.setRt_rt]
 have ea:t.a=7:=by rw[←ht];exact a2
 have es:t.s=224:=by rw[←ht];exact b2
 have ef:t.ft=0:=by rw[←ht];exact c2
 have ez:t.sl=fun _=>0:=by rw[←ht];exact d2
 have H5:=H4.out;rw[ht]at H5 hsl
 have hwb:WB w q SS.zero (fun _=>False) t (fun _=>HB.zero) (fun _=> []) w5:=by
  refine⟨H5,hsl,⟨fun x hx=>hx.elim,fun i _=> .inl (by rw[ez]),?_,?_⟩,⟨⟨by decide,fun y=> ?_,fun s _ h0=>absurd (by rw[ez]) h0⟩,⟨0,by decide,.inl (by rw[ez])⟩,fun s s' _ _ h0=>absurd (by rw[ez]) h0⟩,fun x hx=>hx.elim,ea,es,ef,F4.out,HQ.out,fun i _ h=>absurd rfl h⟩
  ·rw[es];decide
  ·rw[es];decide
  ·unfold hmE;rw[es];exact Nat.mod_lt _ (by decide)
 have hni:NI w q SS.zero (fun _=>False) [] t (fun _=>HB.zero) (fun _=> []) w5:=by
  refine⟨hwb,List.nodup_nil,fun x=>⟨fun h=>(nomatch h),fun h=>h.1.elim⟩,e17,fun x hx=>⟨fun⟨s,hs,e⟩=>hx (by rw[←e];rw[ez]),fun h=>h.elim⟩,?_,?_,?_,?_⟩;all_goals(intro x hx;exact(nomatch hx))
 have hal:AllN SS.zero [] (ew0 t).R (fun _=>False):=⟨fun y m h=>by
  obtain⟨i,hi,hm,_⟩:=h;exact(nomatch hm),fun y hy=>(nomatch hy)⟩
 have hen:EnD (ew0 t) t (fun _=>HB.zero) (fun _=> []):=⟨fun _ _ _=>rfl,e13,e14,e15,List.nodup_nil,fun h=>absurd rfl h,fun _=>rfl,trivial,fun y hy=>(nomatch hy)⟩;exact⟨q,t,rfl,CP.start (refs:=fun _=>0) (B:=fun _=> []) ⟨SS.zero,fun _=>False,t,fun _=>HB.zero,fun _=> [],hni,hal,hen,fun y hy=>(nomatch hy),rfl⟩,⟨⟨e13,e14,e15⟩,H5.m.ok,ea,es,hsl,ez,ef,e17⟩,HQ.out,F4.out⟩
section
variable {w0 W : World} {q : MH} {x name typ fr : Nat} {R l : List Nat} {g : EW} {par own : Nat → Nat} {nm : Nat → List (List Nat)}
theorem zuj(h:CP w0 q g l par own nm fr W)(hE:EHs g l nm)(hx:name=0∨name∈l)(ht:typ<65536):Calls prog 27 #[.pointer (some ⟨q.m,0,none⟩),.int .i64 name,.int .u16 typ] W fun e w'=>e= .returned (ansN (g.R.find? (zbg g.d name typ)))∧CP w0 q g l par own nm fr w'∧Fr q.blocks W w':=by
 obtain⟨refs,B,⟨S,L,u,E,B0,gi,ha,hd,r,hfr⟩,kn,h3⟩:=h;refine(zng gi (fun z hz=> ?_) (fun z hz=>ha.2 z hz) hd r kn hE hx ht).mono fun e w' ⟨h1,h2,h4⟩=>⟨h1,⟨refs,B,⟨S,L,u,E,B0,gi.same h2 h4,ha,hd,r,hfr⟩,kn,h3⟩,h4⟩;obtain⟨m,hm⟩:=gi.wb.lv hz;rcases ha.1 z m hm with k|k
 ·exact .inl k
 ·exact .inr k
theorem zpn(h:CP w0 q g l par own nm fr W)(hx:x∈g.R):Calls prog 26 #[.pointer (some ⟨q.m,0,none⟩),.int .i64 8] W fun e w'=>e= .returned (.tuple #[.agg itZ,.int .i64 30])∧CP w0 q g l par own nm fr w'∧Fr q.blocks W w':=by
 obtain⟨u,X,hI,f,HM,-,-⟩:=h.en hx;have hk:=zv6 hI.m.ok;exact(zsx hI (zwr (8:Int) (by rw[hk];decide) (by rw[hk];decide))).mono fun e w' ⟨h1,h2,h3⟩=>⟨h1,HM _ h2 h3,h3⟩
end
theorem EHs.zero(t:TM)(l:List Nat)(nm:Nat→List (List Nat)):EHs (ew0 t) l nm:=⟨fun y hy=>(nomatch hy),fun y hy=>(nomatch hy),fun y hy=>(nomatch hy)⟩
theorem zug(w:World)(hM:TabM w)(hT:Tabs w):Calls prog 8 #[] w fun e w'=>e= .returned (.bool true)∧Fr [] w w':=by
 have hF:=(show Calls prog 9 #[.int .i64 0] w _ from zpz 0 w hM hT);obtain⟨S0,hS0⟩:∃S:ByteArray,⟨#[46]⟩=S:=⟨_,rfl⟩;have HS0:=hid hS0;have bS:(S0==⟨#[46]⟩)=true:=by rw[←hS0];decide
 have bS':S0.toList= [46] :=by rw[←hS0];decide+kernel
 clear hS0;go_enter func8,ntmps8;go_wp2_with fail;with_reducible refine hF.mono ?_
 rintro e w1 ⟨q,t,rfl,h1,-,hq,f1⟩;have hN:=hid (zx8 w1 (fun _=>0) (fun _=>0) (fun _=> []));have C1:=hid h1;have F1:=hid f1;have HQ:=hid hq;clear hF h1 f1 hq;go_wp2_with fail;with_reducible refine hN.out.mono ?_
 rintro e w2 ⟨p,pn,pr,D,rfl,d2,f2,hD⟩;obtain⟨w3,hw3⟩:∃w3,(w2.alloc (.cells #[.int .u8 120] 5 (1,2))).alloc (.cells #[.slice (some ⟨w2.heap.size,0,none⟩) 1 1] 44)=w3:=⟨_,rfl⟩;have f3:Fr [] w2 w3:=hw3▸((Fr.refl [] w2).alloc (.cells #[.int .u8 120] 5 (1,2))).alloc _;have K3:=hid (show KE w q w1.heap.size p pn pr D (ew0 t) [] (fun _=>0) (fun _=>0) (fun _=> []) 7 [] (ew0 t).R (ew0 t).b w3 from⟨C1.out.fr0 (f2.trans f3),d2.fr0 f3,C1.out.bok,hD⟩);have hr:ERel (ew0 t) [] :=⟨rfl,fun d hd=>(nomatch hd)⟩;have hE:EHs (ew0 t) [] (fun _=> []):=⟨fun y hy=>(nomatch hy),fun y hy=>(nomatch hy),fun y hy=>(nomatch hy)⟩
 have hRA:RecA (fun _=>True) w3 (some ⟨w2.heap.size+1,0,none⟩) [[120]] :=by
  have c1:w3.cell? ⟨w2.heap.size,0,none⟩=some (.int .u8 120):=by
   rw[←hw3];refine(((Fr.refl [] _).alloc _).cell (p:=⟨w2.heap.size,0,none⟩) (S:= []) (by rw[World.size_alloc];exact Nat.lt_succ_self _) (by simp)).trans ?_;exact World.cell?_alloc_mark w2 #[.int .u8 120] _ _ 0
  have c2:w3.cell? ⟨w2.heap.size+1,0,none⟩=some (.slice (some ⟨w2.heap.size,0,none⟩) 1 1):=by
   rw[←hw3];have:=zhj (w2.alloc (.cells #[.int .u8 120] 5 (1,2))) (.slice (some ⟨w2.heap.size,0,none⟩) 1 1) 44;rw[World.size_alloc]at this;exact this
  have hs3:w3.heap.size=w2.heap.size+2:=by rw[←hw3,World.size_alloc,World.size_alloc]
  refine⟨fun i hi=> ?_,by simp⟩;obtain rfl:i=0:=by simp at hi;omega
  refine⟨w2.heap.size+1,0,some ⟨w2.heap.size,0,none⟩,1,rfl,c2,⟨fun j hj=> ?_,fun b hb=> ?_,by simp⟩,by omega,trivial,fun _ _ _=>trivial⟩
  ·obtain rfl:j=0:=by simp at hj;omega
   exact⟨_,0,rfl,c1,by show w2.heap.size<_;omega⟩
  ·simp at hb;omega
 have kc:=Lib.run_convert_bytes_const (P:=prog) w2 44 5 #[.int .u8 120] 1 1 underlying44 underlying5;have HPut:=hid (show Calls prog 11 #[.int .i64 0,.pointer (some ⟨q.m,0,none⟩),.pointer (some ⟨p,0,none⟩),.slice none 0 0,.int .u16 1,.int .u64 0,.slice (some ⟨w2.heap.size+1,0,none⟩) 1 1] w3 (Pt24 w q w1.heap.size p pn pr D (ew0 t) [] (fun _=>0) (fun _=>0) (fun _=> []) [] [] 1 0 [[120]] w3)from zzu 0 K3.out hr hE none 0 [] ⟨fun i hi=>by simp at hi,fun s hs=>by simp at hs,fun s hs=>by simp at hs,by simp⟩ (fun h=>by simp at h) (by decide) (by decide) (fun _=>by decide) _ 1 [[120]] hRA (by decide) (by decide));have F3:=hid (F1.out.trans (f2.trans f3));clear f2 f3 d2 hD hr hE hRA hN;go_wp2_with fail;with_reducible refine HPut.out.mono ?_
 rintro e w4 ⟨D4,n4,⟨rfl,hno,-⟩|⟨x,name,l1,par1,nm1,fr1,ad1,cp1,rfl,⟨hx0,hxb,hxR,hxl⟩,hG,hck,hname,hnm,hsub,hna,hfi,hrec,k4⟩⟩
 ·exact(hno ⟨by decide,by decide⟩ (by decide) rfl rfl rfl).elim
 have hn0:name=0:=k4.c.inj hname (.inl rfl) (by rw[hnm,k4.c.z];rfl);subst hn0;obtain⟨g',hg'⟩:∃g',(ew0 t).add x (enX (clsM (32+(zad [[120]]).length)) (zad [[120]]).length 0 1 0 (keyH (HN (nm1 0)) 1)) (zad [[120]])=g':=⟨_,rfl⟩;have hC:=k4.c;rw[hg']at hC;have hR:g'.R= [x] :=by rw[←hg'];rfl
 have hd:g'.d x=enX (clsM (32+(zad [[120]]).length)) (zad [[120]]).length 0 1 0 (keyH (HN (nm1 0)) 1):=by rw[←hg'];exact zaa _ _ _
 have hp:g'.p x=zad [[120]] :=by rw[←hg'];exact zaa _ _ _
 have hxm:x∈g'.R:=by rw[hR];simp
 have e1:(g'.d x).name=0:=by rw[hd];rfl
 have e2:(g'.d x).typ=1:=by rw[hd];rfl
 have e3:(g'.d x).expiry=0:=by rw[hd];rfl
 have e4:(g'.d x).used=false:=by rw[hd];rfl
 have hEH:EHs g' l1 nm1:=by
  rw[←hg'];exact EHs.add (EHs.zero t l1 nm1) (by simp[ew0]) (.inl rfl) rfl rfl
 have HIt:=hid (fun V (hV:CP w q g' l1 par1 (ownP (fun _=>0) 0) nm1 fr1 V)=>(show Calls prog 26 #[.pointer (some ⟨q.m,0,none⟩),.int .i64 x] V fun e w'=>∃ad cp,e= .returned (.tuple #[.agg #[.string S0,.int .u16 1,.slice ad 1 cp,.int .u64 0,.bool false],.int .i64 0])∧RecO w' V.heap.size (.slice ad 1 cp) [[120]]∧CP w q g' l1 par1 (ownP (fun _=>0) 0) nm1 fr1 w'∧Fr q.blocks V w' from by
  have:=zz9 hV hxm hp hG [46] (fun V2 h2=>by rw[e1];exact zvv h2);rw[e2,e3,e4]at this;rw[←HS0.out];exact this))
 have HFi:=hid (fun V (hV:CP w q g' l1 par1 (ownP (fun _=>0) 0) nm1 fr1 V)=>(show Calls prog 27 #[.pointer (some ⟨q.m,0,none⟩),.int .i64 0,.int .u16 1] V fun e w'=>e= .returned (.tuple #[.int .i64 x,.bool true])∧CP w q g' l1 par1 (ownP (fun _=>0) 0) nm1 fr1 w'∧Fr q.blocks V w' from by
  have:=zuj (name:=0) (typ:=1) hV hEH (.inl rfl) (by decide);rw[hR,List.find?_cons,show zbg g'.d 0 1 x=true from isKey_iff.2 ⟨e1,e2⟩]at this;exact this))
 have HNo:=hid (fun V (hV:CP w q g' l1 par1 (ownP (fun _=>0) 0) nm1 fr1 V)=>zpn hV hxm);have HFl:=hid (fun V (hV:CP w q g' l1 par1 (ownP (fun _=>0) 0) nm1 fr1 V)=>z0f hV);have HC:=hid hC;have HqB:=hid hC.bok.q;have HX:=hid (And.intro hx0 hxb)
 have F4:=hid (show Fr [] w w4 from F3.out.step n4.f (fun k hk=> .inr (by
  rcases List.mem_append.1 hk with hk|hk
  ·exact HQ.out k hk
  ·have:=K3.out.hD k hk
   have:=F1.out.size;omega)))
 clear kc hw3;clear hC hR hd hp hxm e1 e2 e3 e4 hEH hg' k4 hfi hrec hna hsub hnm hck hG n4 hx0 hxb hxR hxl hname HPut;go_wp2_with fail;with_reducible refine(HIt.out _ HC.out).mono ?_
 rintro e w5 ⟨ad5,cp5,rfl,k5,h5,f5⟩;obtain⟨ad6,cp6,hv6,hr6⟩:=k5.recA (by decide) (by decide) (by decide);injection hv6 with e5 e7 e6;clear e7;subst e5 e6;have B6:=hid (show Blk (w5.alloc (.cells #[.string S0,.int .u16 1,.slice ad5 1 cp5,.int .u64 0,.bool false] 60)) w5.heap.size 60 #[.string S0,.int .u16 1,.slice ad5 1 cp5,.int .u64 0,.bool false]from Blk.new _ _ _);have f6:Fr [] w5 (w5.alloc (.cells #[.string S0,.int .u16 1,.slice ad5 1 cp5,.int .u64 0,.bool false] 60)):=(Fr.refl [] w5).alloc _;have C6:=hid (h5.fr0 f6);have R6:=hid (hr6.fr0 f6);have F6:=hid (f5.trans f6.nil);have HW5:=hid f5.size;have HFi6:=hid (HFi.out _ C6.out);clear k5 h5 f5 hr6 f6 HIt HFi;go_wp2_with fail;with_reducible refine HFi6.out.mono ?_
 rintro e w7 ⟨rfl,h7,f7⟩;have C7:=hid h7;have F7:=hid f7;have HNo7:=hid (HNo.out _ h7);clear h7 f7 HFi6 HNo;go_wp2_with fail;with_reducible refine HNo7.out.mono ?_
 rintro e w8 ⟨rfl,h8,f8⟩;have f9:Fr [] w8 (w8.alloc (.cells itZ 60)):=(Fr.refl [] w8).alloc _;have HFl9:=hid (HFl.out _ (h8.fr0 f9));have F9:=hid (F7.out.trans (f8.trans f9.nil));have B9:=hid (B6.out.fr F9.out (fun hm=>by have:=HqB.out _ hm;have:=HW5.out;omega));have R9:=hid (R6.out.fr F9.out (fun k hk=>by have:=HqB.out _ hk;omega));obtain⟨gr,o,a,c,rfl,hc',hb,-,-,-⟩:=R9.out.at_ 0 (by decide);have hb:Byt (w8.alloc (.cells itZ 60)) a [120] :=hb;have hc:(w8.alloc (.cells itZ 60)).cell? ⟨gr,o,none⟩=some (.slice a 1 c):=hc';have hcv:(convert 44 9 (.slice a 1 c)).run prog (w8.alloc (.cells itZ 60))= .ok (.string ⟨#[120]⟩) (w8.alloc (.cells itZ 60)):=zc6 (w8.alloc (.cells itZ 60)) a c [120] hb;have dd:=B9.out.cell;have b1:decide ((0:Int)<x)=true:=decide_eq_true (by have:=HX.out.1;omega);have b1':decide (0<x)=true:=decide_eq_true (by have:=HX.out.1;omega);have FF:=hid (fun W (hf:Fr q.blocks (w8.alloc (.cells itZ 60)) W)=>(show Fr [] w W from F4.out.step ((F6.out.trans F9.out).trans hf) (fun k hk=> .inr (HQ.out k hk))));clear h8 f8 f9 hb B6 R6 C6 C7 F6 F7 HNo7 HFl;clear hc';go_wp2_with fail;with_reducible refine HFl9.out.mono ?_
 rintro e w10 ⟨rfl,-,f10⟩;have FF10:=hid (FF.out _ f10);clear f10;go_wp2_with fail;go_ret;exact⟨rfl,FF10.out⟩
end Go.Proofs.YtolhkhdbgnciiaaGreatDoor
